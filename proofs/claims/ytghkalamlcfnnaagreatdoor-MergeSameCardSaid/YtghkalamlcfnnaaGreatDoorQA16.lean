/- EvTextL, BkText, TextsSame, BkSame, BkCopy, EvShort: texts joined. -/
import Derived.Test.YtghkalamlcfnnaaGreatDoorQA15
import Derived.Test.YtghkalamlcfnnaaGreatDoorQA7
import Derived.Test.YtghkalamlcfnnaaGreatDoorQA6
import Derived.Test.YtghkalamlcfnnaaGreatDoorQA14
import Derived.Test.YtghkalamlcfnnaaGreatDoorQBkBook
import Derived.Lib.BufferKept
import Derived.Test.YtghkalamlcfnnaaGreatDoorQA13
import Derived.Deep.CutRange
section
namespace Go.Proofs.YtghkalamlcfnnaaGreatDoor
open Go Go.RowKit Go.Shelf Lmd
attribute [local go_sem] Oper.semAt_some
namespace Evt
open Rul Day Cand Er Tp
theorem movesC {xs : List (Int × Int)} {v : Value} {er : Nat → Addr} {w : World} (hT : Tb w er) (hr : MReads w v xs) (hl : xs.length ≤ 100000) : MovesC v xs w :=
  fun W h => moves_any xs v er W (hT.below h) (hr.below h) hl
theorem etextW_le {e : Ev} (h : badE e = 0) : e.mv.length ≤ 100000 := by
  have := (badL_zero (badE_zero h).2.2.2.2.2).2.1
  omega
set_option maxRecDepth 100000 in
set_option maxHeartbeats 1000000 in
theorem etext_any (e : Ev) (vd vs vm : Value) (er : Nat → Addr) (w : World) (hT : Tb w er) (hr : Rv w e vd vs vm) (hz : Size e) :
    Calls Tryz.prog 70 #[.agg (e.cells vd vs vm)] w fun r w' => r = .returned (.string (if badE e = 0 then mk (textE e) else ⟨#[]⟩)) ∧ Below w.heap.size w w' := by
  by_cases hb : badE e = 0
  · rw [if_pos hb]
    exact text_good e vd vs vm er w hT hr hz hb (movesC hT hr.m (etextW_le hb))
  · rw [if_neg hb]
    obtain ⟨W, hW⟩ : ∃ W, w.alloc (.cells (e.cells vd vs vm) 40) = W := ⟨_, rfl⟩
    have hB : Below w.heap.size w W := by rw [← hW]; exact (Below.refl _ w).alloc (Nat.le_refl _) _
    have hx : W.heap[w.heap.size]? = some (.cells (e.cells vd vs vm) 40) := by rw [← hW]; exact heap_new w _
    have hc := check_any e vd vs vm er W (hT.errs.below hB) (hr.below hB) hz
    obtain ⟨q, hq⟩ : ∃ q, badE e = q + 1 := ⟨badE e - 1, by omega⟩
    rw [hq] at hc
    have HC := Lib.hid hc
    have HX := Lib.hid hx
    have HB := Lib.hid hB
    have HW := Lib.hid hW
    clear hT hr hz hb hW hB hx hc hq
    go_enter Tryz.func70, Tryz.ntmps70
    obtain ⟨k0, k1, k2, k3, k4, k5, k6, k7, k8, k9, k10⟩ := cells11 HX.out
    go_upto_region 1 with fail
    rw [HW.out]
    go_wp2_with fail
    (with_reducible refine HC.out.mono ?_)
    rintro e1 w1 ⟨rfl, hb1⟩
    have HB1 := Lib.hid (HB.out.trans (hb1.mono HB.out.size))
    clear hb1
    simp only [errV]
    go_wp2
    go_ret
    exact ⟨rfl, HB1.out⟩
theorem fields_low (w : World) : Calls Tryz.prog 93 #[] w fun e w' => e = .returned (.slice (some ⟨w.heap.size, 0, none⟩) 6 6) ∧ w'.heap[w.heap.size]? = some (.cells fieldsV 9) ∧ Below w.heap.size w w' :=
  (fields_new w).mono fun _ _ ⟨h1, h2⟩ => ⟨h1, by rw [h2]; exact heap_new w _, by rw [h2]; exact (Below.refl _ w).alloc (Nat.le_refl _) _⟩
end Evt
end Go.Proofs.YtghkalamlcfnnaaGreatDoor
end
section
namespace Go.Proofs.YtghkalamlcfnnaaGreatDoor
open Go Go.RowKit Go.Shelf Lmd
attribute [local go_sem] Oper.semAt_some
namespace Bk
open Evt Tp Rul Day Cand Er
set_option maxRecDepth 100000 in
set_option maxHeartbeats 4000000 in
theorem text_any (w : World) (B b m : Nat) (L : List Ev) (er : Nat → Addr) (hT : Tb w er) (h : Book w B b m L) (htl : ∀ k, (textB (L.take k)).length ≤ 100000000) :
    Calls Tryz.prog 29 #[.pointer (some ⟨b, 0, none⟩)] w fun r w' => r = .returned (.string (mk (textB L))) ∧ Below w.heap.size w w' := by
  obtain ⟨W, hW⟩ : ∃ W, w.alloc (.cells #[.pointer none, .slice none 0 0] 127) = W := ⟨_, rfl⟩
  have hB : Below w.heap.size w W := by rw [← hW]; exact (Below.refl _ w).alloc (Nat.le_refl _) _
  have his : Bd.Is w.heap.size w.heap.size [] W := by rw [← hW]; exact Bd.new_is w
  have hid := ids_any W B b m L (h.below hB)
  have HI := Lib.hid his
  have HW := Lib.hid hW
  have HB := Lib.hid hB
  have HT := Lib.hid hT
  have HK := Lib.hid h
  have HID := Lib.hid hid
  have HTL := Lib.hid htl
  clear his hW hB hT h hid htl
  go_enter Tryz.func29, Tryz.ntmps29
  go_upto_region 2 with fail
  rw [HW.out]
  go_wp2_with fail
  (with_reducible refine HID.out.mono ?_)
  rintro e1 w1 ⟨v, rfl, hown, hb1⟩
  obtain ⟨n, hn⟩ : ∃ n, L.length = n := ⟨_, rfl⟩
  obtain ⟨a, c, rfl⟩ := Evt.own_at hown
  rw [hn] at hown ⊢
  have hfew := HK.out.few
  rw [hn] at hfew
  have HN := Lib.hid hn
  have HOWN := Lib.hid hown
  have HI0 := Lib.hid (HI.out.below hb1)
  have HI1 := Lib.hid (HI.out.below hb1).f
  have hsz1 : w.heap.size + 1 ≤ w1.heap.size := HI1.out.lt
  have HB1 := Lib.hid (HB.out.trans (hb1.mono HB.out.size))
  have HSW := Lib.hid (show W.heap.size = w.heap.size + 1 by rw [← HW.out]; simp)
  clear hown hn hb1
  go_wp2_with fail
  go_loopw [5, 9] (fun _ i wr => ∃ k : Nat, k ≤ n ∧ i = .int .i64 (k : Int) ∧ Bd.IsF w.heap.size w.heap.size (textB (L.take k)) wr ∧ Below w.heap.size w wr ∧ Lib.OthersKept 5 (some w.heap.size) w1 wr ∧ (k = 0 → Bd.Is w.heap.size w.heap.size [] wr)) (fun _ i _ => n - (intOf i).toNat)
  case atStart => exact ⟨0, Nat.zero_le _, rfl, HI1.out, HB1.out, Lib.OthersKept.refl _ _ _, fun _ => HI0.out⟩
  case round =>
    obtain ⟨k, hk, rfl, his, hbr, hok, h00⟩ := hrel
    have H00 := Lib.hid h00
    have HIS := Lib.hid his
    have HBR := Lib.hid hbr
    have HOK := Lib.hid hok
    clear his hbr hok h00
    by_cases hlt : k < n
    · have hlL : k < L.length := by rw [HN.out]; exact hlt
      have htk : L.take (k + 1) = L.take k ++ [L[k]] := List.take_succ_eq_append_getElem hlL
      have hmem : L[k] ∈ L := List.getElem_mem hlL
      have hid0 : (cellsS (idsB L))[k]? = some (.string (L[k]).id) := by
        simp only [cellsS, idsB, List.getElem?_map, List.getElem?_eq_getElem hlL]; rfl
      obtain ⟨e, hx⟩ : ∃ e, L[k] = e := ⟨_, rfl⟩
      rw [hx] at htk hmem hid0
      rcases HOWN.out.2 with ⟨_, h0⟩ | ⟨g, cap, cur, e1, hg, hh, hcap, hcm, hcs, ht⟩
      · omega
      · injection e1 with e2 _ e3
        subst e2 e3
        have hhr : wr.heap[g]? = some (.cells cur 9 (0, 0)) := HOK.out g _ hh (by have := HSW.out; intro h; injection h with h; omega) (fun c fz h => by injection h with _ h2 _; revert h2; decide)
        have c0 : wr.cell? ⟨g, k, none⟩ = some (.string e.id) := by
          rw [← ht, List.getElem?_take_of_lt (by omega)] at hid0
          simp only [World.cell?, hhr]
          simpa using hid0
        have hkr := HK.out.below HBR.out
        obtain ⟨D, hown2, hT2⟩ := hkr.map
        obtain ⟨ud, us, um, hl, hru⟩ := hT2.look (m := m) (key e)
        rw [foundE_of hkr.asc hmem] at hl hru
        have hsz := hkr.fit e hmem
        have hbad := hkr.good e hmem
        have hq := hl.one wr _ e.id hown2 rfl hsz.id
        have kb := cell1 hkr.box
        obtain ⟨b1, d1, rfl⟩ := hru.d.shape
        obtain ⟨b2, d2, rfl⟩ := hru.s.shape
        obtain ⟨b3, d3, rfl⟩ := hru.m.shape
        have hte := etext_any e _ _ _ er wr (HT.out.below HBR.out) hru hsz
        rw [if_pos hbad] at hte
        have hst : textB (L.take (k + 1)) = textB (L.take k) ++ (textE e ++ [10]) := by rw [htk, textB_snoc]
        have hlen := HTL.out (k + 1)
        rw [hst, List.length_append, List.length_append, List.length_singleton] at hlen
        obtain ⟨S, hS⟩ : ∃ S, textB (L.take k) = S := ⟨_, rfl⟩
        obtain ⟨TE, hTE⟩ : ∃ TE, textE e = TE := ⟨_, rfl⟩
        rw [hS] at HIS hst hlen
        rw [hTE] at hte hst hlen
        have HTE := Lib.hid hte
        have HST := Lib.hid hst
        clear hkr hl hru hsz hbad hte hst hS hTE hown2 hT2 hhr hid0 hmem htk hx hh hcap hcm hcs ht
        go_wp2_with fail
        (with_reducible refine HTE.out.mono ?_)
        rintro e5 w5 ⟨rfl, hb5⟩
        have hwr := Bd.write_k w.heap.size w.heap.size S (mk TE ++ ⟨#[10]⟩) w5 (HIS.out.below hb5) (by
          have h1 : (mk TE ++ (⟨#[10]⟩ : ByteArray)).size = TE.length + 1 := by
            rw [show (⟨#[10]⟩ : ByteArray) = mk [10] from rfl, mk_cat]
            show (TE ++ [10]).toArray.size = _
            simp
          omega) (Nat.le_trans (Nat.le_of_lt HIS.out.lt) hb5.size)
        have HWR := Lib.hid hwr
        have HB5 := Lib.hid hb5
        clear hwr hb5
        go_wp2_with fail
        (with_reducible refine HWR.out.mono ?_)
        rintro e6 w6 ⟨rfl, his6, hb6, hok6⟩
        have hd : S ++ (mk TE ++ (⟨#[10]⟩ : ByteArray)).data.toList = textB (L.take (k + 1)) := by
          rw [HST.out, show (⟨#[10]⟩ : ByteArray) = mk [10] from rfl, mk_cat]
        rw [hd] at his6
        have HI6 := Lib.hid his6
        have HB6 := Lib.hid ((HBR.out.trans (HB5.out.mono HBR.out.size)).trans hb6)
        have HOK6 := Lib.hid ((Lib.OthersKept.below HOK.out HB5.out).trans hok6)
        clear his6 hb6 hok6 hd
        go_wp2
        go_roundw
        case rel => exact ⟨k + 1, by omega, by go_num, HI6.out, HB6.out, HOK6.out, fun h => absurd h (Nat.succ_ne_zero k)⟩
        case measure => simp [intOf]; omega
    · obtain rfl : k = n := by omega
      have htk : L.take L.length = L := List.take_length
      rw [HN.out] at htk
      rw [htk] at HIS
      by_cases hnil : k = 0
      · have hL : L = [] := List.length_eq_zero_iff.1 (by rw [HN.out]; exact hnil)
        have HST := Lib.hid (Bd.string_any w.heap.size w.heap.size [] wr (H00.out hnil) (Nat.le_of_lt HIS.out.lt))
        subst hL
        clear htk hnil
        go_wp2_with fail
        (with_reducible refine HST.out.mono ?_)
        rintro e5 w5 ⟨rfl, hb5⟩
        have HB5 := Lib.hid (HBR.out.trans hb5)
        clear hb5
        go_wp2
        go_ret
        exact ⟨rfl, HB5.out⟩
      · have HST := Lib.hid (Bd.string_f w.heap.size w.heap.size (textB L) wr HIS.out (textB_ne (by intro h; rw [h] at HN; exact hnil HN.out.symm)))
        clear htk hnil
        go_wp2_with fail
        (with_reducible refine HST.out.mono ?_)
        rintro e5 w5 ⟨rfl, hb5⟩
        have HB5 := Lib.hid (HBR.out.trans hb5)
        clear hb5
        go_wp2
        go_ret
        exact ⟨rfl, HB5.out⟩
end Bk
end Go.Proofs.YtghkalamlcfnnaaGreatDoor
end
section
namespace Go.Proofs.YtghkalamlcfnnaaGreatDoor
open Go Go.RowKit Lmd
namespace Tx
open Rul
def alikeTo (xs ys : List ByteArray) (k : Nat) : Prop := ∀ j, j < k → xs[j]? = ys[j]?
theorem alike_eq {xs ys : List ByteArray} (hl : xs.length = ys.length) (h : alikeTo xs ys xs.length) : xs = ys := by
  apply List.ext_getElem?
  intro i
  by_cases hi : i < xs.length
  · exact h i hi
  · rw [List.getElem?_eq_none (by omega), List.getElem?_eq_none (by omega)]
theorem ba_ne {a b : ByteArray} (h : a ≠ b) : (a.toList == b.toList) = false := by
  rw [beq_eq_false_iff_ne]
  intro e
  rw [ByteArray.toList_eq, ByteArray.toList_eq] at e
  exact h (by rw [str_mk a, str_mk b, e])
set_option maxRecDepth 100000 in
set_option maxHeartbeats 800000 in
theorem sameTexts_any (w : World) (va vb : Value) (xs ys : List ByteArray) (ha : Rd w va xs) (hb : Rd w vb ys) (hx : xs.length ≤ 1000000) (hy : ys.length ≤ 1000000) :
    Calls Tryz.prog 33 #[va, vb] w fun e w' => e = .returned (.bool (decide (xs = ys))) ∧ ∃ q, w' = w.drewN q := by
  obtain ⟨a1, c1, rfl⟩ := ha.shape
  obtain ⟨a2, c2, rfl⟩ := hb.shape
  by_cases hl : xs.length = ys.length
  · by_cases hx0 : xs = []
    · subst hx0
      obtain rfl : ys = [] := List.length_eq_zero_iff.1 hl.symm
      clear ha hb
      go_enter Tryz.func33, Tryz.ntmps33
      go_wp2
      refine wp_loop_rounds 1 ?_
      rw [rounds_succ]
      go_wp2
      go_ret
      exact ⟨rfl, 0, rfl⟩
    · obtain ⟨b1, o1, c1', e1, hc1⟩ := ha.at hx0
      obtain ⟨b2, o2, c2', e2, hc2⟩ := hb.at (by rintro rfl; apply hx0; exact List.length_eq_zero_iff.1 hl)
      obtain ⟨rfl, rfl⟩ : a1 = some ⟨b1, o1, none⟩ ∧ c1 = c1' := by cases e1; exact ⟨rfl, rfl⟩
      obtain ⟨rfl, rfl⟩ : a2 = some ⟨b2, o2, none⟩ ∧ c2 = c2' := by cases e2; exact ⟨rfl, rfl⟩
      clear ha hb e1 e2
      have HC1 := Lib.hid hc1
      have HC2 := Lib.hid hc2
      have HL := Lib.hid hl
      have hq : ((xs.length : Int) != (ys.length : Int)) = false := by rw [hl]; simp
      have hle : ys.length ≤ xs.length := by omega
      have hge : xs.length ≤ ys.length := by omega
      clear hc1 hc2 hl hx0
      go_enter Tryz.func33, Tryz.ntmps33
      go_wp2
      go_loopw [5] (fun i wr => ∃ (k q : Nat), k ≤ xs.length ∧ i = .int .i64 k ∧ wr = w.drewN q ∧ alikeTo xs ys k) (fun i _ => xs.length - (intOf i).toNat)
      case atStart => exact ⟨0, 0, Nat.zero_le _, rfl, rfl, fun _ h => by omega⟩
      case round =>
        obtain ⟨k, q, hk, rfl, rfl, hs⟩ := hrel
        have HS := Lib.hid hs
        clear hs
        by_cases hlt : k < xs.length
        · obtain ⟨x, hxk⟩ : ∃ x, xs[k]? = some x := ⟨_, List.getElem?_eq_getElem hlt⟩
          obtain ⟨y, hyk⟩ : ∃ y, ys[k]? = some y := ⟨_, List.getElem?_eq_getElem (by omega)⟩
          have c1 := HC1.out k x hxk
          have c2 := HC2.out k y hyk
          have hlt2 : k < ys.length := by omega
          have hi1 : (k : Int) < (xs.length : Int) := by omega
          have hi2 : (k : Int) < (ys.length : Int) := by omega
          by_cases he : x = y
          · have hne : (x.toList == y.toList) = true := by rw [he]; simp
            have hxy : xs[k]? = ys[k]? := by rw [hxk, hyk, he]
            have HE := Lib.hid hxy
            clear he hxk hyk hxy
            go_wp2
            go_quiet (fail)
            go_wp2
            go_roundw
            case rel => exact ⟨k + 1, _, by omega, by go_num, rfl, fun j hj => by
              by_cases e : j = k
              · subst e; exact HE.out
              · exact HS.out j (by omega)⟩
            case measure => simp [intOf]; omega
          · have hne : (x.toList == y.toList) = false := ba_ne he
            have hxy : xs ≠ ys := by
              intro e
              rw [e, hyk] at hxk
              exact he (Option.some.inj hxk).symm
            have HE := Lib.hid hxy
            clear he hxk hyk hxy
            go_wp2
            go_quiet (fail)
            go_wp2
            go_ret
            exact ⟨Ints.ret_bool' (decide_eq_false HE.out).symm, _, Ints.drewN_add _ _ _⟩
        · obtain rfl : k = xs.length := by omega
          go_wp2
          go_ret
          exact ⟨Ints.ret_bool' (decide_eq_true (alike_eq HL.out HS.out)).symm, _, rfl⟩
  · have hd : decide (xs = ys) = false := decide_eq_false (fun h => hl (by rw [h]))
    have hq : ((xs.length : Int) != (ys.length : Int)) = true := by rw [bne_iff_ne]; omega
    have HD := Lib.hid hd
    clear ha hb hd hl
    go_enter Tryz.func33, Tryz.ntmps33
    go_wp2
    go_ret
    exact ⟨Ints.ret_bool' HD.out.symm, 0, rfl⟩
end Tx
end Go.Proofs.YtghkalamlcfnnaaGreatDoor
end
section
namespace Go.Proofs.YtghkalamlcfnnaaGreatDoor
open Go Go.RowKit Go.Shelf Lmd
attribute [local go_sem] Oper.semAt_some
namespace Bk
open Evt Tp Rul Day Cand Er
theorem rd_getD {w : World} {b o : Nat} {xs : List ByteArray} (hc : ∀ (j : Nat) x, xs[j]? = some x → w.cell? ⟨b, o + j, none⟩ = some (.string x)) : ∀ j, j < xs.length → w.cell? ⟨b, o + j, none⟩ = some (.string (xs.getD j ByteArray.empty)) := fun j hj => by
  rw [hc j _ (List.getElem?_eq_getElem hj), List.getD_eq_getElem?_getD, List.getElem?_eq_getElem hj]; rfl
theorem equalTexts_any (w : World) (v1 v2 : Value) (xs ys : List ByteArray) (h1 : Tx.Rd w v1 xs) (h2 : Tx.Rd w v2 ys) (hx : xs.length ≤ 1000000) (hy : ys.length ≤ 1000000) :
    Calls Tryz.prog 55 #[v1, v2] w fun e w' => e = .returned (.bool (decide (xs = ys))) ∧ Below w.heap.size w w' := by
  obtain ⟨a2, c2, e2⟩ := h2.shape
  by_cases hx0 : xs = []
  · subst hx0
    obtain ⟨a1, c1, e1⟩ := h1.shape
    subst e1 e2
    refine (Tryz.slices_Equal_string_empty a1 a2 c1 ys.length c2 w (by omega)).mono ?_
    rintro e w' ⟨rfl, rfl⟩
    refine ⟨?_, Below.refl _ _⟩
    congr 3
    rw [eq_iff_iff]
    constructor
    · intro h; exact (List.length_eq_zero_iff.1 h).symm
    · intro h; rw [← h]; rfl
  · by_cases hl : xs.length = ys.length
    · obtain ⟨b1, o1, c1, e1, hc1⟩ := h1.at hx0
      obtain ⟨b2, o2, c2', e2', hc2⟩ := h2.at (by rintro rfl; exact hx0 (List.length_eq_zero_iff.1 hl))
      subst e1 e2'
      refine (Tryz.slices_Equal_string b1 o1 xs.length c1 b2 o2 ys.length c2' xs ys w (Nat.le_refl _) (Nat.le_refl _) (by omega) (by omega) (rd_getD hc1) (rd_getD hc2)).mono ?_
      rintro e w' ⟨rfl, q, rfl⟩
      rw [List.take_length, List.take_length]
      exact ⟨rfl, below_draw (Below.refl _ _) q⟩
    · obtain ⟨a1, c1, e1⟩ := h1.shape
      subst e1 e2
      refine (Tryz.slices_Equal_string_lens a1 a2 xs.length c1 ys.length c2 w hl).mono ?_
      rintro e w' ⟨rfl, rfl⟩
      exact ⟨by rw [decide_eq_false (fun h => hl (by rw [h]))], Below.refl _ _⟩
theorem mkL (l : List UInt8) : (mk l).toList = l := by
  show (⟨l.toArray⟩ : ByteArray).toList = l
  rw [ByteArray.toList_eq]
theorem ids_len (L : List Ev) : (idsB L).length = L.length := by simp [idsB]
end Bk
end Go.Proofs.YtghkalamlcfnnaaGreatDoor
end
section
namespace Go.Proofs.YtghkalamlcfnnaaGreatDoor
open Go Go.RowKit Go.Shelf Lmd
attribute [local go_sem] Oper.semAt_some
namespace Bk
open Evt Tp Rul Day Cand Er
end Bk
end Go.Proofs.YtghkalamlcfnnaaGreatDoor
end
section
namespace Go.Proofs.YtghkalamlcfnnaaGreatDoor
open Go Go.RowKit Go.Shelf Lmd
namespace Evt
open Rul Day Cand Er Tp
theorem textL_short {r : Ru} (hb : bad r = 0) (hl : r.ds.length ≤ 20) : (textL r).length ≤ 1000 := by
  obtain ⟨h1, h2, h3, h4, h5⟩ := bad_parts hb
  obtain ⟨⟨e1, e2⟩, ⟨c1, c2⟩, u1, u2⟩ := bound_parts h2
  have hf : r.fq.data.toList.length ≤ 8 := by
    rcases freqs_mem h1 with h | h | h | h | h <;> rw [h] <;> decide
  have hi := Lib.itoa_length_le r.ev (by omega) (by omega)
  have hc := Lib.itoa_length_le r.ct (by omega) (by omega)
  have hj := join_le [44] (by simp) ((r.ds.map nameOf).map (·.data.toList)) (by
    intro x hx
    simp only [List.map_map, List.mem_map] at hx
    obtain ⟨d, _, rfl⟩ := hx
    exact nameOf_len d)
  simp only [List.length_map] at hj
  have hd : (dayT r.un).length ≤ 10 ∨ r.un = -1 := by
    by_cases hu : r.un = -1
    · exact .inr hu
    · obtain ⟨y, m, d, ha⟩ := Cal.at_exists r.un (by omega) (by omega)
      rw [dayT_at ha]; exact .inl (Nat.le_refl _)
  have hD : (daysL r).length ≤ 200 := by
    unfold daysL; split
    · simp
    · simp only [List.length_append, List.length_cons, List.length_nil]; omega
  have hC : (countL r).length ≤ 28 := by
    unfold countL; split
    · simp only [List.length_append, List.length_cons, List.length_nil]; omega
    · simp
  have hU : (untilL r).length ≤ 17 := by
    unfold untilL; split
    · simp only [List.length_append, List.length_cons, List.length_nil]; omega
    · simp
  unfold textL; split
  · omega
  · unfold headL
    simp only [List.length_append, List.length_cons, List.length_nil]; omega
theorem getL_short {e : Ev} (f : ByteArray) (h : badE e = 0) (hd : e.ru.ds.length ≤ 20) : (getL e f).data.toList.length ≤ 1000 := by
  obtain ⟨_, h2, _, h4, h5, h6⟩ := badE_zero h
  obtain ⟨s1, s2, _⟩ := badL_zero h6
  have ht : e.ti.data.toList.length ≤ 40 := by
    unfold titleB at h2
    rw [Bool.and_eq_true] at h2
    rw [Array.length_toList]
    exact of_decide_eq_true h2.1
  have hi := Lib.itoa_length_le e.lg (by omega) (by omega)
  have hs := skipsL_len e.sk
  have hm := movesL_len e.mv
  have hr := textL_short h5 hd
  have hdl := dayL_len e.st
  unfold getL
  split
  · omega
  split
  · show (mk _).data.toList.length ≤ _; rw [mk_list]; omega
  split
  · show (mk _).data.toList.length ≤ _; rw [mk_list]; omega
  split
  · (try rw [if_pos h5]); show (mk _).data.toList.length ≤ _; rw [mk_list]; omega
  split
  · show (mk _).data.toList.length ≤ _; rw [mk_list]; omega
  split
  · show (mk _).data.toList.length ≤ _; rw [mk_list]; omega
  · simp
theorem textE_short {e : Ev} (h : badE e = 0) (hd : e.ru.ds.length ≤ 20) : (textE e).length ≤ 8000 := by
  obtain ⟨h1, _⟩ := badE_zero h
  have hid : e.id.data.toList.length ≤ 12 := by
    unfold nameB at h1
    rw [Bool.and_eq_true, Bool.and_eq_true] at h1
    rw [Array.length_toList]
    exact of_decide_eq_true h1.1.2
  have := join_len [124] 1000 ((partsE e 6).map (·.data.toList)) (fun x hx => by
    simp only [partsE, List.map_cons, List.mem_cons, List.mem_map] at hx
    rcases hx with rfl | ⟨y, ⟨z, _, rfl⟩, rfl⟩
    · omega
    · exact getL_short z h hd)
  have hl : ((partsE e 6).map (·.data.toList)).length = 7 := by simp [partsE, fieldL]
  rw [hl] at this
  unfold textE
  simp only [List.length_cons, List.length_nil] at this
  omega
theorem rise_count : ∀ {l : List Int} {a b : Int}, l.Pairwise (· < ·) → (∀ x ∈ l, a ≤ x ∧ x ≤ b) → a ≤ b + 1 → (l.length : Int) ≤ b - a + 1
  | [], a, b, _, _, h => by simp; omega
  | x :: t, a, b, hp, hb, h => by
    have h1 := List.pairwise_cons.1 hp
    have hx := hb x (List.mem_cons_self ..)
    have := rise_count (a := x + 1) (b := b) h1.2 (fun y hy => ⟨by have := h1.1 y hy; omega, (hb y (List.mem_cons_of_mem _ hy)).2⟩) (by omega)
    rw [List.length_cons]; omega
theorem days_few {e : Ev} (h : badE e = 0) : e.ru.ds.length ≤ 20 := by
  obtain ⟨_, _, hd, _, hr⟩ := bad_parts (badE_zero h).2.2.2.2.1
  have h1 := rise_count (a := 0) (b := 6) (rise_pairwise hr) (fun x hx => by
    have h2 := List.all_eq_true.1 hd x hx
    unfold inB at h2
    simpa using h2) (by omega)
  omega
theorem text_short {e : Ev} (h : badE e = 0) : (textE e).length ≤ 8000 := textE_short h (days_few h)
end Evt
end Go.Proofs.YtghkalamlcfnnaaGreatDoor
end
section
namespace Go.Proofs.YtghkalamlcfnnaaGreatDoor
open Go Go.RowKit Go.Shelf Lmd
namespace Bk
open Evt Tp Rul Day Cand Er
theorem textB_len : ∀ {L : List Ev}, (∀ e ∈ L, badE e = 0) → (textB L).length ≤ L.length * 8001
  | [], _ => Nat.zero_le _
  | e :: t, h => by
    have h1 := text_short (h e (List.mem_cons_self ..))
    have h2 := textB_len (L := t) fun x hx => h x (List.mem_cons_of_mem _ hx)
    show (textE e ++ [10] ++ textB t).length ≤ _
    rw [List.length_append, List.length_append, List.length_cons]
    simp only [List.length_cons, List.length_nil]; omega
theorem Book.textLe {w : World} {B b m : Nat} {L : List Ev} (h : Book w B b m L) (k : Nat) : (textB (L.take k)).length ≤ 100000000 := by
  have h1 := textB_len (L := L.take k) fun e he => h.good e (List.mem_of_mem_take he)
  have h2 := h.few
  have h3 : (L.take k).length ≤ L.length := by rw [List.length_take]; omega
  omega
end Bk
end Go.Proofs.YtghkalamlcfnnaaGreatDoor
end
