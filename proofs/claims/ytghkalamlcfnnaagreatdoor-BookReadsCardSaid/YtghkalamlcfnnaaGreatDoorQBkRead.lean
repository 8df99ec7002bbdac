/- package book: line, Read. -/
import Derived.Test.YtghkalamlcfnnaaGreatDoorQC1
import Derived.Deep.CutRange
import Derived.BigQuiet
namespace Go.Proofs.YtghkalamlcfnnaaGreatDoor
open Go Go.RowKit Go.Shelf Lmd
attribute [local go_sem] Oper.semAt_some
namespace Bk
open Evt Tp Rul Day Cand Er

theorem leq_no {a b : ByteArray} (h : b.data.toList < a.data.toList) : Op.bytesLess a.toList b.toList = false ∧ (a.toList == b.toList) = false := by
  rw [bytesLess_eq, ByteArray.toList_eq, ByteArray.toList_eq]
  exact ⟨decide_eq_false fun h2 => lt_irrefl _ (List.lt_trans h h2), beq_eq_false_iff_ne.2 fun e => lt_irrefl _ (e ▸ h)⟩
theorem leq_yes {a b : ByteArray} (h : ¬ b.data.toList < a.data.toList) : Op.bytesLess a.toList b.toList = true ∨ (Op.bytesLess a.toList b.toList = false ∧ (a.toList == b.toList) = true) := by
  rw [bytesLess_eq, ByteArray.toList_eq, ByteArray.toList_eq]
  by_cases e : a.data.toList = b.data.toList
  · right; rw [e]; exact ⟨decide_eq_false (lt_irrefl _), beq_self_eq_true _⟩
  · left; exact decide_eq_true (lt_of_not h e)
/-- what a line hands back -/
def lineS (s last : ByteArray) : ByteArray := if readC s = 0 ∧ last.data.toList < key (readE s) then (readE s).id else ⟨#[]⟩
def LineP (w : World) (B b m : Nat) (L : List Ev) (s last : ByteArray) (er : Nat → Addr) (r : Ending) (w' : World) : Prop :=
  r = .returned (.tuple #[.string (lineS s last), errV er (lineK s last L)]) ∧ Book w' B b m (lineL s last L) ∧ Far (fun k => k = m) w w'
set_option maxRecDepth 100000 in
set_option maxHeartbeats 4000000 in
theorem line_any (w : World) (B b m : Nat) (L : List Ev) (s last : ByteArray) (er : Nat → Addr) (n : Int) (hv : Env w er n) (h : Book w B b m L) (hs : s.size ≤ 30000) :
    Calls Tryz.prog 66 #[.pointer (some ⟨b, 0, none⟩), .string s, .string last] w (LineP w B b m L s last er) := by
  have hrd := read_ev s er n w hv hs
  unfold ReadPost at hrd
  have hfit := readE_fit hs
  have hk1 : ∀ c, readC s = c + 1 → lineS s last = ⟨#[]⟩ ∧ lineK s last L = c + 1 ∧ lineL s last L = L := fun c hc => ⟨by unfold lineS; rw [if_neg (by omega)], lineK_bad hc⟩
  have hk2 : readC s = 0 → ¬ last.data.toList < key (readE s) → lineS s last = ⟨#[]⟩ ∧ lineK s last L = 8 ∧ lineL s last L = L := fun hc hl => ⟨by unfold lineS; rw [if_neg (fun h => hl h.2)], lineK_order hc hl⟩
  have hk3 : readC s = 0 → last.data.toList < key (readE s) → lineS s last = (readE s).id ∧ lineK s last L = putK (readE s) L ∧ lineL s last L = putL (readE s) L := fun hc hl => ⟨by unfold lineS; rw [if_pos ⟨hc, hl⟩], lineK_put hc hl⟩
  obtain ⟨e, he⟩ : ∃ e, readE s = e := ⟨_, rfl⟩
  obtain ⟨q, hq⟩ : ∃ q, readC s = q := ⟨_, rfl⟩
  rw [he] at hrd hfit hk2 hk3
  rw [hq] at hrd hk1 hk2 hk3
  have HV := Lib.hid hv
  have H := Lib.hid h
  have HRD := Lib.hid hrd
  have HFIT := Lib.hid hfit
  have HK1 := Lib.hid hk1
  have HK2 := Lib.hid hk2
  have HK3 := Lib.hid hk3
  clear hv h hrd hfit hk1 hk2 hk3 he hq
  go_enter Tryz.func66, Tryz.ntmps66
  go_wp2_with fail
  (with_reducible refine HRD.out.mono ?_)
  rintro e1 w1 ⟨vd, vs, vm, rfl, hr1, hb1⟩
  obtain ⟨a1, c1, rfl⟩ := hr1.d.shape
  obtain ⟨a2, c2, rfl⟩ := hr1.s.shape
  obtain ⟨a3, c3, rfl⟩ := hr1.m.shape
  obtain ⟨W2, hW2⟩ : ∃ W2, w1.alloc (.cells (e.cells (.slice a1 e.ru.ds.length c1) (.slice a2 e.sk.length c2) (.slice a3 e.mv.length c3)) 40) = W2 := ⟨_, rfl⟩
  have hb2 : Below w1.heap.size w1 W2 := by rw [← hW2]; exact (Below.refl _ w1).alloc (Nat.le_refl _) _
  have hx : W2.heap[w1.heap.size]? = some (.cells (e.cells (.slice a1 e.ru.ds.length c1) (.slice a2 e.sk.length c2) (.slice a3 e.mv.length c3)) 40) := by rw [← hW2]; exact heap_new w1 _
  have HB2 := Lib.hid (hb1.trans (hb2.mono hb1.size))
  have HR2 := Lib.hid (hr1.below hb2)
  have HX := Lib.hid hx
  have HW2 := Lib.hid hW2
  clear hb1 hr1 hb2 hW2
  cases q with
  | succ c =>
    simp only [errV]
    clear hx
    go_wp2
    go_ret2
    obtain ⟨r1, r2, r3⟩ := HK1.out c rfl
    unfold LineP
    rw [r1, r2, r3, HW2.out]
    exact ⟨rfl, H.out.below HB2.out, Far.of_below HB2.out⟩
  | zero =>
    simp only [errV]
    go_upto_region 2 with fail
    rw [HW2.out]
    obtain ⟨j0, j1, j2, j3, j4, j5, j6, j7, j8, j9, j10⟩ := cells11 hx
    clear hx
    by_cases hlt : last.data.toList < key e
    · obtain ⟨hbl, hbe⟩ := leq_no hlt
      have hput := fun W (hw : Below W2.heap.size W2 W) => put_any W B b m L e _ _ _ er ((HV.out.below HB2.out).errs.below hw) ((H.out.below HB2.out).below hw) (HR2.out.below hw) HFIT.out
      unfold PutP at hput
      have HPUT := Lib.hid hput
      have hacc : Below W2.heap.size W2 W2.drew := Tp.below_drew (Below.refl _ W2)
      have HLT := Lib.hid hlt
      clear hlt hput
      go_upto_region 6 with fail
      go_region_with (first
        | ((with_reducible refine (HPUT.out _ hacc).mono ?_)
           rintro e5 w5 ⟨rfl, hbk, hfar⟩
           have hx5 : w5.heap[w1.heap.size]? = some (.cells (e.cells (.slice a1 e.ru.ds.length c1) (.slice a2 e.sk.length c2) (.slice a3 e.mv.length c3)) 40) := by
             have hxa := row_below HX.out hacc
             rw [hfar.block _ (Array.getElem?_eq_some_iff.1 hxa).1 (fun e => by
               obtain ⟨es, clock, hm⟩ := ((H.out.below HB2.out).below hacc).isMap
               rw [← e, hxa] at hm; cases hm)]
             exact hxa
           obtain ⟨y0, -⟩ := cells11 hx5
           have HBK := Lib.hid hbk
           have HFAR := Lib.hid (((Far.of_below HB2.out).trans (Far.of_below hacc)).trans hfar)
           clear hbk hfar hx5))
      all_goals (
        go_wp2
        go_ret2
        obtain ⟨r1, r2, r3⟩ := HK3.out trivial HLT.out
        unfold LineP
        rw [r1, r2, r3]
        exact ⟨rfl, HBK.out, HFAR.out⟩)
    · have hcs := leq_yes hlt
      have cE := (HV.out.below HB2.out).errs.s7.cell
      have HLT := Lib.hid hlt
      clear hlt
      rcases hcs with hbl | ⟨hbl, hbe⟩
      · go_upto_region 5 with fail
        go_quiet (fail)
        go_wp2
        go_ret2
        obtain ⟨r1, r2, r3⟩ := HK2.out trivial HLT.out
        unfold LineP
        rw [r1, r2, r3]
        exact ⟨rfl, (H.out.below HB2.out).below (below_draw (Below.refl _ W2) _), Far.of_below (below_draw HB2.out _)⟩
      · go_upto_region 5 with fail
        go_quiet (fail)
        go_wp2
        go_ret2
        obtain ⟨r1, r2, r3⟩ := HK2.out trivial HLT.out
        unfold LineP
        rw [r1, r2, r3]
        exact ⟨rfl, (H.out.below HB2.out).below (below_draw (Below.refl _ W2) _), Far.of_below (below_draw HB2.out _)⟩

/-- what Read hands back -/
def RbP (w : World) (s : ByteArray) (er : Nat → Addr) (r : Ending) (w' : World) : Prop :=
  Below w.heap.size w w' ∧ (if 10000 < s.size then r = .returned (.tuple #[.pointer none, errV er 2])
    else if (readB s).1 = 0 then r = .returned (.tuple #[.pointer (some ⟨w.heap.size + 1, 0, none⟩), .nilIface]) ∧ Book w' w.heap.size (w.heap.size + 1) w.heap.size (readB s).2.2
    else ∃ f, r = .returned (.tuple #[.pointer none, .iface 110 (.pointer (some ⟨f, 0, none⟩))]) ∧ w'.heap[f]? = some (.cells #[.int .i64 ((readB s).2.1 : Nat), errV er (readB s).1] 112 (0, 0)))
/-- the state of Read's loop -/
structure RbAt (s : ByteArray) (w : World) (k : Nat) (r : List UInt8) (L : List Ev) (W : World) : Prop where
  rel : readB s = rdL k L (pieces 10 (mk r))
  book : Book W w.heap.size (w.heap.size + 1) w.heap.size L
  low : Below w.heap.size w W
  len : k + r.length ≤ s.size
theorem rb_bad {w W : World} {s : ByteArray} {er : Nat → Addr} {c k f : Nat} {L : List Ev} (h1 : ¬ 10000 < s.size) (h : readB s = (c + 1, k, L)) (hb : Below w.heap.size w W) (hx : W.heap[f]? = some (.cells #[.int .i64 (k : Int), errV er (c + 1)] 112 (0, 0))) :
    RbP w s er (.returned (.tuple #[.pointer none, .iface 110 (.pointer (some ⟨f, 0, none⟩))])) W := by
  refine ⟨hb, ?_⟩
  rw [if_neg h1, h, if_neg (by simp)]
  exact ⟨f, rfl, hx⟩
set_option maxRecDepth 100000 in
set_option maxHeartbeats 4000000 in
theorem read_any (w : World) (s : ByteArray) (er : Nat → Addr) (n : Int) (hv : Env w er n) :
    Calls Tryz.prog 27 #[.string s] w (RbP w s er) := by
  by_cases hbig : 10000 < s.size
  · have hb1 : (10000 : Int) < (s.size : Int) := by omega
    have cE := hv.errs.s1.cell
    have HBIG := Lib.hid hbig
    clear hv hbig
    go_enter Tryz.func27, Tryz.ntmps27
    go_upto_region 2 with fail
    go_quiet (fail)
    go_wp2
    go_ret2
    refine ⟨below_draw (Below.refl _ w) _, ?_⟩
    rw [if_pos HBIG.out]; rfl
  · have hb1 : ¬ (10000 : Int) < (s.size : Int) := by omega
    have HV := Lib.hid hv
    have HBIG := Lib.hid hbig
    have HN := Lib.hid (new_any w)
    have hsm : s.size ≤ 10000 := by omega
    obtain ⟨r0, hr0⟩ : ∃ r, s.data.toList = r := ⟨_, rfl⟩
    obtain rfl : s = mk r0 := by rw [str_mk s, hr0]
    have hrl : r0.length ≤ 10000 := hsm
    clear hv hbig hr0 hsm
    go_enter Tryz.func27, Tryz.ntmps27
    go_wp2_with fail
    (with_reducible refine HN.out.mono ?_)
    rintro e1 w1 ⟨rfl, hbk, hb⟩
    have HBK := Lib.hid hbk
    have HB := Lib.hid hb
    clear hbk hb
    go_wp2_with fail
    go_loopw [0, 5, 6, 7, 8, 9, 10] (fun sv la i _ _ _ _ wr => ∃ (k : Nat) (r : List UInt8) (L : List Ev), sv = .string (mk r) ∧ la = .string (lastOf L) ∧ i = .int .i64 (k : Int) ∧ RbAt (mk r0) w k r L wr) (fun sv _ _ _ _ _ _ _ => (match sv with | .string s => s.size | _ => 0))
    case atStart => exact ⟨0, r0, [], rfl, rfl, rfl, rfl, HBK.out, HB.out, by simp [ByteArray.size]⟩
    case round =>
      obtain ⟨k, r, L, rfl, rfl, rfl, hat⟩ := hrel
      have hln : k + r.length ≤ 10000 := by have := hat.len; have h2 : (mk r0).size = r0.length := rfl; omega
      have HAT := Lib.hid hat
      cases r with
      | nil =>
        clear hat
        go_wp2
        go_ret2
        refine ⟨HAT.out.low, ?_⟩
        have hr := HAT.out.rel
        rw [rd_end] at hr
        rw [if_neg HBIG.out, hr, if_pos rfl]
        exact ⟨rfl, HAT.out.book⟩
      | cons x t =>
        obtain ⟨R, hR⟩ : ∃ R, x :: t = R := ⟨_, rfl⟩
        have hne : R ≠ [] := by rw [← hR]; simp
        rw [hR] at HAT hln ⊢
        clear hR hat
        have hcut := Tryz.strings_Cut (mk R) ⟨#[10]⟩ n wr (by have : (mk R).size = R.length := rfl; omega) (HV.out.below HAT.out.low).ml
        rw [show (mk R).data.toList = R from rfl, show (⟨#[10]⟩ : ByteArray).data.toList = [10] from rfl] at hcut
        have hnb : ((mk R).toList == []) = false := by rw [mkL]; simpa using hne
        have hne2 : R.isEmpty = false := by simpa using hne
        have HNE := Lib.hid hne
        by_cases hc : (10 : UInt8) ∈ R
        · obtain ⟨a, q, rfl, hna⟩ := split_at hc
          rw [cut_hit hna] at hcut
          have hrel := HAT.out.rel
          rw [rd_hit hna] at hrel
          have hal : a.length ≤ 10000 := by simp only [List.length_append, List.length_cons] at hln; omega
          have hkl : k ≤ 10000 := by omega
          have hql : k + 1 + q.length ≤ (mk r0).size := by have := HAT.out.len; simp only [List.length_append, List.length_cons] at this; omega
          have hq2 : q.length < (a ++ 10 :: q).length := by simp only [List.length_append, List.length_cons]; omega
          obtain ⟨R, hR⟩ : ∃ R, a ++ 10 :: q = R := ⟨_, rfl⟩
          rw [hR] at hcut hnb hne2 HAT hq2 ⊢
          have HCUT := Lib.hid hcut
          have HREL := Lib.hid hrel
          have HQL := Lib.hid hql
          have HQ2 := Lib.hid hq2
          have HAL := Lib.hid hal
          clear hcut hrel hc hR hna hql hq2 hal hne hln
          go_wp2_with fail
          (with_reducible refine HCUT.out.mono ?_)
          rintro e2 w2 ⟨rfl, q2, rfl⟩
          obtain ⟨W2, hW2⟩ : ∃ W2, wr.drewN q2 = W2 := ⟨_, rfl⟩
          have hb2 : Below wr.heap.size wr W2 := by rw [← hW2]; exact below_draw (Below.refl _ wr) q2
          have hline := line_any W2 w.heap.size (w.heap.size + 1) w.heap.size L (mk a) (lastOf L) er n (HV.out.below (HAT.out.low.trans (hb2.mono HAT.out.low.size))) (HAT.out.book.below hb2) (by have : (mk a).size = a.length := rfl; have := HAL.out; omega)
          unfold LineP at hline
          have cE := (HV.out.below (HAT.out.low.trans (hb2.mono HAT.out.low.size))).errs.s0.cell
          have HLINE := Lib.hid hline
          have HB2 := Lib.hid hb2
          rw [hW2]
          clear hline hb2 hW2
          go_wp2_with fail
          (with_reducible refine HLINE.out.mono ?_)
          rintro e3 w3 ⟨rfl, hbk3, hfar3⟩
          have HLOW3 := Lib.hid ((HAT.out.low.trans (HB2.out.mono HAT.out.low.size)).trans (hfar3.below (fun _ h => by omega) (Nat.le_trans HAT.out.low.size HB2.out.size)))
          obtain ⟨c, hcc⟩ : ∃ c, lineK (mk a) (lastOf L) L = c := ⟨_, rfl⟩
          rw [hcc] at HREL ⊢
          have HC := Lib.hid hcc
          have HBK3 := Lib.hid hbk3
          clear hbk3 hfar3 hcc cE
          cases c with
          | succ c =>
            simp only [errV]
            have hr : readB (mk r0) = (c + 1, k, L) := by rw [HREL.out, if_pos (by simp)]
            have HR := Lib.hid hr
            clear hr
            go_wp2
            go_ret2
            exact rb_bad HBIG.out HR.out (HLOW3.out.alloc HLOW3.out.size _) (heap_new w3 _)
          | zero =>
            simp only [errV]
            have hord : (lastOf L).data.toList < key (readE (mk a)) ∧ readC (mk a) = 0 := by
              have h0 := HC.out
              unfold lineK at h0
              by_cases h1 : readC (mk a) = 0
              · rw [if_neg (by rw [h1]; simp)] at h0
                by_cases h2 : (lastOf L).data.toList < key (readE (mk a))
                · exact ⟨h2, h1⟩
                · rw [if_neg h2] at h0; cases h0
              · rw [if_pos h1] at h0; exact absurd h0 h1
            have hLs : lineS (mk a) (lastOf L) = (readE (mk a)).id := by unfold lineS; rw [if_pos ⟨hord.2, hord.1⟩]
            have hLl : lineL (mk a) (lastOf L) L = withE (readE (mk a)) L := by unfold lineL; rw [if_pos HC.out]
            have hwl := (with_last HAT.out.book.asc hord.1).1
            rw [hLl] at HBK3
            rw [hLs]
            have hla : lastOf (withE (readE (mk a)) L) = (readE (mk a)).id := by rw [hwl, lastOf_snoc]
            have HLA := Lib.hid hla
            clear hLs hLl hwl hord hla
            obtain ⟨S, hS⟩ : ∃ S, (readE (mk a)).id = S := ⟨_, rfl⟩
            rw [hS] at HLA ⊢
            clear hS
            go_wp2_with fail
            go_roundw
            case rel =>
              refine ⟨k + 1, q, withE (readE (mk a)) L, rfl, by rw [HLA.out], by go_num, ?_, HBK3.out, HLOW3.out, HQL.out⟩
              rw [HREL.out, if_neg (by simp)]
            case measure => exact HQ2.out
        · rw [cut_miss hc] at hcut
          have hr := HAT.out.rel
          rw [rd_miss hc hne] at hr
          have HR := Lib.hid hr
          have HCUT := Lib.hid hcut
          have hkl : k ≤ 10000 := by omega
          clear hcut hr hc hne hln
          go_wp2_with fail
          (with_reducible refine HCUT.out.mono ?_)
          rintro e2 w2 ⟨rfl, q2, rfl⟩
          obtain ⟨W2, hW2⟩ : ∃ W2, wr.drewN q2 = W2 := ⟨_, rfl⟩
          have hb2 : Below wr.heap.size wr W2 := by rw [← hW2]; exact below_draw (Below.refl _ wr) q2
          have hlow := HAT.out.low.trans (hb2.mono HAT.out.low.size)
          have cE := (HV.out.below hlow).errs.s0.cell
          have HLOW := Lib.hid hlow
          rw [hW2]
          clear hb2 hW2 hlow
          go_wp2
          go_ret2
          exact rb_bad HBIG.out HR.out (HLOW.out.alloc HLOW.out.size _) (heap_new W2 _)
end Bk
end Go.Proofs.YtghkalamlcfnnaaGreatDoor
