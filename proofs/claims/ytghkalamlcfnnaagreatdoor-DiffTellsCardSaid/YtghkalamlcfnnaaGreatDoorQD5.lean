/- BkRIds, AsBook: texts joined. -/
import Derived.Test.YtghkalamlcfnnaaGreatDoorQBkRef
import Derived.Test.YtghkalamlcfnnaaGreatDoorQA13
import Derived.Test.YtghkalamlcfnnaaGreatDoorQRefField
import Derived.Test.YtghkalamlcfnnaaGreatDoorQA16
section
namespace Go.Proofs.YtghkalamlcfnnaaGreatDoor
open Go Go.RowKit Go.Shelf Lmd
attribute [local go_sem] Oper.semAt_some
namespace Bk
open Evt Tp Rul Day Cand Er
def idsV (xs : List EvV) : List ByteArray := idsB (xs.map (·.e))
theorem idsV_len (xs : List EvV) : (idsV xs).length = xs.length := by simp [idsV, idsB]
theorem idsV_take {xs : List EvV} {k : Nat} (h : k < xs.length) : idsV (xs.take (k + 1)) = idsV (xs.take k) ++ [(el xs k).e.id] := by
  unfold idsV idsB
  rw [el_take_succ h, List.map_append, List.map_append]; rfl
set_option maxRecDepth 100000 in
set_option maxHeartbeats 4000000 in
theorem rids_any (xs : List EvV) (v : Value) (w : World) (hr : EReads w v xs) (hl : xs.length ≤ 1000) :
    Calls Tryz.prog 53 #[.agg #[v]] w fun r w' => ∃ v', r = .returned v' ∧ Tx.Rd w' v' (idsV xs) ∧ Below w.heap.size w w' := by
  obtain ⟨a, cap, rfl⟩ := hr.shape
  obtain ⟨n, hn⟩ : ∃ n, xs.length = n := ⟨_, rfl⟩
  rw [hn] at hr hl ⊢
  obtain ⟨W, hW⟩ : ∃ W, w.alloc (.cells #[.slice a n cap] 27) = W := ⟨_, rfl⟩
  have hB : Below w.heap.size w W := by rw [← hW]; exact (Below.refl _ w).alloc (Nat.le_refl _) _
  have hx : W.heap[w.heap.size]? = some (.cells #[.slice a n cap] 27) := by rw [← hW]; exact heap_new w _
  have HR := Lib.hid hr
  have HW := Lib.hid hW
  have HB := Lib.hid hB
  have HN := Lib.hid hn
  have HX := Lib.hid hx
  clear hr hW hB hx hn
  go_enter Tryz.func53, Tryz.ntmps53
  go_wp2_with fail
  rw [HW.out]
  go_loopw [3, 4] (fun v3 i wr => ∃ k : Nat, k ≤ n ∧ i = .int .i64 (k : Int) ∧ (∃ a c, v3 = .slice a k c) ∧ wr.ownsRow W.heap.size 9 1 v3 (idsV (xs.take k)).length (cellsS (idsV (xs.take k))) ∧ Below W.heap.size W wr) (fun _ i _ => n - (intOf i).toNat)
  case atStart => exact ⟨0, Nat.zero_le _, rfl, ⟨none, 0, rfl⟩, ⟨rfl, .inl ⟨rfl, rfl⟩⟩, Below.refl _ _⟩
  case round =>
    obtain ⟨k, hk, rfl, ⟨a7, c7', rfl⟩, hown, hbr⟩ := hrel
    have hsr := hbr.size
    have HOWN := Lib.hid hown
    have HBR := Lib.hid hbr
    have hrr := HR.out.below (HB.out.trans (hbr.mono HB.out.size))
    have hfl : (idsV (xs.take k)).length = k := by rw [idsV_len, List.length_take, HN.out]; omega
    obtain ⟨k0, -⟩ := cell1r (row_below HX.out hbr)
    clear hown hbr
    by_cases hlt : k < n
    · have hsn := idsV_take (xs := xs) (k := k) (by rw [HN.out]; exact hlt)
      obtain ⟨-, b, o, ha, hc⟩ := hrr.at (by intro h; have := HN.out; rw [h] at this; simp at this; omega)
      subst ha
      have c0 := (hc k (by rw [HN.out]; exact hlt)).1.k0
      obtain ⟨y, hy⟩ : ∃ y, (el xs k).e.id = y := ⟨_, rfl⟩
      rw [hy] at c0 hsn
      have HSN := Lib.hid hsn
      have HFL := Lib.hid hfl
      clear hc hrr hy hsn hfl
      go_wp2_with (at_builtin
                   refine append_str rfl (.tmp 12) (.tmp 19) rfl W.heap.size (.slice a7 k c7') (idsV (xs.take k)) rfl (HOWN.out.alloc _) wr.heap.size y rfl (cell_of (heap_new wr _) rfl) (by rw [HFL.out]; omega) (by simp; omega) ?_
                   intro a1 c2 wb hown' hbb
                   rw [HFL.out] at hown' ⊢
                   have HOB := Lib.hid hown'
                   have HBB := Lib.hid (HBR.out.trans (((Below.refl _ wr).alloc hsr _).trans hbb))
                   clear hown' hbb)
      go_roundw
      case rel => exact ⟨k + 1, by omega, by go_num, ⟨a1, c2, rfl⟩, by rw [HSN.out]; exact HOB.out, HBB.out⟩
      case measure => simp [intOf]; omega
    · obtain rfl : k = n := by omega
      have htk : xs.take xs.length = xs := List.take_length
      rw [HN.out] at htk
      rw [htk] at HOWN hfl
      have HRD := Lib.hid (Tx.rd_own (n := (idsV xs).length) (by rw [hfl]; rw [hfl] at HOWN; exact HOWN.out) rfl)
      have HBX := Lib.hid (HB.out.trans (HBR.out.mono HB.out.size))
      clear htk hrr
      go_wp2
      go_ret
      exact ⟨_, rfl, HRD.out, HBX.out⟩
set_option maxRecDepth 100000 in
set_option maxHeartbeats 4000000 in
theorem rtext_any (xs : List EvV) (v : Value) (w : World) (hr : EReads w v xs) (hl : xs.length ≤ 1000) (hg : ∀ x ∈ xs, badE x.e = 0) (hz : ∀ x ∈ xs, Size x.e) (htl : ∀ k, (textB ((xs.take k).map (·.e))).length ≤ 100000000) :
    Calls Tryz.prog 54 #[.agg #[v]] w fun r w' => r = .returned (.string (mk (textB (xs.map (·.e))))) ∧ Below w.heap.size w w' := by
  obtain ⟨a, cap, rfl⟩ := hr.shape
  obtain ⟨n, hn⟩ : ∃ n, xs.length = n := ⟨_, rfl⟩
  rw [hn] at hr hl ⊢
  obtain ⟨W, hW⟩ : ∃ W, w.alloc (.cells #[.slice a n cap] 27) = W := ⟨_, rfl⟩
  have hB : Below w.heap.size w W := by rw [← hW]; exact (Below.refl _ w).alloc (Nat.le_refl _) _
  have hx : W.heap[w.heap.size]? = some (.cells #[.slice a n cap] 27) := by rw [← hW]; exact heap_new w _
  have HR := Lib.hid hr
  have HW := Lib.hid hW
  have HB := Lib.hid hB
  have HN := Lib.hid hn
  have HX := Lib.hid hx
  clear hr hW hB hx hn
  have HG := Lib.hid hg
  have HZ := Lib.hid hz
  have HTL := Lib.hid htl
  clear hg hz htl
  go_enter Tryz.func54, Tryz.ntmps54
  go_wp2_with fail
  rw [HW.out]
  go_loopw [3, 4] (fun v3 i wr => ∃ k : Nat, k ≤ n ∧ i = .int .i64 (k : Int) ∧ v3 = .string (mk (textB ((xs.take k).map (·.e)))) ∧ Below W.heap.size W wr) (fun _ i _ => n - (intOf i).toNat)
  case atStart => exact ⟨0, Nat.zero_le _, rfl, rfl, Below.refl _ _⟩
  case round =>
    obtain ⟨k, hk, rfl, rfl, hbr⟩ := hrel
    have HBR := Lib.hid hbr
    have hrr := HR.out.below (HB.out.trans (hbr.mono HB.out.size))
    obtain ⟨k0, -⟩ := cell1r (row_below HX.out hbr)
    obtain ⟨S, hS⟩ : ∃ S, textB ((xs.take k).map (·.e)) = S := ⟨_, rfl⟩
    rw [hS]
    have HS := Lib.hid hS
    clear hbr hS
    by_cases hlt : k < n
    · have htk := el_take_succ (xs := xs) (k := k) (by rw [HN.out]; exact hlt)
      obtain ⟨-, b, o, ha, hc⟩ := hrr.at (by intro h; have := HN.out; rw [h] at this; simp at this; omega)
      subst ha
      obtain ⟨⟨c0, c1', c2, c3', c4, c5, c6, c7, c8, c9, c10⟩, hrv⟩ := hc k (by rw [HN.out]; exact hlt)
      have hmx := el_mem (xs := xs) (i := k) (by rw [HN.out]; exact hlt)
      obtain ⟨x, hx⟩ : ∃ x, el xs k = x := ⟨_, rfl⟩
      rw [hx] at c0 c1' c2 c3' c4 c5 c6 c7 c8 c9 c10 hrv hmx htk
      obtain ⟨e, vd, vs, vm⟩ := x
      dsimp only at c0 c1' c2 c3' c4 c5 c6 c7 c8 c9 c10
      change Rv wr e vd vs vm at hrv
      obtain ⟨a6, c6', rfl⟩ := hrv.d.shape
      obtain ⟨a9, c9', rfl⟩ := hrv.s.shape
      obtain ⟨a10, c10', rfl⟩ := hrv.m.shape
      have hte := reventText_any e _ _ _ wr hrv (HZ.out _ hmx)
      have hgd : badE e = 0 := HG.out _ hmx
      rw [if_pos hgd] at hte
      have hst : textB ((xs.take (k + 1)).map (·.e)) = S ++ (textE e ++ [10]) := by
        rw [htk, List.map_append]
        show textB (_ ++ [e]) = _
        rw [textB_snoc, HS.out]
      have hlen := HTL.out (k + 1)
      rw [hst, List.length_append, List.length_append, List.length_singleton] at hlen
      have HTE := Lib.hid hte
      have HST := Lib.hid hst
      have hl1 : S.length ≤ 100000000 := by omega
      have hl2 : (textE e).length ≤ 100000000 := by omega
      clear hc hrr hx hrv hmx hgd hte hst htk
      obtain ⟨TE, hTE⟩ : ∃ TE, textE e = TE := ⟨_, rfl⟩
      rw [hTE] at HTE HST hl2 hlen
      clear hTE
      go_wp2_with fail
      (with_reducible refine HTE.out.mono ?_)
      rintro e1 w1 ⟨rfl, hb1⟩
      have HB1 := Lib.hid (HBR.out.trans (hb1.mono HBR.out.size))
      clear hb1
      go_wp2
      go_roundw
      case rel => exact ⟨k + 1, by omega, by go_num, by rw [HST.out, show (⟨#[10]⟩ : ByteArray) = mk [10] from rfl, mk_cat, mk_cat, List.append_assoc], HB1.out⟩
      case measure => simp [intOf]; omega
    · obtain rfl : k = n := by omega
      have htk : xs.take xs.length = xs := List.take_length
      rw [HN.out] at htk
      rw [htk] at HS
      have HBX := Lib.hid (HB.out.trans (HBR.out.mono HB.out.size))
      clear htk hrr
      go_wp2
      go_ret
      exact ⟨by rw [HS.out]; rfl, HBX.out⟩
end Bk
end Go.Proofs.YtghkalamlcfnnaaGreatDoor
end
section
namespace Go.Proofs.YtghkalamlcfnnaaGreatDoor
open Go Go.RowKit Go.Shelf Lmd
attribute [local go_sem] Oper.semAt_some
namespace Bk
open Evt Tp Rul Day Cand Er
set_option maxRecDepth 100000 in
set_option maxHeartbeats 8000000 in
theorem asBook_any (w : World) (B b m : Nat) (L : List Ev) (v : Value) (ys : List EvV) (er : Nat → Addr) (hT : Tb w er) (h : Book w B b m L) (hr : EReads w v ys) (hs : ys.map (·.e) = L) :
    Calls Tryz.prog 17 #[.pointer (some ⟨b, 0, none⟩), .agg #[v]] w fun r w' => r = .returned (.int .i64 1) ∧ Below w.heap.size w w' := by
  obtain ⟨va, vc, rfl⟩ := hr.shape
  obtain ⟨W, hW⟩ : ∃ W, w.alloc (.cells #[.slice va ys.length vc] 27) = W := ⟨_, rfl⟩
  have hB : Below w.heap.size w W := by rw [← hW]; exact (Below.refl _ w).alloc (Nat.le_refl _) _
  have hx : W.heap[w.heap.size]? = some (.cells #[.slice va ys.length vc] 27) := by rw [← hW]; exact heap_new w _
  have hyl : ys.length ≤ 1000 := by
    have := h.few
    rw [← hs, List.length_map] at this; omega
  have hyg : ∀ x ∈ ys, badE x.e = 0 := fun x hx => h.good x.e (by rw [← hs]; exact List.mem_map.2 ⟨x, hx, rfl⟩)
  have hyz : ∀ x ∈ ys, Size x.e := fun x hx => h.fit x.e (by rw [← hs]; exact List.mem_map.2 ⟨x, hx, rfl⟩)
  have hyt : ∀ k, (textB ((ys.take k).map (·.e))).length ≤ 100000000 := fun k => by rw [List.map_take, hs]; exact h.textLe k
  have hids : idsV ys = idsB L := by unfold idsV; rw [hs]
  have hi := fun W' (hw : Below W.heap.size W W') => ids_any W' B b m L ((h.below hB).below hw)
  have hri := fun W' (hw : Below W.heap.size W W') => rids_any ys (.slice va ys.length vc) W' ((hr.below hB).below hw) hyl
  have htx := fun W' (hw : Below W.heap.size W W') => text_any W' B b m L er ((hT.below hB).below hw) ((h.below hB).below hw) h.textLe
  have hrt := fun W' (hw : Below W.heap.size W W') => rtext_any ys (.slice va ys.length vc) W' ((hr.below hB).below hw) hyl hyg hyz hyt
  simp only [hids] at hri
  simp only [hs] at hrt
  have hfew := h.few
  have hS := fun W' (hw : Below W.heap.size W W') => cell1 (row_below hx hw)
  have HI := Lib.hid hi
  have HRI := Lib.hid hri
  have HTX := Lib.hid htx
  have HRT := Lib.hid hrt
  have HW := Lib.hid hW
  have HB := Lib.hid hB
  have HS := Lib.hid hS
  have k0 := cell1 hx
  obtain ⟨T, hTT⟩ : ∃ T, textB L = T := ⟨_, rfl⟩
  rw [hTT] at HTX HRT
  clear hT h hr hs hW hB hx hyg hyz hyt hids hi hri htx hrt hS hTT hyl
  go_enter Tryz.func17, Tryz.ntmps17
  go_upto_region 1 with fail
  rw [HW.out]
  have hacc : Below W.heap.size W W.drew := Tp.below_drew (Below.refl _ W)
  go_upto_region 3 with fail
  go_region_with (first
    | ((with_reducible refine (HI.out _ hacc).mono ?_)
       rintro e1 w1 ⟨v1, rfl, ho1, hb1⟩
       obtain ⟨a1, c1, rfl⟩ := Evt.own_at ho1
       have hr1 : Tx.Rd w1 (.slice a1 L.length c1) (idsB L) := Tx.rd_own ho1 (ids_len L).symm
       replace hacc := hacc.trans (hb1.mono hacc.size)
       have k1 := HS.out _ hacc
       clear ho1 hb1)
    | ((with_reducible refine (HRI.out _ hacc).mono ?_)
       rintro e2 w2 ⟨v2, rfl, hr2, hb2⟩
       obtain ⟨a2, c2, rfl⟩ := hr2.shape
       have hst := Tx.sameTexts_any w2 _ _ _ _ (hr1.below hb2) hr2 (by rw [ids_len]; omega) (by rw [ids_len]; omega)
       rw [decide_eq_true rfl] at hst
       have HST := Lib.hid hst
       replace hacc := hacc.trans (hb2.mono hacc.size)
       have k2 := HS.out _ hacc
       clear hr1 hr2 hb2 hst)
    | ((with_reducible refine HST.out.mono ?_)
       rintro e3 w3 ⟨rfl, q3, rfl⟩
       replace hacc := below_draw hacc q3
       have k3 := HS.out _ hacc)
    | ((with_reducible refine (HTX.out _ hacc).mono ?_)
       rintro e4 w4 ⟨rfl, hb4⟩
       replace hacc := hacc.trans (hb4.mono hacc.size)
       have k4 := HS.out _ hacc
       clear hb4)
    | ((with_reducible refine (HRT.out _ hacc).mono ?_)
       rintro e5 w5 ⟨rfl, hb5⟩
       replace hacc := hacc.trans (hb5.mono hacc.size)
       clear hb5))
  all_goals (
    have HACC := Lib.hid (HB.out.trans (hacc.mono HB.out.size))
    clear hacc
    go_wp2
    go_ret
    exact ⟨rfl, HACC.out⟩)
end Bk
end Go.Proofs.YtghkalamlcfnnaaGreatDoor
end
