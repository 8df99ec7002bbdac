/- The document's calendars: IDs, Text. -/
import Derived.Test.YtenmeaoagepfnaaGreatDoorBkRef
import Derived.Test.YtenmeaoagepfnaaGreatDoorA13
import Derived.Test.YtenmeaoagepfnaaGreatDoorRefField
import Derived.Test.YtenmeaoagepfnaaGreatDoorA15
namespace Go.Proofs.YtenmeaoagepfnaaGreatDoor
open Go Go.RowKit Go.Shelf Lmd
attribute [local go_sem] Oper.semAt_some
namespace Bk
open Evt Tp Rul Day Cand Er

def idsV (xs : List EvV) : List ByteArray := idsB (xs.map (·.e))
theorem idsV_len (xs : List EvV) : (idsV xs).length = xs.length := by simp [idsV, idsB]
theorem idsV_take {xs : List EvV} {k : Nat} (h : k < xs.length) : idsV (xs.take (k + 1)) = idsV (xs.take k) ++ [(el xs k).e.id] := by
  unfold idsV idsB
  rw [el_take_succ h, List.map_append, List.map_append]; rfl
set_option maxRecDepth 100000 in
set_option maxHeartbeats 4000000 in
theorem rids_any (xs : List EvV) (v : Value) (w : World) (hr : EReads w v xs) (hl : xs.length ≤ 1000) :
    Calls Tryz.prog 56 #[.agg #[v]] w fun r w' => ∃ v', r = .returned v' ∧ Tx.Rd w' v' (idsV xs) ∧ Below w.heap.size w w' := by
  obtain ⟨a, cap, rfl⟩ := hr.shape
  obtain ⟨n, hn⟩ : ∃ n, xs.length = n := ⟨_, rfl⟩
  rw [hn] at hr hl ⊢
  obtain ⟨W, hW⟩ : ∃ W, w.alloc (.cells #[.slice a n cap] 29) = W := ⟨_, rfl⟩
  have hB : Below w.heap.size w W := by rw [← hW]; exact (Below.refl _ w).alloc (Nat.le_refl _) _
  have hx : W.heap[w.heap.size]? = some (.cells #[.slice a n cap] 29) := by rw [← hW]; exact heap_new w _
  have HR := Lib.hid hr
  have HW := Lib.hid hW
  have HB := Lib.hid hB
  have HN := Lib.hid hn
  have HX := Lib.hid hx
  clear hr hW hB hx hn
  go_enter Tryz.func56, Tryz.ntmps56
  go_wp2_with fail
  rw [HW.out]
  go_loopw [3, 4] (fun v3 i wr => ∃ k : Nat, k ≤ n ∧ i = .int .i64 (k : Int) ∧ (∃ a c, v3 = .slice a k c) ∧ wr.ownsRow W.heap.size 9 1 v3 (idsV (xs.take k)).length (cellsS (idsV (xs.take k))) ∧ Below W.heap.size W wr) (fun _ i _ => n - (intOf i).toNat)
  case atStart => exact ⟨0, Nat.zero_le _, rfl, ⟨none, 0, rfl⟩, ⟨rfl, .inl ⟨rfl, rfl⟩⟩, Below.refl _ _⟩
  case round =>
    obtain ⟨k, hk, rfl, ⟨a7, c7', rfl⟩, hown, hbr⟩ := hrel
    have hsr := hbr.size
    have HOWN := Lib.hid hown
    have HBR := Lib.hid hbr
    have hrr := HR.out.below (HB.out.trans (hbr.mono HB.out.size))
    have hfl : (idsV (xs.take k)).length = k := by rw [idsV_len, List.length_take, HN.out]; omega
    obtain ⟨k0, -⟩ := cell1r (row_below HX.out hbr)
    clear hown hbr
    by_cases hlt : k < n
    · have hsn := idsV_take (xs := xs) (k := k) (by rw [HN.out]; exact hlt)
      obtain ⟨-, b, o, ha, hc⟩ := hrr.at (by intro h; have := HN.out; rw [h] at this; simp at this; omega)
      subst ha
      have c0 := (hc k (by rw [HN.out]; exact hlt)).1.k0
      obtain ⟨y, hy⟩ : ∃ y, (el xs k).e.id = y := ⟨_, rfl⟩
      rw [hy] at c0 hsn
      have HSN := Lib.hid hsn
      have HFL := Lib.hid hfl
      clear hc hrr hy hsn hfl
      go_wp2_with (at_builtin
                   refine append_str rfl (.tmp 12) (.tmp 19) rfl W.heap.size (.slice a7 k c7') (idsV (xs.take k)) rfl (HOWN.out.alloc _) wr.heap.size y rfl (cell_of (heap_new wr _) rfl) (by rw [HFL.out]; omega) (by simp; omega) ?_
                   intro a1 c2 wb hown' hbb
                   rw [HFL.out] at hown' ⊢
                   have HOB := Lib.hid hown'
                   have HBB := Lib.hid (HBR.out.trans (((Below.refl _ wr).alloc hsr _).trans hbb))
                   clear hown' hbb)
      go_roundw
      case rel => exact ⟨k + 1, by omega, by go_num, ⟨a1, c2, rfl⟩, by rw [HSN.out]; exact HOB.out, HBB.out⟩
      case measure => simp [intOf]; omega
    · obtain rfl : k = n := by omega
      have htk : xs.take xs.length = xs := List.take_length
      rw [HN.out] at htk
      rw [htk] at HOWN hfl
      have HRD := Lib.hid (Tx.rd_own (n := (idsV xs).length) (by rw [hfl]; rw [hfl] at HOWN; exact HOWN.out) rfl)
      have HBX := Lib.hid (HB.out.trans (HBR.out.mono HB.out.size))
      clear htk hrr
      go_wp2
      go_ret
      exact ⟨_, rfl, HRD.out, HBX.out⟩
set_option maxRecDepth 100000 in
set_option maxHeartbeats 4000000 in
theorem rtext_any (xs : List EvV) (v : Value) (w : World) (hr : EReads w v xs) (hl : xs.length ≤ 1000) (hg : ∀ x ∈ xs, badE x.e = 0) (hz : ∀ x ∈ xs, Size x.e) (htl : ∀ k, (textB ((xs.take k).map (·.e))).length ≤ 100000000) :
    Calls Tryz.prog 57 #[.agg #[v]] w fun r w' => r = .returned (.string (mk (textB (xs.map (·.e))))) ∧ Below w.heap.size w w' := by
  obtain ⟨a, cap, rfl⟩ := hr.shape
  obtain ⟨n, hn⟩ : ∃ n, xs.length = n := ⟨_, rfl⟩
  rw [hn] at hr hl ⊢
  obtain ⟨W, hW⟩ : ∃ W, w.alloc (.cells #[.slice a n cap] 29) = W := ⟨_, rfl⟩
  have hB : Below w.heap.size w W := by rw [← hW]; exact (Below.refl _ w).alloc (Nat.le_refl _) _
  have hx : W.heap[w.heap.size]? = some (.cells #[.slice a n cap] 29) := by rw [← hW]; exact heap_new w _
  have HR := Lib.hid hr
  have HW := Lib.hid hW
  have HB := Lib.hid hB
  have HN := Lib.hid hn
  have HX := Lib.hid hx
  clear hr hW hB hx hn
  have HG := Lib.hid hg
  have HZ := Lib.hid hz
  have HTL := Lib.hid htl
  clear hg hz htl
  go_enter Tryz.func57, Tryz.ntmps57
  go_wp2_with fail
  rw [HW.out]
  go_loopw [3, 4] (fun v3 i wr => ∃ k : Nat, k ≤ n ∧ i = .int .i64 (k : Int) ∧ v3 = .string (mk (textB ((xs.take k).map (·.e)))) ∧ Below W.heap.size W wr) (fun _ i _ => n - (intOf i).toNat)
  case atStart => exact ⟨0, Nat.zero_le _, rfl, rfl, Below.refl _ _⟩
  case round =>
    obtain ⟨k, hk, rfl, rfl, hbr⟩ := hrel
    have HBR := Lib.hid hbr
    have hrr := HR.out.below (HB.out.trans (hbr.mono HB.out.size))
    obtain ⟨k0, -⟩ := cell1r (row_below HX.out hbr)
    obtain ⟨S, hS⟩ : ∃ S, textB ((xs.take k).map (·.e)) = S := ⟨_, rfl⟩
    rw [hS]
    have HS := Lib.hid hS
    clear hbr hS
    by_cases hlt : k < n
    · have htk := el_take_succ (xs := xs) (k := k) (by rw [HN.out]; exact hlt)
      obtain ⟨-, b, o, ha, hc⟩ := hrr.at (by intro h; have := HN.out; rw [h] at this; simp at this; omega)
      subst ha
      obtain ⟨⟨c0, c1', c2, c3', c4, c5, c6, c7, c8, c9, c10⟩, hrv⟩ := hc k (by rw [HN.out]; exact hlt)
      have hmx := el_mem (xs := xs) (i := k) (by rw [HN.out]; exact hlt)
      obtain ⟨x, hx⟩ : ∃ x, el xs k = x := ⟨_, rfl⟩
      rw [hx] at c0 c1' c2 c3' c4 c5 c6 c7 c8 c9 c10 hrv hmx htk
      obtain ⟨e, vd, vs, vm⟩ := x
      dsimp only at c0 c1' c2 c3' c4 c5 c6 c7 c8 c9 c10
      change Rv wr e vd vs vm at hrv
      obtain ⟨a6, c6', rfl⟩ := hrv.d.shape
      obtain ⟨a9, c9', rfl⟩ := hrv.s.shape
      obtain ⟨a10, c10', rfl⟩ := hrv.m.shape
      have hte := reventText_any e _ _ _ wr hrv (HZ.out _ hmx)
      have hgd : badE e = 0 := HG.out _ hmx
      rw [if_pos hgd] at hte
      have hst : textB ((xs.take (k + 1)).map (·.e)) = S ++ (textE e ++ [10]) := by
        rw [htk, List.map_append]
        show textB (_ ++ [e]) = _
        rw [textB_snoc, HS.out]
      have hlen := HTL.out (k + 1)
      rw [hst, List.length_append, List.length_append, List.length_singleton] at hlen
      have HTE := Lib.hid hte
      have HST := Lib.hid hst
      have hl1 : S.length ≤ 100000000 := by omega
      have hl2 : (textE e).length ≤ 100000000 := by omega
      clear hc hrr hx hrv hmx hgd hte hst htk
      obtain ⟨TE, hTE⟩ : ∃ TE, textE e = TE := ⟨_, rfl⟩
      rw [hTE] at HTE HST hl2 hlen
      clear hTE
      go_wp2_with fail
      (with_reducible refine HTE.out.mono ?_)
      rintro e1 w1 ⟨rfl, hb1⟩
      have HB1 := Lib.hid (HBR.out.trans (hb1.mono HBR.out.size))
      clear hb1
      go_wp2
      go_roundw
      case rel => exact ⟨k + 1, by omega, by go_num, by rw [HST.out, show (⟨#[10]⟩ : ByteArray) = mk [10] from rfl, mk_cat, mk_cat, List.append_assoc], HB1.out⟩
      case measure => simp [intOf]; omega
    · obtain rfl : k = n := by omega
      have htk : xs.take xs.length = xs := List.take_length
      rw [HN.out] at htk
      rw [htk] at HS
      have HBX := Lib.hid (HB.out.trans (HBR.out.mono HB.out.size))
      clear htk hrr
      go_wp2
      go_ret
      exact ⟨by rw [HS.out]; rfl, HBX.out⟩
end Bk
end Go.Proofs.YtenmeaoagepfnaaGreatDoor
