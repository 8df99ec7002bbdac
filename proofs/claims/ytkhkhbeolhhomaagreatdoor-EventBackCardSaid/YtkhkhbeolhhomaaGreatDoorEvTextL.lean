/- The text of any event; the fields' names. -/
import Derived.Test.YtkhkhbeolhhomaaGreatDoorEvented
import Derived.Test.YtkhkhbeolhhomaaGreatDoorEvSet
import Derived.Test.YtkhkhbeolhhomaaGreatDoorSameEv
namespace Go.Proofs.YtkhkhbeolhhomaaGreatDoor
open Go Go.RowKit Go.Shelf Lmd
attribute [local go_sem] Oper.semAt_some
namespace Evt
open Rul Day Cand Er Tp

theorem setE_size {e : Ev} (hz : Size e) (f : ByteArray) {s : ByteArray} (hs : s.size ≤ 30000) : Size (setE e f s) := by
  unfold setE
  split
  · exact ev_put_size hz f hs
  · exact zero_size
theorem movesC {xs : List (Int × Int)} {v : Value} {er : Nat → Addr} {w : World} (hT : Tb w er) (hr : MReads w v xs) (hl : xs.length ≤ 100000) : MovesC v xs w :=
  fun W h => moves_any xs v er W (hT.below h) (hr.below h) hl
theorem etextW_le {e : Ev} (h : badE e = 0) : e.mv.length ≤ 100000 := by
  have := (badL_zero (badE_zero h).2.2.2.2.2).2.1
  omega
set_option maxRecDepth 100000 in
set_option maxHeartbeats 1000000 in
/-- an event's text, whatever the event -/
theorem etext_any (e : Ev) (vd vs vm : Value) (er : Nat → Addr) (w : World) (hT : Tb w er) (hr : Rv w e vd vs vm) (hz : Size e) :
    Calls Tryz.prog 33 #[.agg (e.cells vd vs vm)] w fun r w' => r = .returned (.string (if badE e = 0 then mk (textE e) else ⟨#[]⟩)) ∧ Below w.heap.size w w' := by
  by_cases hb : badE e = 0
  · rw [if_pos hb]
    exact text_good e vd vs vm er w hT hr hz hb (movesC hT hr.m (etextW_le hb))
  · rw [if_neg hb]
    obtain ⟨W, hW⟩ : ∃ W, w.alloc (.cells (e.cells vd vs vm) 38) = W := ⟨_, rfl⟩
    have hB : Below w.heap.size w W := by rw [← hW]; exact (Below.refl _ w).alloc (Nat.le_refl _) _
    have hx : W.heap[w.heap.size]? = some (.cells (e.cells vd vs vm) 38) := by rw [← hW]; exact heap_new w _
    have hc := check_any e vd vs vm er W (hT.errs.below hB) (hr.below hB) hz
    obtain ⟨q, hq⟩ : ∃ q, badE e = q + 1 := ⟨badE e - 1, by omega⟩
    rw [hq] at hc
    have HC := Lib.hid hc
    have HX := Lib.hid hx
    have HB := Lib.hid hB
    have HW := Lib.hid hW
    clear hT hr hz hb hW hB hx hc hq
    go_enter Tryz.func33, Tryz.ntmps33
    obtain ⟨k0, k1, k2, k3, k4, k5, k6, k7, k8, k9, k10⟩ := cells11 HX.out
    go_upto_region 1 with fail
    rw [HW.out]
    go_wp2_with fail
    (with_reducible refine HC.out.mono ?_)
    rintro e1 w1 ⟨rfl, hb1⟩
    have HB1 := Lib.hid (HB.out.trans (hb1.mono HB.out.size))
    clear hb1
    simp only [errV]
    go_wp2
    go_ret
    exact ⟨rfl, HB1.out⟩
theorem fields_low (w : World) : Calls Tryz.prog 35 #[] w fun e w' => e = .returned (.slice (some ⟨w.heap.size, 0, none⟩) 6 6) ∧ w'.heap[w.heap.size]? = some (.cells fieldsV 9) ∧ Below w.heap.size w w' :=
  (fields_new w).mono fun _ _ ⟨h1, h2⟩ => ⟨h1, by rw [h2]; exact heap_new w _, by rw [h2]; exact (Below.refl _ w).alloc (Nat.le_refl _) _⟩
end Evt
end Go.Proofs.YtkhkhbeolhhomaaGreatDoor
