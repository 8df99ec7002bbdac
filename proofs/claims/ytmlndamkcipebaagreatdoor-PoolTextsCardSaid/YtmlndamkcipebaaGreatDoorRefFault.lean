/- The reference's faults: Bare, Fine. -/
import Derived.Test.YtmlndamkcipebaaGreatDoorRuleText
import Derived.Test.YtmlndamkcipebaaGreatDoorFar
namespace Go.Proofs.YtmlndamkcipebaaGreatDoor
open Go Go.RowKit Lmd
namespace Rp
open Rul Day Cand Tp

theorem cells2 {w : World} {b : Nat} {a0 a1 : Value} {t : TypeId} (h : w.heap[b]? = some (.cells #[a0, a1] t (0, 0))) :
    w.cell? ⟨b, 0, none⟩ = some a0 ∧ w.cell? ⟨b, 1, none⟩ = some a1 ∧ w.frozen? ⟨b, 0, none⟩ = false ∧ w.frozen? ⟨b, 1, none⟩ = false := by
  simp [World.cell?, World.frozen?, h]
theorem put2_row {W : World} {b : Nat} {c0 c1 : Value} {t : TypeId} (h : W.heap[b]? = some (.cells #[c0, c1] t (0, 0))) {a0 a1 : Value} : ((W.setCell ⟨b, 0, none⟩ a0).setCell ⟨b, 1, none⟩ a1).heap[b]? = some (.cells #[a0, a1] t (0, 0)) :=
  row_set (row_set h 0 a0) 1 a1
theorem put2_below {B b : Nat} {w W : World} (h : Below B w W) (hb : B ≤ b) {a0 a1 : Value} : Below B w ((W.setCell ⟨b, 0, none⟩ a0).setCell ⟨b, 1, none⟩ a1) :=
  (h.setCell (p := ⟨b, 0, none⟩) hb a0).setCell (p := ⟨b, 1, none⟩) hb a1
theorem res_bare {W : World} {b : Nat} {a0 a1 : Value} {tmps : Array Value} (h : W.heap[b]? = some (.cells #[a0, a1] 46 (0, 0))) (h2 : tmps.getD 2 undef = .pointer (some ⟨b, 0, none⟩)) :
    (results Tryz.f48 tmps).run Tryz.prog W = .ok (.agg #[a0, a1]) W := by
  obtain ⟨q0, q1, _⟩ := cells2 h
  have h2' : tmps[2]?.getD undef = .pointer (some ⟨b, 0, none⟩) := by simpa using h2
  simp [results, Tryz.f48, go_sem, h2', q0, q1]
theorem res_fine {W : World} {b : Nat} {a0 a1 : Value} {tmps : Array Value} (h : W.heap[b]? = some (.cells #[a0, a1] 46 (0, 0))) (h2 : tmps.getD 0 undef = .pointer (some ⟨b, 0, none⟩)) :
    (results Tryz.f51 tmps).run Tryz.prog W = .ok (.agg #[a0, a1]) W := by
  obtain ⟨q0, q1, _⟩ := cells2 h
  have h2' : tmps[0]?.getD undef = .pointer (some ⟨b, 0, none⟩) := by simpa using h2
  simp [results, Tryz.f51, go_sem, h2', q0, q1]
theorem bare_any (c : Int) (w : World) : Calls Tryz.prog 48 #[.int .i64 c] w fun e w' => e = .returned (.agg #[.int .i64 c, .int .i64 (-1)]) ∧ Below w.heap.size w w' := by
  have hx := heap_new w (.cells #[.int .i64 0, .int .i64 0] 46)
  obtain ⟨k0, k1, f0, f1⟩ := cells2 hx
  have HX := Lib.hid hx
  clear hx
  go_enter Tryz.func48, Tryz.ntmps48
  go_wp2
  exact bodyPost_ret (res_bare (heap_new w _) rfl) rfl ⟨rfl, (Below.refl _ w).alloc (Nat.le_refl _) _⟩
theorem fine_any (w : World) : Calls Tryz.prog 51 #[] w fun e w' => e = .returned (.agg #[.int .i64 0, .int .i64 (-1)]) ∧ Below w.heap.size w w' := by
  have hx := heap_new w (.cells #[.int .i64 0, .int .i64 0] 46)
  obtain ⟨k0, k1, f0, f1⟩ := cells2 hx
  have HX := Lib.hid hx
  clear hx
  go_enter Tryz.func51, Tryz.ntmps51
  go_wp2
  exact bodyPost_ret (res_fine (heap_new w _) rfl) rfl ⟨rfl, (Below.refl _ w).alloc (Nat.le_refl _) _⟩
end Rp
end Go.Proofs.YtmlndamkcipebaaGreatDoor
