/- The reference's faults: Bare, Fine. -/
import Derived.Test.YtghkalamlcfnnaaGreatDoorQRuleText
import Derived.Test.YtghkalamlcfnnaaGreatDoorQA6
namespace Go.Proofs.YtghkalamlcfnnaaGreatDoor
open Go Go.RowKit Lmd
namespace Rp
open Rul Day Cand Tp
theorem cells2 {w : World} {b : Nat} {a0 a1 : Value} {t : TypeId} (h : w.heap[b]? = some (.cells #[a0, a1] t (0, 0))) :
    w.cell? ⟨b, 0, none⟩ = some a0 ∧ w.cell? ⟨b, 1, none⟩ = some a1 ∧ w.frozen? ⟨b, 0, none⟩ = false ∧ w.frozen? ⟨b, 1, none⟩ = false := by
  simp [World.cell?, World.frozen?, h]
theorem res_fine {W : World} {b : Nat} {a0 a1 : Value} {tmps : Array Value} (h : W.heap[b]? = some (.cells #[a0, a1] 64 (0, 0))) (h2 : tmps.getD 0 undef = .pointer (some ⟨b, 0, none⟩)) :
    (results Tryz.f62 tmps).run Tryz.prog W = .ok (.agg #[a0, a1]) W := by
  obtain ⟨q0, q1, _⟩ := cells2 h
  have h2' : tmps[0]?.getD undef = .pointer (some ⟨b, 0, none⟩) := by simpa using h2
  simp [results, Tryz.f62, go_sem, h2', q0, q1]
theorem fine_any (w : World) : Calls Tryz.prog 62 #[] w fun e w' => e = .returned (.agg #[.int .i64 0, .int .i64 (-1)]) ∧ Below w.heap.size w w' := by
  have hx := heap_new w (.cells #[.int .i64 0, .int .i64 0] 64)
  obtain ⟨k0, k1, f0, f1⟩ := cells2 hx
  have HX := Lib.hid hx
  clear hx
  go_enter Tryz.func62, Tryz.ntmps62
  go_wp2
  exact bodyPost_ret (res_fine (heap_new w _) rfl) rfl ⟨rfl, (Below.refl _ w).alloc (Nat.le_refl _) _⟩
end Rp
end Go.Proofs.YtghkalamlcfnnaaGreatDoor
