/- package lammastidelaw2: faulted. -/
import Derived.Test.YtmlndamkcipebaaGreatDoorCodedL2
import Derived.Test.YtmlndamkcipebaaGreatDoorRefFault
namespace Go.Proofs.YtmlndamkcipebaaGreatDoor
open Go Go.RowKit Lmd
namespace Cd2
open Rul Day Cand Er Rp

/-- an error with its place, against its fault -/
theorem faulted_at (e : Nat → Addr) (k : Nat) (hk : k < 11) (f : Nat) (n : Int) (w : World) (he : Errs w e) (hx : w.heap[f]? = some (.cells #[.int .i64 n, errV e (k + 1)] 84 (0, 0))) :
    Calls Tryz.prog 20 #[.iface 82 (.pointer (some ⟨f, 0, none⟩)), .agg #[.int .i64 ((k + 1 : Nat) : Int), .int .i64 n]] w fun e' w' => e' = .returned (.bool true) ∧ Below w.heap.size w w' := by
  have hk2 : ((k + 1 : Nat) : Int) = (k : Int) + 1 := by omega
  rw [hk2]
  obtain ⟨W1, hW1⟩ : ∃ W1, w.alloc (.cells #[.int .i64 ((k : Int) + 1), .int .i64 n] 46) = W1 := ⟨_, rfl⟩
  have hb1 : Below w.heap.size w W1 := by rw [← hW1]; exact (Below.refl _ w).alloc (Nat.le_refl _) _
  have hx1 := heap_new w (.cells #[.int .i64 ((k : Int) + 1), .int .i64 n] 46)
  rw [hW1] at hx1
  have hf1 := row_below' hx hb1
  obtain ⟨p0, p1, _⟩ := cells2 hf1
  have H := Lib.hid (code_fault e k hk ⟨f, 0, none⟩ n W1 (he.below hb1) p0 p1)
  have HW1 := Lib.hid hW1
  have HB1 := Lib.hid hb1
  have HX1 := Lib.hid hx1
  have hkk : (((k : Int) + 1) == 0) = false := by rw [beq_eq_false_iff_ne]; omega
  clear he hk2 hW1 hb1 hx1 hf1 p0 p1 hx
  go_enter Tryz.func20, Tryz.ntmps20
  go_wp2_with fail
  rw [HW1.out]
  (with_reducible refine H.out.mono ?_)
  rintro e1 w1 ⟨rfl, hb⟩
  have hx2 := row_below' HX1.out hb
  obtain ⟨q0, q1, _⟩ := cells2 hx2
  have HB := Lib.hid (HB1.out.trans (hb.mono HB1.out.size))
  clear hb hx2
  go_wp2_with fail
  go_ret
  exact ⟨rfl, HB.out⟩
/-- an error without a place, against its fault -/
theorem faulted_bare (e : Nat → Addr) (k : Nat) (hk : k < 11) (w : World) (he : Errs w e) :
    Calls Tryz.prog 20 #[errV e (k + 1), .agg #[.int .i64 ((k + 1 : Nat) : Int), .int .i64 (-1)]] w fun e' w' => e' = .returned (.bool true) ∧ Below w.heap.size w w' := by
  have hk2 : ((k + 1 : Nat) : Int) = (k : Int) + 1 := by omega
  rw [hk2]
  obtain ⟨W1, hW1⟩ : ∃ W1, w.alloc (.cells #[.int .i64 ((k : Int) + 1), .int .i64 (-1)] 46) = W1 := ⟨_, rfl⟩
  have hb1 : Below w.heap.size w W1 := by rw [← hW1]; exact (Below.refl _ w).alloc (Nat.le_refl _) _
  have hx1 := heap_new w (.cells #[.int .i64 ((k : Int) + 1), .int .i64 (-1)] 46)
  rw [hW1] at hx1
  have H := Lib.hid (code_sent e k hk W1 (he.below hb1))
  have HW1 := Lib.hid hW1
  have HB1 := Lib.hid hb1
  have HX1 := Lib.hid hx1
  have hkk : (((k : Int) + 1) == 0) = false := by rw [beq_eq_false_iff_ne]; omega
  clear he hk2 hW1 hb1 hx1
  simp only [errV]
  go_enter Tryz.func20, Tryz.ntmps20
  go_wp2_with fail
  rw [HW1.out]
  (with_reducible refine H.out.mono ?_)
  rintro e1 w1 ⟨rfl, hb⟩
  have hx2 := row_below' HX1.out hb
  obtain ⟨q0, q1, _⟩ := cells2 hx2
  have HB := Lib.hid (HB1.out.trans (hb.mono HB1.out.size))
  clear hb hx2
  go_wp2_with fail
  go_ret
  exact ⟨rfl, HB.out⟩
end Cd2
end Go.Proofs.YtmlndamkcipebaaGreatDoor
