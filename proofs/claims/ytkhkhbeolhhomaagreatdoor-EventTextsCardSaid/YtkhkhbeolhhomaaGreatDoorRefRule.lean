/- The reference's RuleError, isIn, stepOf. -/
import Derived.Test.YtkhkhbeolhhomaaGreatDoorRefInB
import Derived.Test.YtkhkhbeolhhomaaGreatDoorJ6
import Derived.Test.YtkhkhbeolhhomaaGreatDoorRefDay
namespace Go.Proofs.YtkhkhbeolhhomaaGreatDoor
open Go Go.RowKit Go.Shelf Lmd
namespace Cand
open Rul Day Er Ref

set_option maxHeartbeats 1000000 in
theorem stepOf_any (r : Ru) (v : Value) (w : World) :
    Calls Tryz.prog 162 #[.agg #[.string r.fq, .int .i64 r.ev, v, .int .i64 r.ct, .int .i64 r.un]] w fun e w' => e = .returned (.int .i64 (stepB r)) ∧ Below w.heap.size w w' := by
  have hB : Below w.heap.size w (w.alloc (.cells #[.string r.fq, .int .i64 r.ev, v, .int .i64 r.ct, .int .i64 r.un] 35)) := (Below.refl _ w).alloc (Nat.le_refl _) _
  have HB := Lib.hid hB
  clear hB
  by_cases h1 : r.fq.toList = [109, 111, 110, 116, 104, 108, 121]
  · have hs : stepB r = 28 := by unfold stepB; rw [if_pos h1]
    rw [hs]
    go_enter Tryz.func162, Tryz.ntmps162
    go_wp2
    go_ret
    exact ⟨rfl, HB.out⟩
  · by_cases h2 : r.fq.toList = [121, 101, 97, 114, 108, 121]
    · have hs : stepB r = 365 := by unfold stepB; rw [if_neg h1, if_pos h2]
      rw [hs]
      go_enter Tryz.func162, Tryz.ntmps162
      go_wp2
      go_ret
      exact ⟨rfl, HB.out⟩
    · have hs : stepB r = 1 := by unfold stepB; rw [if_neg h1, if_neg h2]
      rw [hs]
      have q1 : (r.fq.toList == [109, 111, 110, 116, 104, 108, 121]) = false := by simpa using h1
      have q2 : (r.fq.toList == [121, 101, 97, 114, 108, 121]) = false := by simpa using h2
      clear h1 h2 hs
      go_enter Tryz.func162, Tryz.ntmps162
      go_wp2
      go_ret
      exact ⟨rfl, HB.out⟩

set_option maxHeartbeats 1000000 in
theorem isIn_any (n : Int) (v : Value) (xs : List Int) (w : World) (hr : Ints.Reads w v xs) (hl : xs.length ≤ 1000000000) :
    Calls Tryz.prog 97 #[.int .i64 n, v] w fun e w' => e = .returned (.bool (decide (n ∈ xs))) ∧ w' = w := by
  obtain ⟨a, c, rfl⟩ := hr.shape
  by_cases hx : xs = []
  · subst hx
    have hd : decide (n ∈ ([] : List Int)) = false := by simp
    rw [hd]
    go_enter Tryz.func97, Tryz.ntmps97
    go_wp2
    refine wp_loop_rounds 1 ?_
    rw [rounds_succ]
    go_wp2
    go_ret
    exact ⟨rfl, rfl⟩
  · obtain ⟨_, b1, o1, rfl, hc1⟩ := hr.at hx
    have HC := Lib.hid hc1
    have HX := Lib.hid hx
    clear hr hc1 hx
    obtain ⟨q, hq0⟩ : ∃ q, decide (n ∈ xs) = q := ⟨_, rfl⟩
    have HQ := Lib.hid hq0
    rw [hq0]
    clear hq0
    go_enter Tryz.func97, Tryz.ntmps97
    go_wp2
    go_loopw [5] (fun p wr => ∃ i : Nat, i ≤ xs.length ∧ p = .int .i64 (i : Int) ∧ wr = w ∧ ∀ j, j < i → Ints.el xs j ≠ n) (fun p _ => xs.length - (intOf p).toNat)
    case atStart => exact ⟨0, Nat.zero_le _, rfl, rfl, fun _ h => by omega⟩
    case round =>
      obtain ⟨i, hi, rfl, rfl, hs⟩ := hrel
      have HS := Lib.hid hs
      clear hs
      by_cases hlt : i < xs.length
      · have k1 := HC.out i hlt
        obtain ⟨y, hy⟩ : ∃ y, Ints.el xs i = y := ⟨_, rfl⟩
        rw [hy] at k1
        have HYY := Lib.hid hy
        clear hy
        by_cases hq : y = n
        · subst hq
          obtain rfl : q = true := by rw [← HQ.out]; exact decide_eq_true (mem_el.2 ⟨i, hlt, HYY.out⟩)
          go_wp2
          go_ret
          exact ⟨rfl, rfl⟩
        · go_wp2
          go_roundw
          case rel => exact ⟨i + 1, by omega, by simp, by trivial, fun j hj => by
            by_cases e : j = i
            · subst e; rw [HYY.out]; exact hq
            · exact HS.out j (by omega)⟩
          case measure => simp [intOf]; omega
      · obtain rfl : q = false := by
          rw [← HQ.out]
          exact decide_eq_false (fun h => by
            obtain ⟨j, hj, e⟩ := mem_el.1 h
            exact HS.out j (by omega) e)
        go_wp2
        go_ret
        exact ⟨rfl, rfl⟩
end Cand
end Go.Proofs.YtkhkhbeolhhomaaGreatDoor
