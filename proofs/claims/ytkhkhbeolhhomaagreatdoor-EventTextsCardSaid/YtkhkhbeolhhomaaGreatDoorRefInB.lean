/- The reference's in, as a truth value. -/
import Derived.Test.YtkhkhbeolhhomaaGreatDoorRuleText
import Derived.Test.YtkhkhbeolhhomaaGreatDoorRefDay
namespace Go.Proofs.YtkhkhbeolhhomaaGreatDoor
open Go Go.RowKit Go.Shelf Lmd
namespace Cand
open Rul Day Er Ref

theorem in_b (n a b : Int) (w : World) : Calls Tryz.prog 94 #[.int .i64 n, .int .i64 a, .int .i64 b] w fun e w' => e = .returned (.bool (inB n a b)) ∧ w = w' := by
  by_cases h : a ≤ n ∧ n ≤ b
  · have hq : inB n a b = true := decide_eq_true h
    rw [hq]; exact in_yes n a b w h
  · have hq : inB n a b = false := decide_eq_false h
    rw [hq]; exact in_no n a b w h
theorem mem_el {xs : List Int} {x : Int} : x ∈ xs ↔ ∃ i, i < xs.length ∧ Ints.el xs i = x := by
  rw [List.mem_iff_getElem]
  constructor
  · rintro ⟨i, h, e⟩; exact ⟨i, h, by rw [Ints.el_lt h]; exact e⟩
  · rintro ⟨i, h, e⟩; exact ⟨i, h, by rw [← Ints.el_lt h]; exact e⟩
end Cand
end Go.Proofs.YtkhkhbeolhhomaaGreatDoor
