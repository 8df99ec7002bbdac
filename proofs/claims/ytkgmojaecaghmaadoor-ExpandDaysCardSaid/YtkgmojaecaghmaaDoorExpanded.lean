/- The closed fact of the laws on expand. -/
import Derived.Test.YtkgmojaecaghmaaDoorIsDay
namespace Go.Proofs.YtkgmojaecaghmaaDoor
open Go Go.RowKit Go.Shelf Lmd
attribute [local go_sem] Oper.semAt_some
namespace Cand
open Rul Day Er

def r0 : Ru := ⟨daily, 2, 0, -1, []⟩
theorem bad_r0 : bad r0 = 0 := by
  refine bad_none ((Lib.containsS_iff _ _).2 (by simp [freqs, r0])) ?_ ?_ ?_
  · simp [r0, boundB, inB, daysB]
  · simp [r0, shapeB]
  · simp [r0, riseB]
theorem steps_get {a s hi : Int} {k : Nat} (hs : 0 < s) (h : a + s * k ≤ hi) : nthB (steps a s hi) k = true ∧ nthV (steps a s hi) k = a + s * k := by
  have h2 : upTo a s k ++ [a + s * k] <+: steps a s hi := by rw [← upTo_succ]; exact steps_pre hs h
  have := nthB_hit h2 (n := (k : Int)) (by rw [upTo_len])
  exact this
set_option maxHeartbeats 1000000 in
theorem expanded_any (e : Nat → Addr) (w : World) (he : E4 w e) :
    Calls Tryd.prog 12 #[] w fun e' w' => e' = .returned (.bool true) ∧ Below w.heap.size w w' := by
  obtain ⟨y, m, d, ha⟩ := Cal.at_exists 10 (by omega) (by omega)
  have hL : daysOf r0.ct r0.un (cands 10 y m d r0) = steps 10 2 73048 := by
    have e1 : r0.fq.toList = [100, 97, 105, 108, 121] := by show daily.toList = _; simp
    unfold cands
    rw [if_neg (by rw [e1]; decide), if_pos e1]
    exact daysOf_free _
  have hg := gives_all 10 y m d r0 (.slice none 0 0) e w he bad_r0 (by simp [r0]) ha
  rw [hL] at hg
  have hn := nth_any 10 r0 (.slice none 0 0) 3 _ e w hg he (Or.inl ⟨rfl, none, 0, rfl⟩)
  obtain ⟨q1, q2⟩ := steps_get (a := 10) (s := 2) (hi := 73048) (k := 3) (by omega) (by omega)
  rw [show ((3 : Nat) : Int) = 3 by rfl] at q1 q2
  rw [q1, q2] at hn
  have HN := Lib.hid hn
  clear hn hg hL q1 q2
  go_enter Tryd.func12, Tryd.ntmps12
  go_wp2_with (go_at_call 16; refine HN.out.mono ?_; rintro e' w1 ⟨rfl, hb⟩)
  go_ret
  exact ⟨rfl, hb⟩
end Cand
end Go.Proofs.YtkgmojaecaghmaaDoor
