/- The reference's isCandidate. -/
import Derived.Test.YtkhkhbeolhhomaaGreatDoorRefRule
namespace Go.Proofs.YtkhkhbeolhhomaaGreatDoor
open Go Go.RowKit Go.Shelf Lmd
namespace Cand
open Rul Day Er Ref

set_option maxRecDepth 100000 in
set_option maxHeartbeats 4000000 in
theorem isCandidate_any (start y m d x z n b : Int) (r : Ru) (v : Value) (w : World) (ha : Cal.At start y m d) (hx : Cal.At x z n b) (hle : start ≤ x) (he0 : 1 ≤ r.ev) (he1 : r.ev ≤ 100) (hr : Ints.Reads w v r.ds) (hl : r.ds.length < 1000) :
    Calls Tryz.prog 161 #[.int .i64 start, .agg #[.string r.fq, .int .i64 r.ev, v, .int .i64 r.ct, .int .i64 r.un], .int .i64 x] w fun e w' => e = .returned (.bool (candB start y m d z n b r x)) ∧ Below w.heap.size w w' := by
  obtain ⟨a, cap, rfl⟩ := hr.shape
  obtain ⟨q, hq⟩ : ∃ q, candB start y m d z n b r x = q := ⟨_, rfl⟩
  rw [hq]
  have HQ := Lib.hid hq
  have hbd := Cal.at_bd ha
  have hbx := Cal.at_bd hx
  have hB : Below w.heap.size w (w.alloc (.cells #[.string r.fq, .int .i64 r.ev, .slice a r.ds.length cap, .int .i64 r.ct, .int .i64 r.un] 35)) := (Below.refl _ w).alloc (Nat.le_refl _) _
  have HR1 := Lib.hid (hr.below hB)
  have HB := Lib.hid hB
  have HA := Lib.hid ha
  have HX := Lib.hid hx
  clear hq hr hB ha hx
  obtain ⟨fq, ev', ct, un, ds⟩ := r
  dsimp only at *
  by_cases h1 : fq.toList = [111, 110, 99, 101]
  · have hq : decide (x = start) = q := by rw [← HQ.out]; unfold candB; rw [if_pos h1]
    by_cases hxs : x = start
    · obtain rfl : q = true := by rw [← hq]; exact decide_eq_true hxs
      clear hq
      go_enter Tryz.func161, Tryz.ntmps161
      go_wp2
      go_ret
      exact ⟨by first | rfl | simp [hxs], HB.out⟩
    · obtain rfl : q = false := by rw [← hq]; exact decide_eq_false hxs
      clear hq
      have hxs' : (x == start) = false := by simpa using hxs
      go_enter Tryz.func161, Tryz.ntmps161
      go_wp2
      go_ret
      exact ⟨by first | rfl | simp [hxs], HB.out⟩
  have q1 : (fq.toList == [111, 110, 99, 101]) = false := by simpa using h1
  by_cases h2 : fq.toList = [100, 97, 105, 108, 121]
  · have hq : decide ((x - start) % ev' = 0) = q := by rw [← HQ.out]; unfold candB; rw [if_neg h1, if_pos h2]
    have HQ2 := Lib.hid hq
    clear hq h1 HQ
    go_enter Tryz.func161, Tryz.ntmps161
    go_wp2
    go_ret
    exact ⟨Ints.ret_bool' (by rw [← HQ2.out]; exact Bool.eq_iff_iff.2 (by simp)), HB.out⟩
  have q2 : (fq.toList == [100, 97, 105, 108, 121]) = false := by simpa using h2
  by_cases h3 : fq.toList = [119, 101, 101, 107, 108, 121]
  · have hq : (decide (((x - (x + 5) % 7 - (start - (start + 5) % 7)) / 7) % ev' = 0) && decide ((x + 5) % 7 ∈ wdays start ds)) = q := by rw [← HQ.out]; unfold candB; rw [if_neg h1, if_neg h2, if_pos h3]
    have HQ2 := Lib.hid hq
    clear hq h1 h2 HQ
    by_cases hwk : (x - (x + 5) % 7 - (start - (start + 5) % 7)) / 7 % ev' = 0
    · by_cases hz : ds = []
      · subst hz
        have hz : ([] : List Int) = [] := rfl
        have hq : (((x + 5) % 7 == (start + 5) % 7) : Bool) = q := by
          rw [← HQ2.out, decide_eq_true hwk, Bool.true_and]
          unfold wdays; rw [if_pos hz]
          exact Bool.eq_iff_iff.2 (by simp)
        have HQ3 := Lib.hid hq
        clear hq HQ2 hz
        simp only [List.length_nil] at *
        go_enter Tryz.func161, Tryz.ntmps161
        go_wp2
        go_ret
        exact ⟨Ints.ret_bool' HQ3.out, HB.out⟩
      · have hzl : 0 < ds.length := Nat.pos_of_ne_zero (fun h => hz (List.length_eq_zero_iff.1 h))
        have hq : decide ((x + 5) % 7 ∈ ds) = q := by
          rw [← HQ2.out, decide_eq_true hwk, Bool.true_and]
          unfold wdays; rw [if_neg hz]
        have hin := isIn_any ((x + 5) % 7) _ ds _ HR1.out (by omega)
        rw [hq] at hin
        have HIN := Lib.hid hin
        clear hq hin HQ2 hz
        go_enter Tryz.func161, Tryz.ntmps161
        go_wp2_with (go_at_call 97; refine HIN.out.mono ?_; rintro e1 w1 ⟨rfl, rfl⟩)
        go_ret
        exact ⟨rfl, HB.out⟩
    · obtain rfl : q = false := by rw [← HQ2.out, decide_eq_false hwk]; rfl
      clear HQ2
      go_enter Tryz.func161, Tryz.ntmps161
      go_wp2
      go_ret
      exact ⟨rfl, HB.out⟩
  have q3 : (fq.toList == [119, 101, 101, 107, 108, 121]) = false := by simpa using h3
  have hq : (decide (d = b) && (if fq.toList = [121, 101, 97, 114, 108, 121] then decide (n = m) && decide ((z - y) % ev' = 0) else decide ((12 * (z - y) + n - m) % ev' = 0))) = q := by rw [← HQ.out]; unfold candB; rw [if_neg h1, if_neg h2, if_neg h3]
  have HQ2 := Lib.hid hq
  clear hq h1 h2 h3 HQ
  have hok := Cal.ok_range HA.out.1
  have hok2 := Cal.ok_range HX.out.1
  by_cases hdb : d = b
  · by_cases h4 : fq.toList = [121, 101, 97, 114, 108, 121]
    · have hq : (decide (n = m) && decide ((z - y) % ev' = 0)) = q := by rw [← HQ2.out, decide_eq_true hdb, if_pos h4, Bool.true_and]
      have HQ3 := Lib.hid hq
      have hzy : 0 ≤ z - y := by
        by_cases hc : z < y
        · have := Cal.num_lt HX.out.1 HA.out.1 (by omega); have := HA.out.2; have := HX.out.2; omega
        · omega
      clear hq HQ2
      by_cases hnm : n = m
      · go_enter Tryz.func161, Tryz.ntmps161
        go_wp2_with fail
        refine (dateOf_at _ _ _ _ _ HA.out).mono ?_
        rintro e1 w1 ⟨rfl, rfl⟩
        go_wp2_with fail
        refine (dateOf_at _ _ _ _ _ HX.out).mono ?_
        rintro e1 w1 ⟨rfl, rfl⟩
        go_wp2
        go_ret
        exact ⟨Ints.ret_bool' (by rw [← HQ3.out, decide_eq_true hnm, Bool.true_and]; exact Bool.eq_iff_iff.2 (by simp)), HB.out⟩
      · have hnm' : (n == m) = false := by simpa using hnm
        obtain rfl : q = false := by rw [← HQ3.out, decide_eq_false hnm]; rfl
        go_enter Tryz.func161, Tryz.ntmps161
        go_wp2_with fail
        refine (dateOf_at _ _ _ _ _ HA.out).mono ?_
        rintro e1 w1 ⟨rfl, rfl⟩
        go_wp2_with fail
        refine (dateOf_at _ _ _ _ _ HX.out).mono ?_
        rintro e1 w1 ⟨rfl, rfl⟩
        go_wp2
        go_ret
        exact ⟨by first | rfl | simp [hnm], HB.out⟩
    · have hq : decide ((12 * (z - y) + n - m) % ev' = 0) = q := by rw [← HQ2.out, decide_eq_true hdb, if_neg h4, Bool.true_and]
      have HQ3 := Lib.hid hq
      have q4 : (fq.toList == [121, 101, 97, 114, 108, 121]) = false := by simpa using h4
      have hk0 : 0 ≤ 12 * (z - y) + n - m := by
        by_cases hc : z < y ∨ z = y ∧ n < m
        · have := Cal.num_lt HX.out.1 HA.out.1 (by omega); have := HA.out.2; have := HX.out.2; omega
        · omega
      clear hq HQ2 h4
      go_enter Tryz.func161, Tryz.ntmps161
      go_wp2_with fail
      refine (dateOf_at _ _ _ _ _ HA.out).mono ?_
      rintro e1 w1 ⟨rfl, rfl⟩
      go_wp2_with fail
      refine (dateOf_at _ _ _ _ _ HX.out).mono ?_
      rintro e1 w1 ⟨rfl, rfl⟩
      go_wp2
      go_ret
      exact ⟨Ints.ret_bool' (by rw [← HQ3.out]; exact Bool.eq_iff_iff.2 (by simp)), HB.out⟩
  · have hdb' : (d == b) = false := by simpa using hdb
    obtain rfl : q = false := by rw [← HQ2.out, decide_eq_false hdb]; rfl
    clear HQ2
    go_enter Tryz.func161, Tryz.ntmps161
    go_wp2_with fail
    refine (dateOf_at _ _ _ _ _ HA.out).mono ?_
    rintro e1 w1 ⟨rfl, rfl⟩
    go_wp2_with fail
    refine (dateOf_at _ _ _ _ _ HX.out).mono ?_
    rintro e1 w1 ⟨rfl, rfl⟩
    go_wp2
    go_ret
    exact ⟨rfl, HB.out⟩
end Cand
end Go.Proofs.YtkhkhbeolhhomaaGreatDoor
