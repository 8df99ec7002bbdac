/- Contracts of the functions of package day that compute with numbers alone. -/
import Derived.Test.YtkhkhbeolhhomaaGreatDoorRows
import Derived.Test.YtkhkhbeolhhomaaGreatDoorDig
import Derived.WalkKit
import Derived.WalkSpells
import Derived.WalkLawsBesides
import Derived.Lib.Hide
import Derived.Deep.QuietTactic
import Derived.BigQuiet
namespace Go.Proofs.YtkhkhbeolhhomaaGreatDoor
open Go.RowKit Lmd

namespace Day
theorem drewN_add (w : World) (a b : Nat) : (w.drewN a).drewN b = w.drewN (a + b) := by
  simp [World.drewN, Nat.add_assoc]
theorem ret_int {k : IntKind} {a b : Int} (h : a = b) : Ending.returned (.int k a) = .returned (.int k b) := by rw [h]

theorem ret2 {a b c d : Value} (h : a = c) (k : b = d) : Ending.returned (.tuple #[a, b]) = .returned (.tuple #[c, d]) := by rw [h, k]
theorem ret_bool {a b : Bool} (h : a = b) : Ending.returned (.bool a) = .returned (.bool b) := by rw [h]

set_option maxHeartbeats 400000 in
theorem leap_any (y : Int) (w : World) (h1 : 2000 ≤ y) (h2 : y ≤ 2199) :
    Calls Tryz.prog 277 #[.int .i64 y] w fun e w' => e = .returned (.bool (Cal.lp y)) ∧ w = w' := by
  go_enter Tryz.func277, Tryz.ntmps277
  go_wp2
  all_goals go_ret
  all_goals exact ⟨ret_bool (by rw [Bool.eq_iff_iff]; simp [Cal.lp]; omega), rfl⟩

set_option maxHeartbeats 800000 in
theorem months_in (y m : Int) (w : World) (h1 : 2000 ≤ y) (h2 : y ≤ 2199) (h3 : 1 ≤ m) (h4 : m ≤ 12) :
    Calls Tryz.prog 235 #[.int .i64 y, .int .i64 m] w fun e w' => e = .returned (.int .i64 (Cal.mon y m)) ∧ w = w' := by
  rw [Cal.mon_in h1 h2 h3 h4]
  go_enter Tryz.func235, Tryz.ntmps235
  go_wp2_with (go_at_call 277; refine (leap_any _ _ h1 h2).mono ?_; rintro e w' ⟨rfl, rfl⟩)
  all_goals go_ret
  all_goals exact ⟨ret_int (by unfold Cal.dim Cal.feb; simp_all), rfl⟩

set_option maxHeartbeats 400000 in
theorem months_out (y m : Int) (w : World) (h : y < 2000 ∨ 2199 < y ∨ m < 1 ∨ 12 < m) :
    Calls Tryz.prog 235 #[.int .i64 y, .int .i64 m] w fun e w' => e = .returned (.int .i64 (Cal.mon y m)) ∧ w = w' := by
  rw [Cal.mon_out h]
  rcases h with h | h | h | h
  all_goals
    go_enter Tryz.func235, Tryz.ntmps235
    go_wp2_with fail
    all_goals go_ret
    all_goals exact ⟨rfl, rfl⟩

theorem months_any (y m : Int) (w : World) :
    Calls Tryz.prog 235 #[.int .i64 y, .int .i64 m] w fun e w' => e = .returned (.int .i64 (Cal.mon y m)) ∧ w = w' := by
  by_cases h : y < 2000 ∨ 2199 < y ∨ m < 1 ∨ 12 < m
  · exact months_out y m w h
  · exact months_in y m w (by omega) (by omega) (by omega) (by omega)

set_option maxHeartbeats 400000 in
theorem years_any (y : Int) (w : World) (h1 : 2000 ≤ y) (h2 : y ≤ 2200) :
    Calls Tryz.prog 234 #[.int .i64 y] w fun e w' => e = .returned (.int .i64 (Cal.yrs y)) ∧ w = w' := by
  by_cases e : y = 2000
  · subst e
    go_enter Tryz.func234, Tryz.ntmps234
    go_wp2
    go_ret
    exact ⟨rfl, rfl⟩
  · have e0 : (y - 2000 == 0) = false := by rw [beq_eq_false_iff_ne]; omega
    have hy : Cal.yrs y = 365 * (y - 2000) + (y - 2001) / 4 - (y - 2001) / 100 + (y - 2001) / 400 + 1 := by unfold Cal.yrs; rw [if_neg e]
    have HY := Lib.hid hy
    clear hy
    go_enter Tryz.func234, Tryz.ntmps234
    go_wp2
    go_ret
    exact ⟨ret_int (by rw [HY.out]; omega), rfl⟩


set_option maxHeartbeats 800000 in
theorem make_ok (y m d : Int) (w : World) (h : Cal.Ok y m d) :
    Calls Tryz.prog 226 #[.int .i64 y, .int .i64 m, .int .i64 d] w fun e w' => e = .returned (.tuple #[.int .i64 (Cal.num y m d), .nilIface]) ∧ w = w' := by
  obtain ⟨a1, a2, a3, a4, a5, a6⟩ := Cal.ok_range h
  have hm := h.2
  have hl : ¬ Cal.mon y m < d := by omega
  have hy := Cal.yrs_bd a1 a2
  have hc0 := Cal.cum_one y
  have HM : Hid (Cal.mon y m = Cal.dim y m) := Cal.mon_in a1 a2 a3 a4
  go_enter Tryz.func226, Tryz.ntmps226
  go_wp2_with (first | (go_at_call 235; refine (months_any _ _ _).mono ?_; rintro e w' ⟨rfl, rfl⟩) | (go_at_call 234; refine (years_any _ _ a1 (by omega)).mono ?_; rintro e w' ⟨rfl, rfl⟩))
  clear hc0
  go_loop [8, 9] (fun n k => ∃ j : Int, 1 ≤ j ∧ j ≤ m ∧ k = .int .i64 j ∧ n = .int .i64 (Cal.yrs y + d - 1 + Cal.cum y j)) (fun _ k => (m - intOf k).toNat)
  case atStart => exact ⟨1, by omega, a3, rfl, by rw [Cal.cum_one]; go_num⟩
  case round =>
    obtain ⟨j, j1, j2, rfl, rfl⟩ := hrel
    have cb := Cal.cum_bd y j j1 (by omega)
    by_cases hj : j < m
    · have cs := Cal.cum_succ y j j1 (by omega)
      have mi := Cal.mon_in a1 a2 j1 (show j ≤ 12 by omega)
      have mb := Cal.mon_bd y j
      have CS := Lib.hid cs
      have MI := Lib.hid mi
      clear cs mi
      go_wp2_with (go_at_call 235; refine (months_any _ _ _).mono ?_; rintro e w' ⟨rfl, rfl⟩)
      go_round
      case rel => exact ⟨j + 1, by omega, by omega, rfl, by rw [CS.out, ← MI.out]; go_num⟩
      case measure => simp [intOf]; omega
    · obtain rfl : j = m := by omega
      go_wp2
      go_ret2
      exact ⟨ret2 (congrArg (Value.int .i64) (by unfold Cal.num; omega)) rfl, rfl⟩

set_option maxHeartbeats 800000 in
theorem make_err (y m d : Int) (a : Addr) (w : World) (h : ¬ Cal.Ok y m d) (hc : w.cell? ⟨3, 0, none⟩ = some (.iface 339 (.pointer (some a)))) :
    Calls Tryz.prog 226 #[.int .i64 y, .int .i64 m, .int .i64 d] w fun e w' => e = .returned (.tuple #[.int .i64 0, .iface 339 (.pointer (some a))]) ∧ ∃ n, w' = w.drewN n := by
  by_cases h1 : d < 1
  · go_enter Tryz.func226, Tryz.ntmps226
    go_wp2_with fail
    go_quiet (fail)
    go_wp2
    go_ret2
    exact ⟨rfl, _, rfl⟩
  · have h2 : Cal.mon y m < d := by unfold Cal.Ok at h; omega
    go_enter Tryz.func226, Tryz.ntmps226
    go_wp2_with (go_at_call 235; refine (months_any _ _ _).mono ?_; rintro e w' ⟨rfl, rfl⟩)
    go_quiet (fail)
    go_wp2
    go_ret2
    exact ⟨rfl, _, rfl⟩


set_option maxHeartbeats 400000 in
theorem right_any (n : Int) (w : World) :
    Calls Tryz.prog 82 #[.int .i64 n] w fun e w' => e = .returned (.bool (decide (0 ≤ n ∧ n ≤ 73048))) ∧ w = w' := by
  go_enter Tryz.func82, Tryz.ntmps82
  go_wp2
  all_goals go_ret
  all_goals exact ⟨ret_bool (by rw [Bool.eq_iff_iff]; simp; try omega), rfl⟩

theorem right_yes (n : Int) (w : World) (h : 0 ≤ n ∧ n ≤ 73048) :
    Calls Tryz.prog 82 #[.int .i64 n] w fun e w' => e = .returned (.bool true) ∧ w = w' :=
  (right_any n w).mono fun _ _ ⟨he, hw⟩ => ⟨by rw [he, decide_eq_true h], hw⟩
theorem right_no (n : Int) (w : World) (h : ¬ (0 ≤ n ∧ n ≤ 73048)) :
    Calls Tryz.prog 82 #[.int .i64 n] w fun e w' => e = .returned (.bool false) ∧ w = w' :=
  (right_any n w).mono fun _ _ ⟨he, hw⟩ => ⟨by rw [he, decide_eq_false h], hw⟩

set_option maxHeartbeats 400000 in
theorem date_no (n : Int) (a : Addr) (w : World) (h : ¬ (0 ≤ n ∧ n ≤ 73048)) (hc : w.cell? ⟨3, 0, none⟩ = some (.iface 339 (.pointer (some a)))) :
    Calls Tryz.prog 170 #[.int .i64 n] w fun e w' => e = .returned (.tuple #[.int .i64 0, .int .i64 0, .int .i64 0, .iface 339 (.pointer (some a))]) ∧ ∃ k, w' = w.drewN k := by
  go_enter Tryz.func170, Tryz.ntmps170
  go_wp2_with (go_at_call 82; refine (right_no _ _ h).mono ?_; rintro e w' ⟨rfl, rfl⟩)
  go_quiet (fail)
  go_wp2
  refine bodyPost_ret (v := .tuple #[.int .i64 0, .int .i64 0, .int .i64 0, .iface 339 (.pointer (some a))]) (by simp [results, Tryz.results170, go_sem]) rfl ⟨rfl, _, rfl⟩

/-- the year that the first loop comes to -/
theorem guess (n : Int) (h1 : 0 ≤ n) (h2 : n ≤ 73048) : 2000 ≤ 2000 + n / 366 ∧ 2000 + n / 366 ≤ 2199 ∧ Cal.yrs (2000 + n / 366) ≤ n := by
  refine ⟨by omega, by omega, ?_⟩
  unfold Cal.yrs; split <;> omega

set_option maxHeartbeats 1000000 in
theorem date_yes (n : Int) (w : World) (h1 : 0 ≤ n) (h2 : n ≤ 73048) :
    Calls Tryz.prog 170 #[.int .i64 n] w fun e w' => (∃ y m d : Int, Cal.Ok y m d ∧ Cal.num y m d = n ∧ e = .returned (.tuple #[.int .i64 y, .int .i64 m, .int .i64 d, .nilIface])) ∧ w = w' := by
  obtain ⟨g1, g2, g3⟩ := guess n h1 h2
  go_enter Tryz.func170, Tryz.ntmps170
  go_wp2_with (go_at_call 82; refine (right_yes _ _ ⟨h1, h2⟩).mono ?_; rintro e w' ⟨rfl, rfl⟩)
  go_loop [2] (fun t => ∃ y : Int, 2000 ≤ y ∧ y ≤ 2199 ∧ Cal.yrs y ≤ n ∧ t = .int .i64 y) (fun t => (2199 - intOf t).toNat)
  case atStart => exact ⟨_, g1, g2, g3, rfl⟩
  case round =>
    obtain ⟨y, y1, y2, y3, rfl⟩ := hrel
    have yb := Cal.yrs_bd y1 y2
    clear g1 g2 g3
    by_cases hc : y < 2199 ∧ Cal.yrs (y + 1) ≤ n
    · obtain ⟨hlt, hd⟩ := hc
      have yb1 := Cal.yrs_bd (y := y + 1) (by omega) (by omega)
      go_wp2_with (go_at_call 234; refine (years_any _ _ (by omega) (by omega)).mono ?_; rintro e w' ⟨rfl, rfl⟩)
      go_round
      case rel => exact ⟨y + 1, by omega, by omega, hd, rfl⟩
      case measure => simp [intOf]; omega
    · have hz : n < Cal.yrs y + 337 + Cal.feb y := by
        rw [← Cal.yrs_succ y y1]
        by_cases e : y = 2199
        · subst e; have := Cal.yrs_last; show n < Cal.yrs 2200; omega
        · omega
      have fb := Cal.feb_bd y
      have hn : y < 2199 → ¬ Cal.yrs (y + 1) ≤ n := fun a b => hc ⟨a, b⟩
      clear hc
      by_cases hlt : y < 2199
      all_goals
        first | (have hn' := hn hlt; clear hn) | clear hn
        go_wp2_with (go_at_call 234; refine (years_any _ _ (by omega) (by omega)).mono ?_; rintro e w' ⟨rfl, rfl⟩)
        go_loop [0, 3] (fun r k => ∃ m : Int, 1 ≤ m ∧ m ≤ 12 ∧ k = .int .i64 m ∧ 0 ≤ n - Cal.yrs y - Cal.cum y m ∧ r = .int .i64 (n - Cal.yrs y - Cal.cum y m)) (fun _ k => (12 - intOf k).toNat)
        case atStart => exact ⟨1, by omega, by omega, rfl, by rw [Cal.cum_one]; omega, by rw [Cal.cum_one]; go_num⟩
        case round =>
          obtain ⟨m, m1, m2, rfl, hr, rfl⟩ := hrel
          have cb := Cal.cum_bd y m m1 (by omega)
          have cs := Cal.cum_succ y m m1 m2
          have db := Cal.dim_bd y m
          have mi := Cal.mon_in y1 y2 m1 m2
          have CS := Lib.hid cs
          have MI := Lib.hid mi
          by_cases hd : Cal.mon y m ≤ n - Cal.yrs y - Cal.cum y m
          · have m3 : m < 12 := by
              by_cases e : m = 12
              · subst e; have := Cal.cum_last y; have h13 : Cal.cum y (12 + 1) = Cal.cum y 13 := rfl; omega
              · omega
            have mb := Cal.mon_bd y m
            clear cs mi
            go_wp2_with (go_at_call 235; refine (months_any _ _ _).mono ?_; rintro e w' ⟨rfl, rfl⟩)
            go_round
            case rel => exact ⟨m + 1, by omega, by omega, rfl, by rw [CS.out, ← MI.out]; omega, by rw [CS.out, ← MI.out]; go_num⟩
            case measure => simp [intOf]; omega
          · clear cs mi
            go_wp2_with (go_at_call 235; refine (months_any _ _ _).mono ?_; rintro e w' ⟨rfl, rfl⟩)
            refine bodyPost_ret (v := .tuple #[.int .i64 y, .int .i64 m, .int .i64 (n - Cal.yrs y - Cal.cum y m + 1), .nilIface]) (by simp [results, Tryz.results170, go_sem]) rfl ⟨⟨y, m, _, ⟨by omega, by omega⟩, by unfold Cal.num; omega, rfl⟩, rfl⟩


theorem date_at (n y m d : Int) (w : World) (h : Cal.At n y m d) :
    Calls Tryz.prog 170 #[.int .i64 n] w fun e w' => e = .returned (.tuple #[.int .i64 y, .int .i64 m, .int .i64 d, .nilIface]) ∧ w = w' := by
  obtain ⟨b1, b2⟩ := Cal.at_bd h
  refine (date_yes n w b1 b2).mono ?_
  rintro e w' ⟨⟨y', m', d', ho, hn, rfl⟩, rfl⟩
  obtain ⟨rfl, rfl, rfl⟩ := Cal.at_unique h ⟨ho, hn⟩
  exact ⟨rfl, rfl⟩
end Day
end Go.Proofs.YtkhkhbeolhhomaaGreatDoor
