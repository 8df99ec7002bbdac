/- Weekdays; months more. -/
import Derived.Test.YtkhkhbeolhhomaaGreatDoorDay
namespace Go.Proofs.YtkhkhbeolhhomaaGreatDoor
open Go.RowKit Lmd
namespace Day
set_option maxHeartbeats 400000 in
theorem week_yes (n : Int) (w : World) (h1 : 0 ≤ n) (h2 : n ≤ 73048) :
    Calls Tryz.prog 259 #[.int .i64 n] w fun e w' => e = .returned (.tuple #[.int .i64 ((n + 5) % 7), .nilIface]) ∧ w = w' := by
  go_enter Tryz.func259, Tryz.ntmps259
  go_wp2_with (go_at_call 82; refine (right_yes _ _ ⟨h1, h2⟩).mono ?_; rintro e w' ⟨rfl, rfl⟩)
  go_ret2
  exact ⟨rfl, rfl⟩
set_option maxHeartbeats 400000 in
theorem week_no (n : Int) (a : Addr) (w : World) (h : ¬ (0 ≤ n ∧ n ≤ 73048)) (hc : w.cell? ⟨3, 0, none⟩ = some (.iface 339 (.pointer (some a)))) :
    Calls Tryz.prog 259 #[.int .i64 n] w fun e w' => e = .returned (.tuple #[.int .i64 0, .iface 339 (.pointer (some a))]) ∧ ∃ k, w' = w.drewN k := by
  go_enter Tryz.func259, Tryz.ntmps259
  go_wp2_with (go_at_call 82; refine (right_no _ _ h).mono ?_; rintro e w' ⟨rfl, rfl⟩)
  go_quiet (fail)
  go_wp2
  go_ret2
  exact ⟨rfl, _, rfl⟩


set_option maxHeartbeats 1000000 in
theorem add_yes (n y m d mo : Int) (w : World) (h : Cal.At n y m d) (m1 : -100000 ≤ mo) (m2 : mo ≤ 100000) (k0 : 0 ≤ Cal.kth y m mo) (ho : Cal.Ok (2000 + Cal.kth y m mo / 12) (Cal.kth y m mo % 12 + 1) d) :
    Calls Tryz.prog 204 #[.int .i64 n, .int .i64 mo] w fun e w' => e = .returned (.tuple #[.int .i64 (Cal.num (2000 + Cal.kth y m mo / 12) (Cal.kth y m mo % 12 + 1) d), .bool true]) ∧ ∃ k, w' = w.drewN k := by
  obtain ⟨a1, a2, a3, a4, a5, a6⟩ := Cal.ok_range h.1
  have k1 : ¬ 12 * (y - 2000) + m - 1 + mo < 0 := by unfold Cal.kth at k0; omega
  have e1 : Cal.kth y m mo = 12 * (y - 2000) + m - 1 + mo := rfl
  rw [e1] at ho ⊢
  clear e1 k0
  go_enter Tryz.func204, Tryz.ntmps204
  go_wp2_with (first | (go_at_call 170; refine (date_at _ _ _ _ _ h).mono ?_; rintro e w' ⟨rfl, rfl⟩) | (go_at_call 226; refine (make_ok _ _ _ _ ho).mono ?_; rintro e w' ⟨rfl, rfl⟩))
  go_quiet (fail)
  go_wp2
  go_ret2
  exact ⟨rfl, _, rfl⟩


set_option maxHeartbeats 1000000 in
theorem add_none (n y m d mo : Int) (ad : Addr) (w : World) (h : Cal.At n y m d) (m1 : -100000 ≤ mo) (m2 : mo ≤ 100000) (hk : Cal.addB (Cal.kth y m mo) d = false)
    (hc : w.cell? ⟨3, 0, none⟩ = some (.iface 339 (.pointer (some ad)))) :
    Calls Tryz.prog 204 #[.int .i64 n, .int .i64 mo] w fun e w' => e = .returned (.tuple #[.int .i64 0, .bool false]) ∧ ∃ k, w' = w.drewN k := by
  obtain ⟨a1, a2, a3, a4, a5, a6⟩ := Cal.ok_range h.1
  have e1 : Cal.kth y m mo = 12 * (y - 2000) + m - 1 + mo := rfl
  rcases Cal.addB_no hk with hk | ⟨hk, ho⟩
  · rw [e1] at hk
    clear e1
    go_enter Tryz.func204, Tryz.ntmps204
    go_wp2_with (go_at_call 170; refine (date_at _ _ _ _ _ h).mono ?_; rintro e w' ⟨rfl, rfl⟩)
    go_ret2
    exact ⟨rfl, 0, rfl⟩
  · rw [e1] at hk ho
    have k1 : ¬ 12 * (y - 2000) + m - 1 + mo < 0 := by omega
    clear e1 hk
    go_enter Tryz.func204, Tryz.ntmps204
    go_wp2_with (first | (go_at_call 170; refine (date_at _ _ _ _ _ h).mono ?_; rintro e w' ⟨rfl, rfl⟩) | (go_at_call 226; refine (make_err _ _ _ ad _ ho hc).mono ?_; rintro e w' ⟨rfl, k, rfl⟩))
    go_quiet (fail)
    go_wp2
    go_ret2
    exact ⟨rfl, _, drewN_add _ _ _⟩

set_option maxHeartbeats 1000000 in
theorem add_off (n mo : Int) (ad : Addr) (w : World) (h : ¬ (0 ≤ n ∧ n ≤ 73048) ∨ (0 ≤ n ∧ n ≤ 73048 ∧ (mo < -100000 ∨ 100000 < mo)))
    (hc : w.cell? ⟨3, 0, none⟩ = some (.iface 339 (.pointer (some ad)))) :
    Calls Tryz.prog 204 #[.int .i64 n, .int .i64 mo] w fun e w' => e = .returned (.tuple #[.int .i64 0, .bool false]) ∧ ∃ k, w' = w.drewN k := by
  rcases h with h | ⟨h1, h2, h⟩
  · go_enter Tryz.func204, Tryz.ntmps204
    go_wp2_with (go_at_call 170; refine (date_no _ ad _ h hc).mono ?_; rintro e w' ⟨rfl, k, rfl⟩)
    go_ret2
    exact ⟨rfl, _, rfl⟩
  · obtain ⟨y, m, d, ha⟩ := Cal.at_exists n h1 h2
    rcases h with h | h
    all_goals
      go_enter Tryz.func204, Tryz.ntmps204
      go_wp2_with (go_at_call 170; refine (date_at _ _ _ _ _ ha).mono ?_; rintro e w' ⟨rfl, rfl⟩)
      go_ret2
      exact ⟨rfl, 0, rfl⟩

/-- months more, at a day: whatever they lead to -/
theorem add_any (n y m d mo : Int) (ad : Addr) (w : World) (h : Cal.At n y m d) (m1 : -100000 ≤ mo) (m2 : mo ≤ 100000)
    (hc : w.cell? ⟨3, 0, none⟩ = some (.iface 339 (.pointer (some ad)))) :
    Calls Tryz.prog 204 #[.int .i64 n, .int .i64 mo] w fun e w' => e = .returned (.tuple #[.int .i64 (Cal.addV (Cal.kth y m mo) d), .bool (Cal.addB (Cal.kth y m mo) d)]) ∧ ∃ k, w' = w.drewN k := by
  cases hk : Cal.addB (Cal.kth y m mo) d with
  | true =>
    have := Cal.addB_yes hk
    rw [Cal.addV_yes hk]
    exact add_yes n y m d mo w h m1 m2 this.1 this.2
  | false =>
    rw [Cal.addV_no hk]
    exact add_none n y m d mo ad w h m1 m2 hk hc
end Day
end Go.Proofs.YtkhkhbeolhhomaaGreatDoor
