/- The walk of the law DayMonths. -/
import Derived.Test.YtkgmojaecaghmaaDoorDayText
import Derived.Test.YtkgmojaecaghmaaDoorFrame
namespace Go.Proofs.YtkgmojaecaghmaaDoor
open Go.RowKit Lmd
namespace Day

theorem at59 : Cal.At 59 2000 2 29 := by unfold Cal.At Cal.Ok; decide

set_option maxHeartbeats 400000 in
theorem dated_any (w : World) (htab : Lib.TabIs Tryd.prog w "internal/strconv.uint64pow10" .u64 Lib.pow10Tab) :
    Calls Tryd.prog 23 #[] w fun e w' => e = .returned (.bool true) ∧ Below w.heap.size w w' := by
  have hn : Cal.num 2000 2 29 = 59 := by decide
  have hm := make_ok 2000 2 29 w at59.1
  rw [hn] at hm
  have ht := text_at 59 2000 2 29 w at59 htab
  rw [show Cal.text 2000 2 29 = [50, 48, 48, 48, 45, 48, 50, 45, 50, 57] from by decide] at ht
  have HM := Lib.hid hm
  have HT := Lib.hid ht
  clear hm ht hn
  go_enter Tryd.func23, Tryd.ntmps23
  go_wp2_with fail
  refine HM.out.mono ?_; rintro e w' ⟨rfl, rfl⟩
  go_wp2_with fail
  refine HT.out.mono ?_; rintro e w' ⟨rfl, hb⟩
  go_wp2
  go_ret
  exact ⟨rfl, hb⟩

theorem below_draw {B : Nat} {a w : World} (h : Below B a w) (k : Nat) : Below B a (w.drewN k) := below_drewN h k

set_option maxHeartbeats 1000000 in
theorem months_wide (n a b : Int) (w : World) (htab : Lib.TabIs Tryd.prog w "internal/strconv.uint64pow10" .u64 Lib.pow10Tab)
    (h : a < -2400 ∨ (-2400 ≤ a ∧ 2400 < a) ∨ (-2400 ≤ a ∧ a ≤ 2400 ∧ b < -2400) ∨ (-2400 ≤ a ∧ a ≤ 2400 ∧ -2400 ≤ b ∧ 2400 < b)) :
    Calls Tryd.prog 6 #[.int .i64 n, .int .i64 a, .int .i64 b] w fun e w' => e = .returned (.bool true) ∧ Below w.heap.size w w' := by
  rcases h with h1 | ⟨h1, h2⟩ | ⟨h1, h2, h3⟩ | ⟨h1, h2, h3, h4⟩
  all_goals
    go_enter Tryd.func6, Tryd.ntmps6
    go_wp2_with fail
    refine (dated_any _ htab).mono ?_; rintro e w' ⟨rfl, hb⟩
    go_wp2_with fail
    go_ret
    exact ⟨rfl, hb⟩

set_option maxHeartbeats 1000000 in
theorem months_off (n a b : Int) (ad : Addr) (w : World) (htab : Lib.TabIs Tryd.prog w "internal/strconv.uint64pow10" .u64 Lib.pow10Tab)
    (hc : w.cell? ⟨1, 0, none⟩ = some (.iface 80 (.pointer (some ad))))
    (h1 : -2400 ≤ a) (h2 : a ≤ 2400) (h3 : -2400 ≤ b) (h4 : b ≤ 2400) (hn : ¬ (0 ≤ n ∧ n ≤ 73048)) :
    Calls Tryd.prog 6 #[.int .i64 n, .int .i64 a, .int .i64 b] w fun e w' => e = .returned (.bool true) ∧ Below w.heap.size w w' := by
  go_enter Tryd.func6, Tryd.ntmps6
  go_wp2_with fail
  refine (dated_any _ htab).mono ?_; rintro e w' ⟨rfl, hb⟩
  have hc1 := cell_later hb hc
  go_wp2_with fail
  refine (add_off n a ad _ (Or.inl hn) (by exact hc1)).mono ?_; rintro e w2 ⟨rfl, k, rfl⟩
  go_wp2_with fail
  go_ret
  exact ⟨rfl, below_draw hb _⟩

set_option maxHeartbeats 1000000 in
theorem months_none (n a b y m d : Int) (ad : Addr) (w : World) (htab : Lib.TabIs Tryd.prog w "internal/strconv.uint64pow10" .u64 Lib.pow10Tab)
    (hc : w.cell? ⟨1, 0, none⟩ = some (.iface 80 (.pointer (some ad))))
    (h1 : -2400 ≤ a) (h2 : a ≤ 2400) (h3 : -2400 ≤ b) (h4 : b ≤ 2400) (hn : Cal.At n y m d) (hk : Cal.addB (Cal.kth y m a) d = false) :
    Calls Tryd.prog 6 #[.int .i64 n, .int .i64 a, .int .i64 b] w fun e w' => e = .returned (.bool true) ∧ Below w.heap.size w w' := by
  have HK := Lib.hid hk
  clear hk
  go_enter Tryd.func6, Tryd.ntmps6
  go_wp2_with fail
  refine (dated_any _ htab).mono ?_; rintro e w' ⟨rfl, hb⟩
  have hc1 := cell_later hb hc
  go_wp2_with fail
  refine (add_none n y m d a ad _ hn (by omega) (by omega) HK.out (by exact hc1)).mono ?_; rintro e w2 ⟨rfl, k, rfl⟩
  go_wp2_with fail
  go_ret
  exact ⟨rfl, below_draw hb _⟩

set_option maxHeartbeats 2000000 in
theorem months_some (n a b y m d : Int) (ad : Addr) (w : World) (htab : Lib.TabIs Tryd.prog w "internal/strconv.uint64pow10" .u64 Lib.pow10Tab)
    (hc : w.cell? ⟨1, 0, none⟩ = some (.iface 80 (.pointer (some ad))))
    (h1 : -2400 ≤ a) (h2 : a ≤ 2400) (h3 : -2400 ≤ b) (h4 : b ≤ 2400) (hn : Cal.At n y m d) (hk : Cal.addB (Cal.kth y m a) d = true) :
    Calls Tryd.prog 6 #[.int .i64 n, .int .i64 a, .int .i64 b] w fun e w' => e = .returned (.bool true) ∧ Below w.heap.size w w' := by
  have HK := Lib.hid hk
  have hx := Cal.addV_at hk
  have hxb := Cal.addV_bd (Cal.kth y m a) d
  have H2 := Lib.hid (Cal.kth_two (y := y) (m := m) (a := a) b)
  obtain ⟨p1, p2, p3, p4, p5, p6⟩ := Cal.month_span hn
  have P4 := Lib.hid p4
  have mb := Cal.mon_bd y m
  have hs : (Cal.num y m (Cal.mon y m) - Cal.num y m 1 + 1 == Cal.mon y m) = true := by rw [p4]; exact beq_self_eq_true _
  have nb1 := Cal.num_bd p1
  have nb2 := Cal.num_bd p2
  clear hk p4
  cases hc2 : Cal.addB (Cal.kth y m (a + b)) d
  all_goals
    have HC := Lib.hid hc2
    clear hc2
    go_enter Tryd.func6, Tryd.ntmps6
    go_wp2_with fail
    refine (dated_any _ htab).mono ?_; rintro e w' ⟨rfl, hb⟩
    have hc1 := cell_later hb hc
    go_wp2_with fail
    refine (add_any n y m d a ad _ hn (by omega) (by omega) (by exact hc1)).mono ?_; rintro e w2 ⟨rfl, k, rfl⟩
    rw [HK.out]
    go_wp2_with fail
    refine (add_any _ _ _ _ b ad _ hx (by omega) (by omega) (by exact hc1)).mono ?_; rintro e w2 ⟨rfl, k2, rfl⟩
    rw [H2.out, HC.out]
    go_wp2_with fail
    refine (add_any n y m d (a + b) ad _ hn (by omega) (by omega) (by exact hc1)).mono ?_; rintro e w2 ⟨rfl, k3, rfl⟩
    rw [HC.out]
    go_wp2_with fail
    refine (date_at n y m d _ hn).mono ?_; rintro e w2 ⟨rfl, rfl⟩
    go_wp2_with fail
    refine (make_ok y m 1 _ p1).mono ?_; rintro e w2 ⟨rfl, rfl⟩
    go_wp2_with (go_at_call 27; refine (months_any _ _ _).mono ?_; rintro e w2 ⟨rfl, rfl⟩)
    refine (make_ok y m (Cal.mon y m) _ p2).mono ?_; rintro e w2 ⟨rfl, rfl⟩
    go_wp2_with (go_at_call 27; refine (months_any _ _ _).mono ?_; rintro e w2 ⟨rfl, rfl⟩)
    refine (make_err y m (Cal.mon y m + 1) ad _ p3 (by exact hc1)).mono ?_; rintro e w2 ⟨rfl, k4, rfl⟩
    go_wp2_with (go_at_call 27; refine (months_any _ _ _).mono ?_; rintro e w2 ⟨rfl, rfl⟩)
    go_ret
    exact ⟨rfl, below_draw hb _⟩

theorem dayMonths_any (n a b : Int) (ad : Addr) (w : World) (htab : Lib.TabIs Tryd.prog w "internal/strconv.uint64pow10" .u64 Lib.pow10Tab)
    (hc : w.cell? ⟨1, 0, none⟩ = some (.iface 80 (.pointer (some ad)))) :
    Calls Tryd.prog 6 #[.int .i64 n, .int .i64 a, .int .i64 b] w fun e w' => e = .returned (.bool true) ∧ Below w.heap.size w w' := by
  by_cases h : a < -2400 ∨ (-2400 ≤ a ∧ 2400 < a) ∨ (-2400 ≤ a ∧ a ≤ 2400 ∧ b < -2400) ∨ (-2400 ≤ a ∧ a ≤ 2400 ∧ -2400 ≤ b ∧ 2400 < b)
  · exact months_wide n a b w htab h
  · by_cases hn : 0 ≤ n ∧ n ≤ 73048
    · obtain ⟨y, m, d, ha⟩ := Cal.at_exists n hn.1 hn.2
      cases hk : Cal.addB (Cal.kth y m a) d with
      | true => exact months_some n a b y m d ad w htab hc (by omega) (by omega) (by omega) (by omega) ha hk
      | false => exact months_none n a b y m d ad w htab hc (by omega) (by omega) (by omega) (by omega) ha hk
    · exact months_off n a b ad w htab hc (by omega) (by omega) (by omega) (by omega) hn
end Day
end Go.Proofs.YtkgmojaecaghmaaDoor
