/- The walk of the law DayDates. -/
import Derived.Test.YtkgmojaecaghmaaDoorRefText
import Derived.Test.YtkgmojaecaghmaaDoorCode
import Derived.Test.YtkgmojaecaghmaaDoorDayMonths
namespace Go.Proofs.YtkgmojaecaghmaaDoor
open Go.RowKit Lmd
namespace Day
open Er Ref

set_option maxHeartbeats 400000 in
theorem coded_nil (w : World) : Calls Tryd.prog 19 #[.nilIface, .int .i64 0] w fun e w' => e = .returned (.bool true) ∧ w = w' := by
  go_enter Tryd.func19, Tryd.ntmps19
  go_wp2_with fail
  refine (code_nil _).mono ?_; rintro e w' ⟨rfl, rfl⟩
  go_wp2
  go_ret
  exact ⟨rfl, rfl⟩

set_option maxHeartbeats 400000 in
theorem coded_sent (e : Nat → Addr) (k : Nat) (hk : k < 11) (c : Int) (hc : c = (k : Int) + 1) (w : World) (he : Errs w e) :
    Calls Tryd.prog 19 #[ev (e k), .int .i64 c] w fun e' w' => e' = .returned (.bool true) ∧ Below w.heap.size w w' := by
  subst hc
  have H := Lib.hid (code_sent e k hk w he)
  clear he
  go_enter Tryd.func19, Tryd.ntmps19
  go_wp2_with fail
  refine H.out.mono ?_; rintro e' w' ⟨rfl, hb⟩
  go_wp2
  go_ret
  exact ⟨ret_bool (by simp), hb⟩

theorem below2 {w a b : World} (h : Below w.heap.size w a) (k : Below a.heap.size a b) : Below w.heap.size w b := h.trans (k.mono h.size)

/-- what day.Make and the reference's MakeDay answer -/
theorem make_both (e : Nat → Addr) (y m d : Int) : ∃ (v : Value) (x c : Int), (v = .nilIface ∧ c = 0 ∨ v = ev (e 1) ∧ c = 2) ∧
    (∀ w, Errs w e → Calls Tryd.prog 26 #[.int .i64 y, .int .i64 m, .int .i64 d] w fun e' w' => e' = .returned (.tuple #[.int .i64 x, v]) ∧ Below w.heap.size w w') ∧
    (∀ w, Calls Tryd.prog 36 #[.int .i64 y, .int .i64 m, .int .i64 d] w fun e' w' => e' = .returned (.tuple #[.int .i64 x, .int .i64 c]) ∧ w = w') ∧
    (∀ w, Errs w e → Calls Tryd.prog 19 #[v, .int .i64 c] w fun e' w' => e' = .returned (.bool true) ∧ Below w.heap.size w w') := by
  by_cases h : Cal.Ok y m d
  · refine ⟨.nilIface, Cal.num y m d, 0, Or.inl ⟨rfl, rfl⟩, fun w _ => (make_ok y m d w h).mono ?_, fun w => makeDay_ok y m d w h, fun w _ => (coded_nil w).mono ?_⟩
    · rintro e' w' ⟨rfl, rfl⟩; exact ⟨rfl, Below.refl _ _⟩
    · rintro e' w' ⟨rfl, rfl⟩; exact ⟨rfl, Below.refl _ _⟩
  · refine ⟨ev (e 1), 0, 2, Or.inr ⟨rfl, rfl⟩, fun w hw => (make_err y m d (e 1) w h hw.s1.cell).mono ?_, fun w => makeDay_err y m d w h, fun w hw => coded_sent e 1 (by omega) 2 rfl w hw⟩
    rintro e' w' ⟨rfl, k, rfl⟩; exact ⟨rfl, below_draw (Below.refl _ _) k⟩

theorem text_both (e : Nat → Addr) (n : Int) : ∃ s : List UInt8, (∀ w, Errs w e → Lib.TabIs Tryd.prog w "internal/strconv.uint64pow10" .u64 Lib.pow10Tab → Calls Tryd.prog 28 #[.int .i64 n] w fun e' w' => e' = .returned (.string ⟨s.toArray⟩) ∧ Below w.heap.size w w') ∧
    (∀ w, Calls Tryd.prog 38 #[.int .i64 n] w fun e' w' => e' = .returned (.string ⟨s.toArray⟩) ∧ Below w.heap.size w w') := by
  by_cases h : 0 ≤ n ∧ n ≤ 73048
  · obtain ⟨y, m, d, ha⟩ := Cal.at_exists n h.1 h.2
    exact ⟨_, fun w _ ht => text_at n y m d w ha ht, fun w => dayText_at n y m d w ha⟩
  · refine ⟨[], fun w hw _ => (text_no n (e 1) w h hw.s1.cell).mono ?_, fun w => (dayText_no n w h).mono ?_⟩
    · rintro e' w' ⟨rfl, k, rfl⟩; exact ⟨rfl, below_draw (Below.refl _ _) k⟩
    · rintro e' w' ⟨rfl, rfl⟩; exact ⟨rfl, Below.refl _ _⟩

set_option maxRecDepth 100000 in
set_option maxHeartbeats 2000000 in
theorem dayDates_any (y m d n : Int) (e : Nat → Addr) (w : World) (htab : Lib.TabIs Tryd.prog w "internal/strconv.uint64pow10" .u64 Lib.pow10Tab) (he : Errs w e) :
    Calls Tryd.prog 9 #[.int .i64 y, .int .i64 m, .int .i64 d, .int .i64 n] w fun e' w' => e' = .returned (.bool true) ∧ Below w.heap.size w w' := by
  obtain ⟨v, x, c, hv, H1, H2, H3⟩ := make_both e y m d
  obtain ⟨s, T1, T2⟩ := text_both e n
  have H1 := Lib.hid H1
  have H2 := Lib.hid H2
  have H3 := Lib.hid H3
  have T1 := Lib.hid T1
  have T2 := Lib.hid T2
  clear hv
  by_cases hn : 0 ≤ n ∧ n ≤ 73048
  all_goals
    go_enter Tryd.func9, Tryd.ntmps9
    go_wp2_with fail
    refine (dated_any _ htab).mono ?_; rintro e' w1 ⟨rfl, hb⟩
    have he1 := he.below hb
    have ht1 := Frame.tab_below (n := "internal/strconv.uint64pow10") (g := 12) (by kernel_rfl) hb htab
    clear he htab
    go_wp2_with fail
    refine (H1.out _ he1).mono ?_; rintro e' w2 ⟨rfl, hb1⟩
    have he2 := he1.below hb1
    have ht2 := Frame.tab_below (n := "internal/strconv.uint64pow10") (g := 12) (by kernel_rfl) hb1 ht1
    have hb2 := below2 hb hb1
    clear he1 ht1 hb hb1
    go_wp2_with fail
    refine (H2.out _).mono ?_; rintro e' w3 ⟨rfl, rfl⟩
    go_wp2_with fail
    refine (H3.out _ he2).mono ?_; rintro e' w3 ⟨rfl, hb1⟩
    have he3 := he2.below hb1
    have ht3 := Frame.tab_below (n := "internal/strconv.uint64pow10") (g := 12) (by kernel_rfl) hb1 ht2
    have hb3 := below2 hb2 hb1
    clear he2 ht2 hb2 hb1
    go_wp2_with (first | (go_at_call 27; refine (months_any _ _ _).mono ?_; rintro e w' ⟨rfl, rfl⟩) | (go_at_call 37; refine (monthOf_any _ _ _).mono ?_; rintro e w' ⟨rfl, rfl⟩))
    refine (T1.out _ he3 ht3).mono ?_; rintro e' w4 ⟨rfl, hb1⟩
    have he4 := he3.below hb1
    have hb4 := below2 hb3 hb1
    clear he3 ht3 hb3 hb1
    go_wp2_with fail
    refine (T2.out _).mono ?_; rintro e' w5 ⟨rfl, hb1⟩
    have he5 := he4.below hb1
    have hb5 := below2 hb4 hb1
    clear he4 hb4 hb1
    go_wp2_with fail
  · obtain ⟨y', m', d', ha⟩ := Cal.at_exists n hn.1 hn.2
    refine (date_at n y' m' d' _ ha).mono ?_; rintro e' w6 ⟨rfl, rfl⟩
    go_wp2_with fail
    refine (week_yes n _ hn.1 hn.2).mono ?_; rintro e' w6 ⟨rfl, rfl⟩
    go_wp2_with fail
    refine (isDay_yes n _ hn).mono ?_; rintro e' w6 ⟨rfl, rfl⟩
    go_wp2_with fail
    refine (dateOf_at n y' m' d' _ ha).mono ?_; rintro e' w6 ⟨rfl, rfl⟩
    go_wp2
    go_ret
    exact ⟨rfl, hb5⟩
  · have hc := he5.s1.cell
    refine (date_no n (e 1) _ hn hc).mono ?_; rintro e' w6 ⟨rfl, k, rfl⟩
    go_wp2_with fail
    refine (week_no n (e 1) _ hn (by exact hc)).mono ?_; rintro e' w6 ⟨rfl, k2, rfl⟩
    go_wp2_with fail
    refine (isDay_no n _ hn).mono ?_; rintro e' w6 ⟨rfl, rfl⟩
    clear hc
    go_wp2_with fail
    refine (coded_sent e 1 (by omega) 2 rfl _ (by exact he5.draw _)).mono ?_; rintro e' w6 ⟨rfl, hb1⟩
    have he6 := (he5.draw _).below hb1
    have hb6 := below2 (below_draw hb5 _) hb1
    clear he5 hb5 hb1
    go_wp2_with fail
    refine (coded_sent e 1 (by omega) 2 rfl _ he6).mono ?_; rintro e' w7 ⟨rfl, hb1⟩
    go_wp2
    go_ret
    exact ⟨rfl, below2 hb6 hb1⟩
end Day
end Go.Proofs.YtkgmojaecaghmaaDoor
