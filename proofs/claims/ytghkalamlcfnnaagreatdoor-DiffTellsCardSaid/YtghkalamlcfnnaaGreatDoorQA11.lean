/- RefDay, RefInB: texts joined. -/
import Derived.Test.YtghkalamlcfnnaaGreatDoorQA5
import Derived.Test.YtghkalamlcfnnaaGreatDoorQEvLists
import Derived.Test.YtghkalamlcfnnaaGreatDoorQA3
import Derived.Test.YtghkalamlcfnnaaGreatDoorQA1
import Derived.Test.YtghkalamlcfnnaaGreatDoorQRuleText
section
namespace Go.Proofs.YtghkalamlcfnnaaGreatDoor
open Go Go.RowKit Go.Shelf Lmd
namespace Evt
open Rul Day Cand Er
theorem badE_zero {e : Ev} (h : badE e = 0) : nameB e.id = true ∧ titleB e.ti = true ∧ (0 ≤ e.st ∧ e.st ≤ 73048) ∧ (1 ≤ e.lg ∧ e.lg ≤ 60) ∧ bad e.ru = 0 ∧ badL e = 0 := by
  by_cases h1 : nameB e.id = true
  case neg => rw [badE_name (by simpa using h1)] at h; cases h
  by_cases h2 : titleB e.ti = true
  case neg => rw [badE_text h1 (by simpa using h2)] at h; cases h
  by_cases h3 : (rightB e.st && inB e.lg 1 60) = true
  case neg => rw [badE_bound h1 h2 (by simpa using h3)] at h; cases h
  by_cases h4 : bad e.ru = 0
  case neg => rw [badE_rule h1 h2 h3 h4] at h; exact absurd h h4
  rw [badE_lists h1 h2 h3 h4] at h
  have h5 : (rightB e.st = true) ∧ inB e.lg 1 60 = true := by simpa using h3
  exact ⟨h1, h2, of_decide_eq_true h5.1, of_decide_eq_true h5.2, h4, h⟩
theorem badL_zero {e : Ev} (h : badL e = 0) : e.sk.length ≤ 20 ∧ e.mv.length ≤ 20 ∧ riseB e.sk = true ∧ riseB (froms e.mv) = true ∧ e.sk.all rightB = true ∧ (e.mv.all fun m => rightB m.1 && rightB m.2) = true ∧ (froms e.mv).any (e.sk.contains ·) = false := by
  by_cases h1 : 20 < e.sk.length ∨ 20 < e.mv.length
  · rw [badL_full h1] at h; cases h
  by_cases h2 : (riseB e.sk && riseB (froms e.mv)) = true
  case neg => rw [badL_order h1 (by simpa using h2)] at h; cases h
  by_cases h3 : (e.sk.all rightB && e.mv.all fun m => rightB m.1 && rightB m.2) = true
  case neg => rw [badL_bound h1 h2 (by simpa using h3)] at h; cases h
  by_cases h4 : (froms e.mv).any (e.sk.contains ·) = true
  · rw [badL_exist h1 h2 h3 h4] at h; cases h
  rw [Bool.and_eq_true] at h2 h3
  exact ⟨by omega, by omega, h2.1, h2.2, h3.1, h3.2, by simpa using h4⟩
end Evt
end Go.Proofs.YtghkalamlcfnnaaGreatDoor
end
section
namespace Go.Proofs.YtghkalamlcfnnaaGreatDoor
open Go.RowKit Lmd
namespace Ref
open Day
set_option maxHeartbeats 400000 in
theorem in_any (n a b : Int) (w : World) :
    Calls Tryz.prog 119 #[.int .i64 n, .int .i64 a, .int .i64 b] w fun e w' => e = .returned (.bool (decide (a ≤ n ∧ n ≤ b))) ∧ w = w' := by
  go_enter Tryz.func119, Tryz.ntmps119
  go_wp2
  all_goals go_ret
  all_goals exact ⟨ret_bool (by rw [Bool.eq_iff_iff]; simp; try omega), rfl⟩
theorem in_yes (n a b : Int) (w : World) (h : a ≤ n ∧ n ≤ b) :
    Calls Tryz.prog 119 #[.int .i64 n, .int .i64 a, .int .i64 b] w fun e w' => e = .returned (.bool true) ∧ w = w' :=
  (in_any n a b w).mono fun _ _ ⟨he, hw⟩ => ⟨by rw [he, decide_eq_true h], hw⟩
theorem in_no (n a b : Int) (w : World) (h : ¬ (a ≤ n ∧ n ≤ b)) :
    Calls Tryz.prog 119 #[.int .i64 n, .int .i64 a, .int .i64 b] w fun e w' => e = .returned (.bool false) ∧ w = w' :=
  (in_any n a b w).mono fun _ _ ⟨he, hw⟩ => ⟨by rw [he, decide_eq_false h], hw⟩
set_option maxHeartbeats 400000 in
theorem isDay_any (n : Int) (w : World) :
    Calls Tryz.prog 118 #[.int .i64 n] w fun e w' => e = .returned (.bool (decide (0 ≤ n ∧ n ≤ 73048))) ∧ w = w' := by
  go_enter Tryz.func118, Tryz.ntmps118
  go_wp2_with (go_at_call 119; refine (in_any _ _ _ _).mono ?_; rintro e w' ⟨rfl, rfl⟩)
  go_ret
  exact ⟨ret_bool (by rw [Bool.eq_iff_iff]; simp), rfl⟩
theorem isDay_yes (n : Int) (w : World) (h : 0 ≤ n ∧ n ≤ 73048) :
    Calls Tryz.prog 118 #[.int .i64 n] w fun e w' => e = .returned (.bool true) ∧ w = w' :=
  (isDay_any n w).mono fun _ _ ⟨he, hw⟩ => ⟨by rw [he, decide_eq_true h], hw⟩
theorem isDay_no (n : Int) (w : World) (h : ¬ (0 ≤ n ∧ n ≤ 73048)) :
    Calls Tryz.prog 118 #[.int .i64 n] w fun e w' => e = .returned (.bool false) ∧ w = w' :=
  (isDay_any n w).mono fun _ _ ⟨he, hw⟩ => ⟨by rw [he, decide_eq_false h], hw⟩
theorem dim_two (y r : Int) (h : (r = 29 ∧ (y % 400 = 0 ∨ (y % 4 = 0 ∧ ¬ y % 100 = 0))) ∨ (r = 28 ∧ ¬ (y % 400 = 0 ∨ (y % 4 = 0 ∧ ¬ y % 100 = 0)))) : r = Cal.dim y 2 := by
  have hl : (Cal.lp y = true ∧ (y % 4 = 0 ∧ (y % 100 ≠ 0 ∨ y % 400 = 0))) ∨ (Cal.lp y = false ∧ ¬ (y % 4 = 0 ∧ (y % 100 ≠ 0 ∨ y % 400 = 0))) := by
    unfold Cal.lp
    by_cases h : y % 4 = 0 ∧ (y % 100 ≠ 0 ∨ y % 400 = 0)
    · exact Or.inl ⟨decide_eq_true h, h⟩
    · exact Or.inr ⟨decide_eq_false h, h⟩
  unfold Cal.dim Cal.feb
  rcases hl with ⟨h1, h2⟩ | ⟨h1, h2⟩ <;> rw [h1] <;> simp only [if_true, Bool.false_eq_true, if_false] <;> omega
set_option maxHeartbeats 2000000 in
theorem monthOf_in (y m : Int) (w : World) (hy : 2000 ≤ y ∧ y ≤ 2199) (hm : 1 ≤ m ∧ m ≤ 12) :
    Calls Tryz.prog 200 #[.int .i64 y, .int .i64 m] w fun e w' => e = .returned (.int .i64 (Cal.dim y m)) ∧ w = w' := by
  have hy' := hy
  obtain ⟨y1, y2⟩ := hy'
  have hc : m = 2 ∨ m = 1 ∨ m = 3 ∨ m = 4 ∨ m = 5 ∨ m = 6 ∨ m = 7 ∨ m = 8 ∨ m = 9 ∨ m = 10 ∨ m = 11 ∨ m = 12 := by omega
  rcases hc with rfl | hc
  · go_enter Tryz.func200, Tryz.ntmps200
    go_wp2_with fail
    refine (in_yes _ _ _ _ hy).mono ?_; rintro e w' ⟨rfl, rfl⟩
    go_wp2_with fail
    refine (in_yes _ _ _ _ hm).mono ?_; rintro e w' ⟨rfl, rfl⟩
    go_wp2
    all_goals go_ret
    all_goals exact ⟨ret_int (dim_two _ _ (by first | omega | (simp_all; done) | (simp_all; omega))), rfl⟩
  · rcases hc with rfl | rfl | rfl | rfl | rfl | rfl | rfl | rfl | rfl | rfl | rfl
    all_goals
      go_enter Tryz.func200, Tryz.ntmps200
      go_wp2_with fail
      refine (in_yes _ _ _ _ hy).mono ?_; rintro e w' ⟨rfl, rfl⟩
      go_wp2_with fail
      refine (in_yes _ _ _ _ hm).mono ?_; rintro e w' ⟨rfl, rfl⟩
      go_wp2
      go_ret
      exact ⟨rfl, rfl⟩
set_option maxHeartbeats 1000000 in
theorem monthOf_any (y m : Int) (w : World) :
    Calls Tryz.prog 200 #[.int .i64 y, .int .i64 m] w fun e w' => e = .returned (.int .i64 (Cal.mon y m)) ∧ w = w' := by
  by_cases hy : 2000 ≤ y ∧ y ≤ 2199
  · by_cases hm : 1 ≤ m ∧ m ≤ 12
    · rw [Cal.mon_in hy.1 hy.2 hm.1 hm.2]
      exact monthOf_in y m w hy hm
    · rw [Cal.mon_out (by omega)]
      go_enter Tryz.func200, Tryz.ntmps200
      go_wp2_with fail
      refine (in_yes _ _ _ _ hy).mono ?_; rintro e w' ⟨rfl, rfl⟩
      go_wp2_with fail
      refine (in_no _ _ _ _ hm).mono ?_; rintro e w' ⟨rfl, rfl⟩
      go_wp2
      go_ret
      exact ⟨rfl, rfl⟩
  · rw [Cal.mon_out (by omega)]
    go_enter Tryz.func200, Tryz.ntmps200
    go_wp2_with fail
    refine (in_no _ _ _ _ hy).mono ?_; rintro e w' ⟨rfl, rfl⟩
    go_wp2_with fail
    refine (in_any _ _ _ _).mono ?_; rintro e w' ⟨rfl, rfl⟩
    go_wp2
    go_ret
    exact ⟨rfl, rfl⟩
theorem feb_is (y : Int) (h1 : 2000 ≤ y) (h2 : y ≤ 2199) : Cal.mon y 2 = Cal.feb y := by rw [Cal.mon_in h1 h2 (by omega) (by omega)]; simp [Cal.dim]
set_option maxHeartbeats 1000000 in
theorem makeDay_ok (y m d : Int) (w : World) (h : Cal.Ok y m d) :
    Calls Tryz.prog 194 #[.int .i64 y, .int .i64 m, .int .i64 d] w fun e w' => e = .returned (.tuple #[.int .i64 (Cal.num y m d), .int .i64 0]) ∧ w = w' := by
  obtain ⟨a1, a2, a3, a4, a5, a6⟩ := Cal.ok_range h
  have hm := h.2
  have hl : ¬ Cal.mon y m < d := by omega
  have hy := Cal.yrs_bd a1 a2
  go_enter Tryz.func194, Tryz.ntmps194
  go_wp2_with (go_at_call 200; refine (monthOf_any _ _ _).mono ?_; rintro e w' ⟨rfl, rfl⟩)
  go_loop [8, 9] (fun n k => ∃ j : Int, 2000 ≤ j ∧ j ≤ y ∧ k = .int .i64 j ∧ n = .int .i64 (Cal.yrs j)) (fun _ k => (y - intOf k).toNat)
  case atStart => exact ⟨2000, by omega, a1, rfl, rfl⟩
  case round =>
    obtain ⟨j, j1, j2, rfl, rfl⟩ := hrel
    by_cases hj : j < y
    · have jb := Cal.yrs_bd j1 (by omega)
      have js := Cal.yrs_succ j j1
      have jf := feb_is j j1 (by omega)
      have JS := Lib.hid js
      clear js
      rcases Cal.feb_cases j with ⟨_, hf⟩ | ⟨_, hf⟩
      all_goals
        rw [hf] at jf JS
        clear hf
        have JF := Lib.hid jf
        have jt : (Cal.mon j 2 == 29) = decide (Cal.mon j 2 = 29) := rfl
        rw [jf] at jt
        go_wp2_with (go_at_call 200; refine (monthOf_any _ _ _).mono ?_; rintro e w' ⟨rfl, rfl⟩; rw [JF.out])
        go_round
        case rel => exact ⟨j + 1, by omega, by omega, rfl, by rw [JS.out]; go_num⟩
        case measure => simp [intOf]; omega
    · obtain rfl : j = y := by omega
      go_wp2_with fail
      go_loop [8, 10] (fun n k => ∃ i : Int, 1 ≤ i ∧ i ≤ m ∧ k = .int .i64 i ∧ n = .int .i64 (Cal.yrs j + Cal.cum j i)) (fun _ k => (m - intOf k).toNat)
      case atStart => exact ⟨1, by omega, a3, rfl, by rw [Cal.cum_one]; go_num⟩
      case round =>
        obtain ⟨i, i1, i2, rfl, rfl⟩ := hrel
        have cb := Cal.cum_bd j i i1 (by omega)
        by_cases hi : i < m
        · have cs := Cal.cum_succ j i i1 (by omega)
          have mi := Cal.mon_in a1 a2 i1 (show i ≤ 12 by omega)
          have mb := Cal.mon_bd j i
          have CS := Lib.hid cs
          have MI := Lib.hid mi
          clear cs mi
          go_wp2_with (go_at_call 200; refine (monthOf_any _ _ _).mono ?_; rintro e w' ⟨rfl, rfl⟩)
          go_round
          case rel => exact ⟨i + 1, by omega, by omega, rfl, by rw [CS.out, ← MI.out]; go_num⟩
          case measure => simp [intOf]; omega
        · obtain rfl : i = m := by omega
          go_wp2
          go_ret2
          exact ⟨ret2 (congrArg (Value.int .i64) (by unfold Cal.num; omega)) rfl, rfl⟩
set_option maxHeartbeats 400000 in
theorem makeDay_err (y m d : Int) (w : World) (h : ¬ Cal.Ok y m d) :
    Calls Tryz.prog 194 #[.int .i64 y, .int .i64 m, .int .i64 d] w fun e w' => e = .returned (.tuple #[.int .i64 0, .int .i64 2]) ∧ w = w' := by
  by_cases h1 : d < 1
  · go_enter Tryz.func194, Tryz.ntmps194
    go_wp2_with fail
    go_ret2
    exact ⟨rfl, rfl⟩
  · have h2 : Cal.mon y m < d := by unfold Cal.Ok at h; omega
    go_enter Tryz.func194, Tryz.ntmps194
    go_wp2_with (go_at_call 200; refine (monthOf_any _ _ _).mono ?_; rintro e w' ⟨rfl, rfl⟩)
    go_ret2
    exact ⟨rfl, rfl⟩
set_option maxHeartbeats 2000000 in
theorem dateOf_at (n y m d : Int) (w : World) (h : Cal.At n y m d) :
    Calls Tryz.prog 146 #[.int .i64 n] w fun e w' => e = .returned (.tuple #[.int .i64 y, .int .i64 m, .int .i64 d]) ∧ w = w' := by
  obtain ⟨a1, a2, a3, a4, a5, a6⟩ := Cal.ok_range h.1
  have hm := h.1.2
  have nb := Cal.at_bd h
  have hy := Cal.yrs_bd a1 a2
  have hn : n = Cal.yrs y + Cal.cum y m + d - 1 := h.2.symm
  have hcb := Cal.cum_bd y m a3 (by omega)
  have mi := Cal.mon_in a1 a2 a3 a4
  have cs := Cal.cum_succ y m a3 a4
  have cm := Cal.cum_mono y (m + 1) 13 (by omega) (by omega) (by omega)
  have cl := Cal.cum_last y
  have hy0 : Cal.yrs y ≤ n := by omega
  have hy1 : n - Cal.yrs y < 337 + Cal.feb y := by omega
  have HN := Lib.hid hn
  have MI := Lib.hid mi
  clear hn mi cs cm cl
  go_enter Tryz.func146, Tryz.ntmps146
  go_wp2_with fail
  go_loop [0, 5] (fun r k => ∃ j : Int, 2000 ≤ j ∧ j ≤ y ∧ k = .int .i64 j ∧ r = .int .i64 (n - Cal.yrs j)) (fun _ k => (2199 - intOf k).toNat)
  case atStart => exact ⟨2000, by omega, a1, rfl, by rw [show Cal.yrs 2000 = 0 from rfl]; go_num⟩
  case round =>
    obtain ⟨j, j1, j2, rfl, rfl⟩ := hrel
    have jb := Cal.yrs_bd j1 (by omega)
    have jm := Cal.yrs_mono j1 j2
    have js := Cal.yrs_succ j j1
    have jf := feb_is j j1 (by omega)
    have JS := Lib.hid js
    have hfc := Cal.feb_cases j
    by_cases hj : j < y
    · have jl := Cal.yrs_mono (a := j + 1) (b := y) (by omega) (by omega)
      clear js
      rcases hfc with ⟨_, hf⟩ | ⟨_, hf⟩
      all_goals
        rw [hf] at jf JS
        have hge : ¬ n - Cal.yrs j < 337 + Cal.feb j := by have := JS.out; omega
        rw [hf] at hge
        clear hf
        have JF := Lib.hid jf
        clear jf
        go_wp2_with (go_at_call 200; refine (monthOf_any _ _ _).mono ?_; rintro e w' ⟨rfl, rfl⟩; rw [JF.out])
        go_round
        case rel => exact ⟨j + 1, by omega, by omega, rfl, by rw [JS.out]; go_num⟩
        case measure => simp [intOf]; omega
    · obtain rfl : j = y := by omega
      clear js JS
      rcases hfc with ⟨_, hf⟩ | ⟨_, hf⟩
      all_goals
        rw [hf] at jf
        rw [hf] at hy1
        have hlt : n - Cal.yrs j < 337 + Cal.feb j := by rw [hf]; exact hy1
        clear hlt hf
        simp only [Int.reduceAdd] at hy1
        have hlb := decide_eq_true hy1
        have JF := Lib.hid jf
        clear jf
        go_wp2_with (go_at_call 200; refine (monthOf_any _ _ _).mono ?_; rintro e w' ⟨rfl, rfl⟩; rw [JF.out])
        go_loop [0, 7] (fun r k => ∃ i : Int, 1 ≤ i ∧ i ≤ m ∧ k = .int .i64 i ∧ r = .int .i64 (n - Cal.yrs j - Cal.cum j i)) (fun _ k => (12 - intOf k).toNat)
        case atStart => exact ⟨1, by omega, a3, rfl, by rw [Cal.cum_one]; go_num⟩
        case round =>
          obtain ⟨i, i1, i2, rfl, rfl⟩ := hrel
          have cb := Cal.cum_bd j i i1 (by omega)
          have cs := Cal.cum_succ j i i1 (by omega)
          have mii := Cal.mon_in a1 a2 i1 (show i ≤ 12 by omega)
          have mb := Cal.mon_bd j i
          by_cases hi : i < m
          · have cm := Cal.cum_mono j (i + 1) m (by omega) (by omega) (by omega)
            have hge : Cal.mon j i ≤ n - Cal.yrs j - Cal.cum j i := by have := HN.out; omega
            have CS := Lib.hid cs
            have MII := Lib.hid mii
            clear cs mii
            go_wp2_with (go_at_call 200; refine (monthOf_any _ _ _).mono ?_; rintro e w' ⟨rfl, rfl⟩)
            go_round
            case rel => exact ⟨i + 1, by omega, by omega, rfl, by rw [CS.out, ← MII.out]; go_num⟩
            case measure => simp [intOf]; omega
          · obtain rfl : i = m := by omega
            have hge : ¬ Cal.mon j i ≤ n - Cal.yrs j - Cal.cum j i := by have := HN.out; omega
            clear cs mii
            go_wp2_with (go_at_call 200; refine (monthOf_any _ _ _).mono ?_; rintro e w' ⟨rfl, rfl⟩)
            refine bodyPost_ret (v := .tuple #[.int .i64 j, .int .i64 i, .int .i64 (n - Cal.yrs j - Cal.cum j i + 1)]) (by simp [results, Tryz.results146, go_sem]) rfl ⟨?_, rfl⟩
            rw [show n - Cal.yrs j - Cal.cum j i + 1 = d from by have := HN.out; omega]
end Ref
end Go.Proofs.YtghkalamlcfnnaaGreatDoor
end
section
namespace Go.Proofs.YtghkalamlcfnnaaGreatDoor
open Go Go.RowKit Go.Shelf Lmd
namespace Cand
open Rul Day Er Ref
theorem in_b (n a b : Int) (w : World) : Calls Tryz.prog 119 #[.int .i64 n, .int .i64 a, .int .i64 b] w fun e w' => e = .returned (.bool (inB n a b)) ∧ w = w' := by
  by_cases h : a ≤ n ∧ n ≤ b
  · have hq : inB n a b = true := decide_eq_true h
    rw [hq]; exact in_yes n a b w h
  · have hq : inB n a b = false := decide_eq_false h
    rw [hq]; exact in_no n a b w h
theorem mem_el {xs : List Int} {x : Int} : x ∈ xs ↔ ∃ i, i < xs.length ∧ Ints.el xs i = x := by
  rw [List.mem_iff_getElem]
  constructor
  · rintro ⟨i, h, e⟩; exact ⟨i, h, by rw [Ints.el_lt h]; exact e⟩
  · rintro ⟨i, h, e⟩; exact ⟨i, h, by rw [← Ints.el_lt h]; exact e⟩
end Cand
end Go.Proofs.YtghkalamlcfnnaaGreatDoor
end
