/- RefDay, RefInB: texts joined. -/
import Derived.Test.YtghkalamlcfnnaaGreatDoorQA5
import Derived.Test.YtghkalamlcfnnaaGreatDoorQEvLists
import Derived.Test.YtghkalamlcfnnaaGreatDoorQA3
import Derived.Test.YtghkalamlcfnnaaGreatDoorQA1
import Derived.Test.YtghkalamlcfnnaaGreatDoorQRuleText
section
namespace Go.Proofs.YtghkalamlcfnnaaGreatDoor
open Go Go.RowKit Go.Shelf Lmd
namespace Evt
open Rul Day Cand Er
theorem badE_zero {e : Ev} (h : badE e = 0) : nameB e.id = true ∧ titleB e.ti = true ∧ (0 ≤ e.st ∧ e.st ≤ 73048) ∧ (1 ≤ e.lg ∧ e.lg ≤ 60) ∧ bad e.ru = 0 ∧ badL e = 0 := by
  by_cases h1 : nameB e.id = true
  case neg => rw [badE_name (by simpa using h1)] at h; cases h
  by_cases h2 : titleB e.ti = true
  case neg => rw [badE_text h1 (by simpa using h2)] at h; cases h
  by_cases h3 : (rightB e.st && inB e.lg 1 60) = true
  case neg => rw [badE_bound h1 h2 (by simpa using h3)] at h; cases h
  by_cases h4 : bad e.ru = 0
  case neg => rw [badE_rule h1 h2 h3 h4] at h; exact absurd h h4
  rw [badE_lists h1 h2 h3 h4] at h
  have h5 : (rightB e.st = true) ∧ inB e.lg 1 60 = true := by simpa using h3
  exact ⟨h1, h2, of_decide_eq_true h5.1, of_decide_eq_true h5.2, h4, h⟩
theorem badL_zero {e : Ev} (h : badL e = 0) : e.sk.length ≤ 20 ∧ e.mv.length ≤ 20 ∧ riseB e.sk = true ∧ riseB (froms e.mv) = true ∧ e.sk.all rightB = true ∧ (e.mv.all fun m => rightB m.1 && rightB m.2) = true ∧ (froms e.mv).any (e.sk.contains ·) = false := by
  by_cases h1 : 20 < e.sk.length ∨ 20 < e.mv.length
  · rw [badL_full h1] at h; cases h
  by_cases h2 : (riseB e.sk && riseB (froms e.mv)) = true
  case neg => rw [badL_order h1 (by simpa using h2)] at h; cases h
  by_cases h3 : (e.sk.all rightB && e.mv.all fun m => rightB m.1 && rightB m.2) = true
  case neg => rw [badL_bound h1 h2 (by simpa using h3)] at h; cases h
  by_cases h4 : (froms e.mv).any (e.sk.contains ·) = true
  · rw [badL_exist h1 h2 h3 h4] at h; cases h
  rw [Bool.and_eq_true] at h2 h3
  exact ⟨by omega, by omega, h2.1, h2.2, h3.1, h3.2, by simpa using h4⟩
end Evt
end Go.Proofs.YtghkalamlcfnnaaGreatDoor
end
section
namespace Go.Proofs.YtghkalamlcfnnaaGreatDoor
open Go.RowKit Lmd
namespace Ref
open Day
set_option maxHeartbeats 400000 in
theorem in_any (n a b : Int) (w : World) :
    Calls Tryz.prog 119 #[.int .i64 n, .int .i64 a, .int .i64 b] w fun e w' => e = .returned (.bool (decide (a ≤ n ∧ n ≤ b))) ∧ w = w' := by
  go_enter Tryz.func119, Tryz.ntmps119
  go_wp2
  all_goals go_ret
  all_goals exact ⟨ret_bool (by rw [Bool.eq_iff_iff]; simp; try omega), rfl⟩
theorem in_yes (n a b : Int) (w : World) (h : a ≤ n ∧ n ≤ b) :
    Calls Tryz.prog 119 #[.int .i64 n, .int .i64 a, .int .i64 b] w fun e w' => e = .returned (.bool true) ∧ w = w' :=
  (in_any n a b w).mono fun _ _ ⟨he, hw⟩ => ⟨by rw [he, decide_eq_true h], hw⟩
theorem in_no (n a b : Int) (w : World) (h : ¬ (a ≤ n ∧ n ≤ b)) :
    Calls Tryz.prog 119 #[.int .i64 n, .int .i64 a, .int .i64 b] w fun e w' => e = .returned (.bool false) ∧ w = w' :=
  (in_any n a b w).mono fun _ _ ⟨he, hw⟩ => ⟨by rw [he, decide_eq_false h], hw⟩
set_option maxHeartbeats 400000 in
theorem isDay_any (n : Int) (w : World) :
    Calls Tryz.prog 118 #[.int .i64 n] w fun e w' => e = .returned (.bool (decide (0 ≤ n ∧ n ≤ 73048))) ∧ w = w' := by
  go_enter Tryz.func118, Tryz.ntmps118
  go_wp2_with (go_at_call 119; refine (in_any _ _ _ _).mono ?_; rintro e w' ⟨rfl, rfl⟩)
  go_ret
  exact ⟨ret_bool (by rw [Bool.eq_iff_iff]; simp), rfl⟩
end Ref
end Go.Proofs.YtghkalamlcfnnaaGreatDoor
end
section
namespace Go.Proofs.YtghkalamlcfnnaaGreatDoor
open Go Go.RowKit Go.Shelf Lmd
namespace Cand
open Rul Day Er Ref
theorem in_b (n a b : Int) (w : World) : Calls Tryz.prog 119 #[.int .i64 n, .int .i64 a, .int .i64 b] w fun e w' => e = .returned (.bool (inB n a b)) ∧ w = w' := by
  by_cases h : a ≤ n ∧ n ≤ b
  · have hq : inB n a b = true := decide_eq_true h
    rw [hq]; exact in_yes n a b w h
  · have hq : inB n a b = false := decide_eq_false h
    rw [hq]; exact in_no n a b w h
theorem mem_el {xs : List Int} {x : Int} : x ∈ xs ↔ ∃ i, i < xs.length ∧ Ints.el xs i = x := by
  rw [List.mem_iff_getElem]
  constructor
  · rintro ⟨i, h, e⟩; exact ⟨i, h, by rw [Ints.el_lt h]; exact e⟩
  · rintro ⟨i, h, e⟩; exact ⟨i, h, by rw [← Ints.el_lt h]; exact e⟩
end Cand
end Go.Proofs.YtghkalamlcfnnaaGreatDoor
end
