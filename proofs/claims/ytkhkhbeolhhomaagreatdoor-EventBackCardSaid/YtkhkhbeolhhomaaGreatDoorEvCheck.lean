/- package event: Check, and all that it calls of its own package. -/
import Derived.Test.YtkhkhbeolhhomaaGreatDoorEvRd
import Derived.Shelf.Strings.SlTrimAscii
import Derived.Shelf.GgClosure.StringsIndexFuncTop
import Derived.Shelf.SlicesE.IndexFunc
import Derived.Shelf.SlicesQ.IndexFunc
import Derived.Lib.SliceRun
namespace Go.Proofs.YtkhkhbeolhhomaaGreatDoor
open Go Go.RowKit Go.Shelf Go.Lib Lmd
attribute [local go_sem] Oper.semAt_some
namespace Evt
open Rul Day Cand Er

abbrev azS : ByteArray := ⟨#[97, 98, 99, 100, 101, 102, 103, 104, 105, 106, 107, 108, 109, 110, 111, 112, 113, 114, 115, 116, 117, 118, 119, 120, 121, 122, 48, 49, 50, 51, 52, 53, 54, 55, 56, 57]⟩
theorem trim_az (s : ByteArray) : (Lib.trimS s.data.toList az).isEmpty = s.data.toList.all (az.contains ·) := by
  rw [Bool.eq_iff_iff, List.isEmpty_iff, trim_nil, List.all_eq_true]
set_option maxHeartbeats 1000000 in
theorem name_any (s : ByteArray) (w : World) (hs : s.size ≤ 9223372036854775807) :
    Calls Tryz.prog 85 #[.string s] w fun e w' => e = .returned (.bool (nameB s)) ∧ Below w.heap.size w w' := by
  have hT := fun W => Any.strings_Trim_laid Tryz.lays160 (by kernel_rfl) s azS W hs (by decide) (ascii_of_all (by decide))
  change ∀ W, Calls Tryz.prog 139 _ W _ at hT
  obtain ⟨T, hTT⟩ : ∃ T, Lib.trimS s.data.toList azS.data.toList = T := ⟨_, rfl⟩
  rw [hTT] at hT
  have hq : nameB s = (decide (s.size ≠ 0) && decide (s.size ≤ 12) && T.isEmpty) := by
    unfold nameB
    rw [← trim_az, ← hTT]; rfl
  obtain ⟨q, hq1⟩ : ∃ q, nameB s = q := ⟨_, rfl⟩
  rw [hq1] at hq ⊢
  have HQ := Lib.hid hq
  have HT := Lib.hid hT
  clear hq hq1 hT hTT
  have he : s.toList.isEmpty = decide (s.size = 0) := by
    rw [ByteArray.toList_eq, Bool.eq_iff_iff, List.isEmpty_iff, decide_eq_true_eq]
    constructor
    · intro h
      show s.data.size = 0
      rw [← Array.length_toList, h]; rfl
    · intro h
      exact List.length_eq_zero_iff.1 (by rw [Array.length_toList]; exact h)
  have HE := Lib.hid he
  clear he
  cases h1 : s.toList.isEmpty with
  | true =>
    have h0 : s.size = 0 := by have := HE.out; rw [h1] at this; exact of_decide_eq_true this.symm
    go_enter Tryz.func85, Tryz.ntmps85
    go_wp2_with fail
    go_ret
    exact ⟨by rw [HQ.out, h0]; simp, Below.refl _ _⟩
  | false =>
    have h0 : ¬ s.size = 0 := by have := HE.out; rw [h1] at this; exact of_decide_eq_false this.symm
    by_cases h2 : (s.size : Int) ≤ 12
    · go_enter Tryz.func85, Tryz.ntmps85
      go_wp2_with (go_at_call 139; refine (HT.out _).mono ?_; rintro e w' ⟨rfl, hb'⟩)
      go_ret
      exact ⟨by rw [HQ.out, decide_eq_true h0, decide_eq_true (show s.size ≤ 12 by omega)]; simp, hb'⟩
    · go_enter Tryz.func85, Tryz.ntmps85
      go_wp2_with fail
      go_ret
      exact ⟨by rw [HQ.out, decide_eq_false (show ¬ s.size ≤ 12 by omega)]; simp, Below.refl _ _⟩
theorem bad_pred (w : World) : PredAt Tryz.prog 141 #[] encR badR w := fun W r _ => by
  unfold FnGives
  obtain ⟨q, hq⟩ : ∃ q, badR r = q := ⟨_, rfl⟩
  rw [hq]
  have HQ := Lib.hid hq
  clear hq
  by_cases h1 : r < 32 <;> by_cases h2 : 126 < r <;> by_cases h3 : r = 124
  all_goals
    have z1 : (r : Int) < 32 ↔ r < 32 := by omega
    have z2 : (126 : Int) < (r : Int) ↔ 126 < r := by omega
    have z3 : (r : Int) = 124 ↔ r = 124 := by omega
    go_enter Tryz.func141, Tryz.ntmps141
    go_wp2
    all_goals first | (exfalso; omega) | (go_ret; exact ⟨by rw [← HQ.out]; simp [badR, h1, h2, h3] <;> omega, 0, rfl⟩)
set_option maxHeartbeats 1000000 in
theorem title_any (s : ByteArray) (w : World) (hs : s.size ≤ 9223372036854775807) :
    Calls Tryz.prog 86 #[.string s] w fun e w' => e = .returned (.bool (titleB s)) ∧ Below w.heap.size w w' := by
  have hT := Any.strings_ContainsFunc Tryz.laysGw17 141 #[] (enters_of Tryz.func141 (by kernel_rfl) rfl) badR s w (bad_pred w)
  change Calls Tryz.prog 140 _ w _ at hT
  rw [title_iff] at hT
  obtain ⟨b, hb⟩ : ∃ b, s.data.toList.all okC = b := ⟨_, rfl⟩
  rw [hb] at hT
  have hq : titleB s = (decide (s.size ≤ 40) && b) := by rw [← hb]; rfl
  obtain ⟨q, hq1⟩ : ∃ q, titleB s = q := ⟨_, rfl⟩
  rw [hq1] at hq ⊢
  have HQ := Lib.hid hq
  have HT := Lib.hid hT
  clear hq hq1 hT hb
  by_cases h1 : (s.size : Int) ≤ 40
  · go_enter Tryz.func86, Tryz.ntmps86
    go_wp2_with (go_at_call 140; refine HT.out.mono ?_; rintro e w' ⟨rfl, hb'⟩)
    go_ret
    exact ⟨by rw [HQ.out, decide_eq_true (show s.size ≤ 40 by omega)]; simp, hb'⟩
  · go_enter Tryz.func86, Tryz.ntmps86
    go_wp2_with fail
    go_ret
    exact ⟨by rw [HQ.out, decide_eq_false (show ¬ s.size ≤ 40 by omega)]; simp, Below.refl _ _⟩
set_option maxRecDepth 100000 in
set_option maxHeartbeats 2000000 in
theorem rising_any (xs : List Int) (v : Value) (w : World) (hr : Ints.Reads w v xs) (hl : xs.length ≤ 1000000) :
    Calls Tryz.prog 148 #[v] w fun e w' => e = .returned (.bool (riseB xs)) ∧ Below w.heap.size w w' := by
  obtain ⟨a, cap, rfl⟩ := hr.shape
  have HR := Lib.hid hr
  clear hr
  go_enter Tryz.func148, Tryz.ntmps148
  go_wp2_with fail
  go_loopw [3] (fun i wr => ∃ (k m : Nat), (k = 0 ∨ k < xs.length) ∧ i = .int .i64 ((k : Int) + 1) ∧ wr = w.drewN m ∧ ∀ j, j < k → Ints.el xs j < Ints.el xs (j + 1)) (fun i _ => xs.length + 1 - (intOf i).toNat)
  case atStart => exact ⟨0, 0, Or.inl rfl, rfl, rfl, fun _ h => absurd h (Nat.not_lt_zero _)⟩
  case round =>
    obtain ⟨k, m, hk, rfl, rfl, hs⟩ := hrel
    have HSo := Lib.hid hs
    clear hs
    by_cases hlt : k + 1 < xs.length
    · obtain ⟨_, b, o, ha, hc⟩ := HR.out.at (by rintro rfl; exact absurd hlt (Nat.not_lt_zero _))
      subst ha
      have c1 : (w.drewN m).cell? ⟨b, o + (k + 1), none⟩ = some (.int .i64 (Ints.el xs (k + 1))) := by exact hc (k + 1) hlt
      have c2 : (w.drewN m).cell? ⟨b, o + k, none⟩ = some (.int .i64 (Ints.el xs k)) := by exact hc k (by omega)
      have hi1 : (k : Int) + 1 < (xs.length : Int) := by omega
      by_cases hq : Ints.el xs (k + 1) ≤ Ints.el xs k
      · have hb := decide_eq_true hq
        have HQ1 := Lib.hid hq
        clear hq
        go_wp2
        go_quiet (fail)
        go_wp2
        go_ret
        exact ⟨by rw [rise_no hlt HQ1.out]; rfl, below_draw (below_drewN (Below.refl _ _) m) _⟩
      · have hb := decide_eq_false hq
        have HQ1 := Lib.hid hq
        clear hq
        go_wp2
        go_quiet (fail)
        go_wp2
        go_roundw
        case rel => exact ⟨k + 1, _, Or.inr hlt, by go_num, rfl, fun j hj => by
          by_cases ej : j = k
          · subst ej; exact HQ1.out
          · exact HSo.out j (by omega)⟩
        case measure => simp [intOf]; omega
    · have hi1 : (xs.length : Int) ≤ (k : Int) + 1 := by omega
      go_wp2
      go_ret
      exact ⟨by rw [rise_yes (show xs.length ≤ k + 1 by omega) HSo.out]; rfl, below_drewN (Below.refl _ _) m⟩
end Evt
end Go.Proofs.YtkhkhbeolhhomaaGreatDoor
