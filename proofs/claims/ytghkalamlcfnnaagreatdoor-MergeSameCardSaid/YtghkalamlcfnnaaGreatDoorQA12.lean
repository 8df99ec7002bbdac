/- RefRule, RefEvE: texts joined. -/
import Derived.Test.YtghkalamlcfnnaaGreatDoorQA11
import Derived.Test.YtghkalamlcfnnaaGreatDoorQRefError
section
namespace Go.Proofs.YtghkalamlcfnnaaGreatDoor
open Go Go.RowKit Go.Shelf Lmd
namespace Cand
open Rul Day Er Ref
set_option maxHeartbeats 1000000 in
theorem isIn_any (n : Int) (v : Value) (xs : List Int) (w : World) (hr : Ints.Reads w v xs) (hl : xs.length ≤ 1000000000) :
    Calls Tryz.prog 120 #[.int .i64 n, v] w fun e w' => e = .returned (.bool (decide (n ∈ xs))) ∧ w' = w := by
  obtain ⟨a, c, rfl⟩ := hr.shape
  by_cases hx : xs = []
  · subst hx
    have hd : decide (n ∈ ([] : List Int)) = false := by simp
    rw [hd]
    go_enter Tryz.func120, Tryz.ntmps120
    go_wp2
    refine wp_loop_rounds 1 ?_
    rw [rounds_succ]
    go_wp2
    go_ret
    exact ⟨rfl, rfl⟩
  · obtain ⟨_, b1, o1, rfl, hc1⟩ := hr.at hx
    have HC := Lib.hid hc1
    have HX := Lib.hid hx
    clear hr hc1 hx
    obtain ⟨q, hq0⟩ : ∃ q, decide (n ∈ xs) = q := ⟨_, rfl⟩
    have HQ := Lib.hid hq0
    rw [hq0]
    clear hq0
    go_enter Tryz.func120, Tryz.ntmps120
    go_wp2
    go_loopw [5] (fun p wr => ∃ i : Nat, i ≤ xs.length ∧ p = .int .i64 (i : Int) ∧ wr = w ∧ ∀ j, j < i → Ints.el xs j ≠ n) (fun p _ => xs.length - (intOf p).toNat)
    case atStart => exact ⟨0, Nat.zero_le _, rfl, rfl, fun _ h => by omega⟩
    case round =>
      obtain ⟨i, hi, rfl, rfl, hs⟩ := hrel
      have HS := Lib.hid hs
      clear hs
      by_cases hlt : i < xs.length
      · have k1 := HC.out i hlt
        obtain ⟨y, hy⟩ : ∃ y, Ints.el xs i = y := ⟨_, rfl⟩
        rw [hy] at k1
        have HYY := Lib.hid hy
        clear hy
        by_cases hq : y = n
        · subst hq
          obtain rfl : q = true := by rw [← HQ.out]; exact decide_eq_true (mem_el.2 ⟨i, hlt, HYY.out⟩)
          go_wp2
          go_ret
          exact ⟨rfl, rfl⟩
        · go_wp2
          go_roundw
          case rel => exact ⟨i + 1, by omega, by simp, by trivial, fun j hj => by
            by_cases e : j = i
            · subst e; rw [HYY.out]; exact hq
            · exact HS.out j (by omega)⟩
          case measure => simp [intOf]; omega
      · obtain rfl : q = false := by
          rw [← HQ.out]
          exact decide_eq_false (fun h => by
            obtain ⟨j, hj, e⟩ := mem_el.1 h
            exact HS.out j (by omega) e)
        go_wp2
        go_ret
        exact ⟨rfl, rfl⟩
end Cand
end Go.Proofs.YtghkalamlcfnnaaGreatDoor
end
section
namespace Go.Proofs.YtghkalamlcfnnaaGreatDoor
open Go Go.RowKit Go.Shelf Lmd
attribute [local go_sem] Oper.semAt_some
namespace Evt
open Rul Day Cand Er
theorem az_iff (c : UInt8) : az.contains c = true ↔ (97 ≤ c.toNat ∧ c.toNat ≤ 122) ∨ (48 ≤ c.toNat ∧ c.toNat ≤ 57) := by
  rw [List.contains_iff_mem]
  simp only [az, List.mem_cons, List.not_mem_nil, or_false, ← UInt8.toNat_inj, UInt8.reduceToNat]
  omega
theorem all_snoc (p : UInt8 → Bool) {D : List UInt8} {k : Nat} {y : UInt8} (hy : D[k]? = some y) : (D.take (k + 1)).all p = ((D.take k).all p && p y) := by
  obtain ⟨h1, h2⟩ := List.getElem?_eq_some_iff.1 hy
  rw [List.take_succ_eq_append_getElem h1, h2, List.all_append]
  simp
theorem all_no (p : UInt8 → Bool) {D : List UInt8} {k : Nat} {y : UInt8} (hy : D[k]? = some y) (h : p y = false) : D.all p = false := by
  rw [← Bool.not_eq_true]
  intro h2
  have := List.all_eq_true.1 h2 y (List.mem_of_getElem? hy)
  rw [h] at this; cases this
set_option maxRecDepth 100000 in
set_option maxHeartbeats 1000000 in
theorem isName_any (S : ByteArray) (w : World) (hs : S.size ≤ 9223372036854775807) :
    Calls Tryz.prog 116 #[.string S] w fun e w' => e = .returned (.bool (nameB S)) ∧ w' = w := by
  obtain ⟨D, hD⟩ : ∃ D, S.data.toList = D := ⟨_, rfl⟩
  have hsz : S.size = D.length := by rw [← hD, Array.length_toList]; rfl
  obtain ⟨q, hq⟩ : ∃ q, nameB S = q := ⟨_, rfl⟩
  have hq2 : (decide (S.size ≠ 0) && decide (S.size ≤ 12) && D.all (az.contains ·)) = q := by rw [← hq, ← hD]; rfl
  rw [hq]
  have HQ := Lib.hid hq2
  have HSD := Lib.hid hD
  have HSZ := Lib.hid hsz
  clear hD hsz hq hq2
  go_enter Tryz.func116, Tryz.ntmps116
  go_wp2_with fail
  go_loopw [3] (fun i wr => ∃ k : Nat, k ≤ S.size ∧ i = .int .i64 k ∧ (D.take k).all (az.contains ·) = true ∧ wr = w) (fun i _ => S.size - (intOf i).toNat)
  case atStart => exact ⟨0, Nat.zero_le _, rfl, rfl, rfl⟩
  case round =>
    obtain ⟨k, hk, rfl, hd, rfl⟩ := hrel
    have HD := Lib.hid hd
    clear hd
    by_cases hlt : k < S.size
    · obtain ⟨y, hy⟩ : ∃ y, D[k]? = some y := ⟨_, List.getElem?_eq_getElem (by have := HSZ.out; omega)⟩
      have hSy : (S[k] : UInt8) = y := at_of S k y hlt (by rw [HSD.out]; exact hy)
      have hi1 : (k : Int) < (S.size : Int) := by omega
      have HY := Lib.hid hy
      clear hy
      by_cases h1 : 97 ≤ y.toNat ∧ y.toNat ≤ 122
      · have HG := Lib.hid ((az_iff y).2 (.inl h1))
        have d1 : (97 : Int) ≤ (y.toNat : Int) := by omega
        have d2 : (y.toNat : Int) ≤ 122 := by omega
        have d3 : (48 : Int) ≤ (y.toNat : Int) := by omega
        have d4 : ¬ (y.toNat : Int) ≤ 57 := by omega
        clear h1
        go_wp2_with fail
        go_roundw
        case rel => exact ⟨k + 1, by omega, by go_num, by rw [all_snoc _ HY.out, HD.out, HG.out]; rfl, by trivial⟩
        case measure => simp [intOf]; omega
      · by_cases h2 : 48 ≤ y.toNat ∧ y.toNat ≤ 57
        · have HG := Lib.hid ((az_iff y).2 (.inr h2))
          have d1 : (48 : Int) ≤ (y.toNat : Int) := by omega
          have d2 : (y.toNat : Int) ≤ 57 := by omega
          have d3 : ¬ (97 : Int) ≤ (y.toNat : Int) := by omega
          clear h1 h2
          go_wp2_with fail
          go_roundw
          case rel => exact ⟨k + 1, by omega, by go_num, by rw [all_snoc _ HY.out, HD.out, HG.out]; rfl, by trivial⟩
          case measure => simp [intOf]; omega
        · have HG := Lib.hid (show az.contains y = false by rw [← Bool.not_eq_true, az_iff]; omega)
          obtain rfl : q = false := by rw [← HQ.out, all_no _ HY.out HG.out, Bool.and_false]
          by_cases d1 : (48 : Int) ≤ (y.toNat : Int)
          · have d2 : ¬ (y.toNat : Int) ≤ 57 := by omega
            by_cases d3 : (97 : Int) ≤ (y.toNat : Int)
            · have d4 : ¬ (y.toNat : Int) ≤ 122 := by omega
              clear h1 h2
              go_wp2_with fail
              go_ret
              exact ⟨rfl, rfl⟩
            · clear h1 h2
              go_wp2_with fail
              go_ret
              exact ⟨rfl, rfl⟩
          · have d3 : ¬ (97 : Int) ≤ (y.toNat : Int) := by omega
            clear h1 h2
            go_wp2_with fail
            go_ret
            exact ⟨rfl, rfl⟩
    · have hi1 : ¬ (k : Int) < (S.size : Int) := by omega
      have HT : Hid (D.take k = D) := List.take_of_length_le (by have := HSZ.out; omega)
      rw [HT.out] at HD
      by_cases h1 : (1 : Int) ≤ (S.size : Int)
      · by_cases h2 : (S.size : Int) ≤ 12
        · go_wp2_with fail
          go_ret
          exact ⟨by rw [← HQ.out, HD.out, decide_eq_true (show S.size ≠ 0 by omega), decide_eq_true (show S.size ≤ 12 by omega)]; rfl, rfl⟩
        · go_wp2_with fail
          go_ret
          exact ⟨by rw [← HQ.out, HD.out, decide_eq_false (show ¬ S.size ≤ 12 by omega)]; simp, rfl⟩
      · go_wp2_with fail
        go_ret
        exact ⟨by rw [← HQ.out, HD.out, decide_eq_false (show ¬ S.size ≠ 0 by omega)]; rfl, rfl⟩
def plC (c : UInt8) : Bool := decide (32 ≤ c.toNat) && decide (c.toNat ≤ 126)
set_option maxRecDepth 100000 in
set_option maxHeartbeats 1000000 in
theorem isPlain_any (S : ByteArray) (w : World) (hs : S.size ≤ 9223372036854775807) :
    Calls Tryz.prog 178 #[.string S] w fun e w' => e = .returned (.bool (S.data.toList.all plC)) ∧ w' = w := by
  obtain ⟨D, hD⟩ : ∃ D, S.data.toList = D := ⟨_, rfl⟩
  have hsz : S.size = D.length := by rw [← hD, Array.length_toList]; rfl
  rw [hD]
  obtain ⟨q, hq⟩ : ∃ q, D.all plC = q := ⟨_, rfl⟩
  rw [hq]
  have HQ := Lib.hid hq
  have HSD := Lib.hid hD
  have HSZ := Lib.hid hsz
  clear hD hsz hq
  go_enter Tryz.func178, Tryz.ntmps178
  go_wp2_with fail
  go_loopw [3] (fun i wr => ∃ k : Nat, k ≤ S.size ∧ i = .int .i64 k ∧ (D.take k).all plC = true ∧ wr = w) (fun i _ => S.size - (intOf i).toNat)
  case atStart => exact ⟨0, Nat.zero_le _, rfl, rfl, rfl⟩
  case round =>
    obtain ⟨k, hk, rfl, hd, rfl⟩ := hrel
    have HD := Lib.hid hd
    clear hd
    by_cases hlt : k < S.size
    · obtain ⟨y, hy⟩ : ∃ y, D[k]? = some y := ⟨_, List.getElem?_eq_getElem (by have := HSZ.out; omega)⟩
      have hSy : (S[k] : UInt8) = y := at_of S k y hlt (by rw [HSD.out]; exact hy)
      have hi1 : (k : Int) < (S.size : Int) := by omega
      have HY := Lib.hid hy
      clear hy
      by_cases h1 : (y.toNat : Int) < 32
      · have HG := Lib.hid (show plC y = false by unfold plC; rw [decide_eq_false (show ¬ 32 ≤ y.toNat by omega)]; rfl)
        obtain rfl : q = false := by rw [← HQ.out, all_no _ HY.out HG.out]
        go_wp2_with fail
        go_ret
        exact ⟨rfl, rfl⟩
      · by_cases h2 : 126 < (y.toNat : Int)
        · have HG := Lib.hid (show plC y = false by unfold plC; rw [decide_eq_false (show ¬ y.toNat ≤ 126 by omega)]; simp)
          obtain rfl : q = false := by rw [← HQ.out, all_no _ HY.out HG.out]
          go_wp2_with fail
          go_ret
          exact ⟨rfl, rfl⟩
        · have HG := Lib.hid (show plC y = true by unfold plC; rw [decide_eq_true (show 32 ≤ y.toNat by omega), decide_eq_true (show y.toNat ≤ 126 by omega)]; rfl)
          go_wp2_with fail
          go_roundw
          case rel => exact ⟨k + 1, by omega, by go_num, by rw [all_snoc _ HY.out, HD.out, HG.out]; rfl, by trivial⟩
          case measure => simp [intOf]; omega
    · have hi1 : ¬ (k : Int) < (S.size : Int) := by omega
      have HT : Hid (D.take k = D) := List.take_of_length_le (by have := HSZ.out; omega)
      rw [HT.out] at HD
      obtain rfl : q = true := by rw [← HQ.out, HD.out]
      go_wp2_with fail
      go_ret
      exact ⟨rfl, rfl⟩
theorem okC_pl (c : UInt8) : okC c = (plC c && decide (c.toNat ≠ 124)) := rfl
theorem title_parts (D : List UInt8) : D.all okC = (D.all plC && D.all fun c => decide (c.toNat ≠ 124)) := by
  induction D with
  | nil => rfl
  | cons c t ih =>
    simp only [List.all_cons, ih, okC_pl]
    cases plC c <;> cases decide (c.toNat ≠ 124) <;> simp
set_option maxRecDepth 100000 in
set_option maxHeartbeats 1000000 in
theorem isTitle_any (S : ByteArray) (w : World) (hs : S.size ≤ 9223372036854775807) :
    Calls Tryz.prog 117 #[.string S] w fun e w' => e = .returned (.bool (titleB S)) ∧ w' = w := by
  have hp := isPlain_any S w hs
  obtain ⟨D, hD⟩ : ∃ D, S.data.toList = D := ⟨_, rfl⟩
  have hsz : S.size = D.length := by rw [← hD, Array.length_toList]; rfl
  obtain ⟨q, hq⟩ : ∃ q, titleB S = q := ⟨_, rfl⟩
  have hq2 : (decide (S.size ≤ 40) && (D.all plC && D.all fun c => decide (c.toNat ≠ 124))) = q := by rw [← hq, ← title_parts, ← hD]; rfl
  rw [hq]
  rw [hD] at hp
  obtain ⟨b, hb⟩ : ∃ b, D.all plC = b := ⟨_, rfl⟩
  rw [hb] at hp hq2
  have HP := Lib.hid hp
  have HQ := Lib.hid hq2
  have HSD := Lib.hid hD
  have HSZ := Lib.hid hsz
  clear hD hsz hq hq2 hp hb
  go_enter Tryz.func117, Tryz.ntmps117
  go_wp2_with fail
  go_loopw [3] (fun i wr => ∃ k : Nat, k ≤ S.size ∧ i = .int .i64 k ∧ (D.take k).all (fun c => decide (c.toNat ≠ 124)) = true ∧ wr = w) (fun i _ => S.size - (intOf i).toNat)
  case atStart => exact ⟨0, Nat.zero_le _, rfl, rfl, rfl⟩
  case round =>
    obtain ⟨k, hk, rfl, hd, rfl⟩ := hrel
    have HD := Lib.hid hd
    clear hd
    by_cases hlt : k < S.size
    · obtain ⟨y, hy⟩ : ∃ y, D[k]? = some y := ⟨_, List.getElem?_eq_getElem (by have := HSZ.out; omega)⟩
      have hSy : (S[k] : UInt8) = y := at_of S k y hlt (by rw [HSD.out]; exact hy)
      have hi1 : (k : Int) < (S.size : Int) := by omega
      have HY := Lib.hid hy
      clear hy
      by_cases h1 : y.toNat = 124
      · have HG := Lib.hid (show (fun c : UInt8 => decide (c.toNat ≠ 124)) y = false by simp [h1])
        obtain rfl : q = false := by rw [← HQ.out, all_no _ HY.out HG.out]; simp
        have d1 : ((y.toNat : Int) == 124) = true := by rw [h1]; rfl
        clear h1
        go_wp2_with fail
        go_ret
        exact ⟨rfl, rfl⟩
      · have HG := Lib.hid (show (fun c : UInt8 => decide (c.toNat ≠ 124)) y = true by simp [h1])
        have d1 : ((y.toNat : Int) == 124) = false := by rw [beq_eq_false_iff_ne]; omega
        clear h1
        go_wp2_with fail
        go_roundw
        case rel => exact ⟨k + 1, by omega, by go_num, by rw [all_snoc _ HY.out, HD.out, Bool.true_and]; exact HG.out, by trivial⟩
        case measure => simp [intOf]; omega
    · have hi1 : ¬ (k : Int) < (S.size : Int) := by omega
      have HT : Hid (D.take k = D) := List.take_of_length_le (by have := HSZ.out; omega)
      rw [HT.out] at HD
      by_cases h2 : (S.size : Int) ≤ 40
      · go_wp2_with fail
        (with_reducible refine HP.out.mono ?_)
        rintro e1 w1 ⟨rfl, rfl⟩
        go_wp2
        go_ret
        exact ⟨by rw [← HQ.out, HD.out, decide_eq_true (show S.size ≤ 40 by omega)]; simp, rfl⟩
      · go_wp2_with fail
        go_ret
        exact ⟨by rw [← HQ.out, decide_eq_false (show ¬ S.size ≤ 40 by omega)]; rfl, rfl⟩
theorem isDay_r (n : Int) (w : World) : Calls Tryz.prog 118 #[.int .i64 n] w fun e w' => e = .returned (.bool (rightB n)) ∧ w = w' := by
  have := Ref.isDay_any n w
  unfold rightB inB
  exact this
theorem all_el {p : Int → Bool} {xs : List Int} (h : ∀ j, j < xs.length → p (Ints.el xs j) = true) : xs.all p = true := by
  rw [List.all_eq_true]
  intro x hx
  obtain ⟨i, hi, rfl⟩ := mem_el.1 hx
  exact h i hi
theorem all_el_no {p : Int → Bool} {xs : List Int} {j : Nat} (hj : j < xs.length) (h : p (Ints.el xs j) = false) : xs.all p = false := by
  rw [← Bool.not_eq_true]
  intro h2
  have := List.all_eq_true.1 h2 _ (mem_el.2 ⟨j, hj, rfl⟩)
  rw [h] at this; cases this
theorem all_ml {p : Int × Int → Bool} {xs : List (Int × Int)} (h : ∀ j, j < xs.length → p (ml xs j) = true) : xs.all p = true := by
  rw [List.all_eq_true]
  intro x hx
  obtain ⟨i, hi, rfl⟩ := List.getElem_of_mem hx
  rw [← ml_lt hi]; exact h i hi
theorem all_ml_no {p : Int × Int → Bool} {xs : List (Int × Int)} {j : Nat} (hj : j < xs.length) (h : p (ml xs j) = false) : xs.all p = false := by
  rw [← Bool.not_eq_true]
  intro h2
  have := List.all_eq_true.1 h2 (ml xs j) (by rw [ml_lt hj]; exact List.getElem_mem _)
  rw [h] at this; cases this
theorem froms_el (xs : List (Int × Int)) (j : Nat) : Ints.el (froms xs) j = (ml xs j).1 := by
  unfold Ints.el froms ml
  rw [List.getElem?_map]
  cases xs[j]? <;> rfl
theorem any_ml {sk : List Int} {xs : List (Int × Int)} (h : ∀ j, j < xs.length → decide ((ml xs j).1 ∈ sk) = false) : (froms xs).any (sk.contains ·) = false := by
  rw [← Bool.not_eq_true]
  intro h2
  obtain ⟨x, hx, hc⟩ := List.any_eq_true.1 h2
  obtain ⟨i, hi, rfl⟩ := mem_el.1 hx
  rw [froms_len] at hi
  rw [froms_el] at hc
  have := h i hi
  rw [decide_eq_false_iff_not] at this
  exact this (by simpa using hc)
theorem any_ml_yes {sk : List Int} {xs : List (Int × Int)} {j : Nat} (hj : j < xs.length) (h : decide ((ml xs j).1 ∈ sk) = true) : (froms xs).any (sk.contains ·) = true :=
  List.any_eq_true.2 ⟨(ml xs j).1, mem_el.2 ⟨j, by rw [froms_len]; exact hj, froms_el _ _⟩, by simpa using h⟩
set_option maxRecDepth 100000 in
set_option maxHeartbeats 8000000 in
theorem eventError_any (e : Ev) (vd vs vm : Value) (w : World) (hr : Rv w e vd vs vm) (hz : Size e) :
    Calls Tryz.prog 75 #[.agg (e.cells vd vs vm)] w fun r w' => r = .returned (.int .i64 (badE e : Nat)) ∧ Below w.heap.size w w' := by
  obtain ⟨a6, c6, rfl⟩ := hr.d.shape
  obtain ⟨a9, c9, rfl⟩ := hr.s.shape
  obtain ⟨a10, c10, rfl⟩ := hr.m.shape
  obtain ⟨q, hq⟩ : ∃ q, badE e = q := ⟨_, rfl⟩
  have hre := fun w' (h : Below w.heap.size w w') => ruleError_any e.ru _ w' (hr.d.below h) hz.ds
  have hnm := fun w' => isName_any e.id w' hz.id
  have hti := fun w' => isTitle_any e.ti w' hz.ti
  obtain ⟨q1, hq1⟩ : ∃ q, nameB e.id = q := ⟨_, rfl⟩
  obtain ⟨q2, hq2⟩ : ∃ q, titleB e.ti = q := ⟨_, rfl⟩
  obtain ⟨q3, hq3⟩ : ∃ q, rightB e.st = q := ⟨_, rfl⟩
  obtain ⟨q4, hq4⟩ : ∃ q, inB e.lg 1 60 = q := ⟨_, rfl⟩
  obtain ⟨q5, hq5⟩ : ∃ q, bad e.ru = q := ⟨_, rfl⟩
  have hst := fun w' => isDay_r e.st w'
  have hlg := fun w' => in_b e.lg 1 60 w'
  rw [hq1] at hnm
  rw [hq2] at hti
  rw [hq3] at hst
  rw [hq4] at hlg
  rw [hq5] at hre
  rw [hq]
  obtain ⟨W, hW⟩ : ∃ W, w.alloc (.cells (e.cells (.slice a6 e.ru.ds.length c6) (.slice a9 e.sk.length c9) (.slice a10 e.mv.length c10)) 40) = W := ⟨_, rfl⟩
  have hB : Below w.heap.size w W := by rw [← hW]; exact (Below.refl _ w).alloc (Nat.le_refl _) _
  have hx : W.heap[w.heap.size]? = some (.cells (e.cells (.slice a6 e.ru.ds.length c6) (.slice a9 e.sk.length c9) (.slice a10 e.mv.length c10)) 40) := by rw [← hW]; exact heap_new w _
  obtain ⟨n6, hn6⟩ : ∃ n, e.ru.ds.length = n := ⟨_, rfl⟩
  obtain ⟨n9, hn9⟩ : ∃ n, e.sk.length = n := ⟨_, rfl⟩
  obtain ⟨n10, hn10⟩ : ∃ n, e.mv.length = n := ⟨_, rfl⟩
  rw [hn6] at hre hx hW hr ⊢
  rw [hn9] at hx hW hr ⊢
  rw [hn10] at hx hW hr ⊢
  have HQ := Lib.hid hq
  have HQ1 := Lib.hid hq1
  have HQ2 := Lib.hid hq2
  have HQ34 := Lib.hid (show (rightB e.st && inB e.lg 1 60) = (q3 && q4) by rw [hq3, hq4])
  have HQ5 := Lib.hid hq5
  have HRE := Lib.hid hre
  have HNM := Lib.hid hnm
  have HTI := Lib.hid hti
  have HST := Lib.hid hst
  have HLG := Lib.hid hlg
  have HW := Lib.hid hW
  have HB := Lib.hid hB
  have HX := Lib.hid hx
  have HR := Lib.hid (hr.below hB)
  have HN9 := Lib.hid hn9
  have HN10 := Lib.hid hn10
  clear hr hz hq hq1 hq2 hq3 hq4 hq5 hre hnm hti hst hlg hW hB hx hn6 hn9 hn10
  go_enter Tryz.func75, Tryz.ntmps75
  obtain ⟨k0, k1, k2, k3, k4, k5, k6, k7, k8, k9, k10⟩ := cells11 HX.out
  go_upto_region 1 with fail
  rw [HW.out]
  go_wp2_with fail
  (with_reducible refine (HNM.out _).mono ?_)
  rintro e1 w1 ⟨rfl, rfl⟩
  cases q1 with
  | false =>
    go_wp2
    go_ret
    exact ⟨by rw [← HQ.out, badE_name HQ1.out]; rfl, HB.out⟩
  | true =>
  go_wp2_with fail
  (with_reducible refine (HTI.out _).mono ?_)
  rintro e1 w1 ⟨rfl, rfl⟩
  cases q2 with
  | false =>
    go_wp2
    go_ret
    exact ⟨by rw [← HQ.out, badE_text HQ1.out HQ2.out]; rfl, HB.out⟩
  | true =>
  go_wp2_with fail
  (with_reducible refine (HST.out _).mono ?_)
  rintro e1 w1 ⟨rfl, rfl⟩
  go_wp2_with fail
  (with_reducible refine (HLG.out _).mono ?_)
  rintro e1 w1 ⟨rfl, rfl⟩
  by_cases h34 : (q3 && q4) = true
  case neg =>
    have H34 := Lib.hid (show (q3 && q4) = false by simpa using h34)
    cases q3 with
    | false =>
      go_wp2
      go_ret
      exact ⟨by rw [← HQ.out, badE_bound HQ1.out HQ2.out (by rw [HQ34.out, H34.out])]; rfl, HB.out⟩
    | true =>
      obtain rfl : q4 = false := by simpa using h34
      go_wp2
      go_ret
      exact ⟨by rw [← HQ.out, badE_bound HQ1.out HQ2.out (by rw [HQ34.out, H34.out])]; rfl, HB.out⟩
  obtain ⟨rfl, rfl⟩ : q3 = true ∧ q4 = true := by simpa using h34
  clear h34
  go_wp2_with fail
  (with_reducible refine (HRE.out _ HB.out).mono ?_)
  rintro e1 w1 ⟨rfl, hb1⟩
  have HX1 := Lib.hid (row_below HX.out hb1)
  have HB1 := Lib.hid (HB.out.trans (hb1.mono HB.out.size))
  have HR1 := Lib.hid (HR.out.below hb1)
  clear hb1 k0 k1 k2 k3 k4 k5 k6 k7 k8 k9 k10
  cases q5 with
  | succ q5 =>
    go_wp2
    go_ret
    exact ⟨by rw [← HQ.out, badE_rule HQ1.out HQ2.out HQ34.out (by rw [HQ5.out]; omega), HQ5.out]; simp, HB1.out⟩
  | zero =>
  have HBL := Lib.hid (show badL e = q by rw [← HQ.out, badE_lists HQ1.out HQ2.out HQ34.out HQ5.out])
  clear HX HB HR HRE HNM HTI HST HLG HW HQ HQ1 HQ2 HQ34 HQ5
  obtain ⟨k0, k1, k2, k3, k4, k5, k6, k7, k8, k9, k10⟩ := cells11 HX1.out
  by_cases h9 : (20 : Int) < (n9 : Int)
  · go_wp2
    go_ret
    exact ⟨by rw [← HBL.out, badL_full (.inl (by rw [HN9.out]; omega))]; rfl, HB1.out⟩
  by_cases h10 : (20 : Int) < (n10 : Int)
  · go_wp2
    go_ret
    exact ⟨by rw [← HBL.out, badL_full (.inr (by rw [HN10.out]; omega))]; rfl, HB1.out⟩
  have HFU := Lib.hid (show ¬ (20 < e.sk.length ∨ 20 < e.mv.length) by rw [HN9.out, HN10.out]; omega)
  have hl9 : n9 ≤ 20 := by omega
  have hl10 : n10 ≤ 20 := by omega
  go_wp2_with fail
  clear k0 k1 k2 k3 k4 k5 k6 k7 k8 k9 k10 h9 h10
  go_loopw [8] (fun i wr => ∃ k : Nat, (k = 0 ∨ k < n9) ∧ i = .int .i64 ((k : Int) + 1) ∧ Below w1.heap.size w1 wr ∧ ∀ j, j < k → Ints.el e.sk j < Ints.el e.sk (j + 1)) (fun i _ => n9 + 1 - (intOf i).toNat)
  case atStart => exact ⟨0, Or.inl rfl, rfl, Below.refl _ _, fun _ h => absurd h (Nat.not_lt_zero _)⟩
  case round =>
  obtain ⟨k, hk, rfl, hbr, hs⟩ := hrel
  have HSo := Lib.hid hs
  have HX2 := Lib.hid (row_below HX1.out hbr)
  have HB2 := Lib.hid (HB1.out.trans (hbr.mono HB1.out.size))
  have HR2 := Lib.hid (HR1.out.below hbr)
  have HBR := Lib.hid hbr
  clear hs hbr
  obtain ⟨k0, k1, k2, k3, k4, k5, k6, k7, k8, k9, k10⟩ := cells11 HX2.out
  by_cases hlt : k + 1 < n9
  · obtain ⟨-, b, o, ha, hc⟩ := HR2.out.s.at (by intro h; have := HN9.out; rw [h] at this; simp at this; omega)
    subst ha
    have c1 := hc (k + 1) (by rw [HN9.out]; exact hlt)
    have c2 := hc k (by rw [HN9.out]; omega)
    have hi1 : (k : Int) + 1 < (n9 : Int) := by omega
    clear hc
    by_cases hq : Ints.el e.sk (k + 1) ≤ Ints.el e.sk k
    · have hb := decide_eq_true hq
      have HQ1 := Lib.hid hq
      clear hq
      go_wp2
      go_quiet (fail)
      go_wp2
      go_ret
      exact ⟨by rw [← HBL.out, badL_order HFU.out (by rw [rise_no (by rw [HN9.out]; exact hlt) HQ1.out, Bool.false_and])]; rfl, below_draw HB2.out _⟩
    · have hb := decide_eq_false hq
      have HQ1 := Lib.hid hq
      clear hq
      go_wp2
      go_quiet (fail)
      go_wp2
      go_roundw
      case rel => exact ⟨k + 1, Or.inr hlt, by go_num, below_draw HBR.out _, fun j hj => by
        by_cases ej : j = k
        · subst ej; have := HQ1.out; omega
        · exact HSo.out j (by omega)⟩
      case measure => simp [intOf]; omega
  have hi1 : (n9 : Int) ≤ (k : Int) + 1 := by omega
  have HRS := Lib.hid (rise_yes (show e.sk.length ≤ k + 1 by rw [HN9.out]; omega) HSo.out)
  obtain ⟨W2, hW2⟩ : ∃ W2, W2 = wr := ⟨_, rfl⟩
  subst hW2
  clear HSo HX1 HB1 HR1 HBR
  go_wp2_with fail
  clear k0 k1 k2 k3 k4 k5 k6 k7 k8 k9 k10 hlt hi1 hk
  go_loopw [9] (fun i w3 => ∃ k : Nat, (k = 0 ∨ k < n10) ∧ i = .int .i64 ((k : Int) + 1) ∧ Below W2.heap.size W2 w3 ∧ ∀ j, j < k → Ints.el (froms e.mv) j < Ints.el (froms e.mv) (j + 1)) (fun i _ => n10 + 1 - (intOf i).toNat)
  case atStart => exact ⟨0, Or.inl rfl, rfl, Below.refl _ _, fun _ h => absurd h (Nat.not_lt_zero _)⟩
  case round =>
  obtain ⟨k, hk, rfl, hbr, hs⟩ := hrel
  have HSo := Lib.hid hs
  have HX3 := Lib.hid (row_below HX2.out hbr)
  have HB3 := Lib.hid (HB2.out.trans (hbr.mono HB2.out.size))
  have HR3 := Lib.hid (HR2.out.below hbr)
  have HBR := Lib.hid hbr
  clear hs hbr
  obtain ⟨k0, k1, k2, k3, k4, k5, k6, k7, k8, k9, k10⟩ := cells11 HX3.out
  by_cases hlt : k + 1 < n10
  · obtain ⟨-, b, o, ha, hc⟩ := HR3.out.m.at (by intro h; have := HN10.out; rw [h] at this; simp at this; omega)
    subst ha
    have c1 := (hc (k + 1) (by rw [HN10.out]; exact hlt)).1
    have c2 := (hc k (by rw [HN10.out]; omega)).1
    rw [← froms_el] at c1 c2
    have hi1 : (k : Int) + 1 < (n10 : Int) := by omega
    have HFL := Lib.hid (show k + 1 < (froms e.mv).length by rw [froms_len, HN10.out]; exact hlt)
    obtain ⟨y1, hy1⟩ : ∃ y, Ints.el (froms e.mv) (k + 1) = y := ⟨_, rfl⟩
    obtain ⟨y0, hy0⟩ : ∃ y, Ints.el (froms e.mv) k = y := ⟨_, rfl⟩
    rw [hy1] at c1
    rw [hy0] at c2
    have HY1 := Lib.hid hy1
    have HY0 := Lib.hid hy0
    clear hc hy1 hy0
    by_cases hq : y1 ≤ y0
    · have hb := decide_eq_true hq
      have HQ1 := Lib.hid hq
      clear hq
      go_wp2
      go_quiet (fail)
      go_wp2
      go_ret
      exact ⟨by rw [← HBL.out, badL_order HFU.out (by rw [rise_no HFL.out (by rw [HY1.out, HY0.out]; exact HQ1.out), Bool.and_false])]; rfl, below_draw HB3.out _⟩
    · have hb := decide_eq_false hq
      have HQ1 := Lib.hid hq
      clear hq
      go_wp2
      go_quiet (fail)
      go_wp2
      go_roundw
      case rel => exact ⟨k + 1, Or.inr hlt, by go_num, below_draw HBR.out _, fun j hj => by
        by_cases ej : j = k
        · subst ej; have := HQ1.out; rw [HY1.out, HY0.out]; omega
        · exact HSo.out j (by omega)⟩
      case measure => simp [intOf]; omega
  have hi1 : (n10 : Int) ≤ (k : Int) + 1 := by omega
  have HRM := Lib.hid (show (riseB e.sk && riseB (froms e.mv)) = true by rw [HRS.out, rise_yes (show (froms e.mv).length ≤ k + 1 by rw [froms_len, HN10.out]; omega) HSo.out]; rfl)
  obtain ⟨W3, hW3⟩ : ∃ W3, W3 = wr := ⟨_, rfl⟩
  subst hW3
  clear HSo HX2 HB2 HR2 HBR HRS
  go_wp2_with fail
  clear k0 k1 k2 k3 k4 k5 k6 k7 k8 k9 k10 hlt hi1 hk
  go_loopw [10] (fun i w4 => ∃ k : Nat, k ≤ n9 ∧ i = .int .i64 (k : Int) ∧ w4 = W3 ∧ ∀ j, j < k → rightB (Ints.el e.sk j) = true) (fun i _ => n9 - (intOf i).toNat)
  case atStart => exact ⟨0, Nat.zero_le _, rfl, rfl, fun _ h => absurd h (Nat.not_lt_zero _)⟩
  case round =>
  obtain ⟨k, hk, rfl, rfl, hs⟩ := hrel
  have HSo := Lib.hid hs
  clear hs
  obtain ⟨k0, k1, k2, k3, k4, k5, k6, k7, k8, k9, k10⟩ := cells11 HX3.out
  by_cases hlt : k < n9
  · obtain ⟨-, b, o, ha, hc⟩ := HR3.out.s.at (by intro h; have := HN9.out; rw [h] at this; simp at this; omega)
    subst ha
    have c1 := hc k (by rw [HN9.out]; exact hlt)
    obtain ⟨y1, hy1⟩ : ∃ y, Ints.el e.sk k = y := ⟨_, rfl⟩
    rw [hy1] at c1
    have HY1 := Lib.hid hy1
    have hd := isDay_r y1
    obtain ⟨bb, hbb⟩ : ∃ bb, rightB y1 = bb := ⟨_, rfl⟩
    rw [hbb] at hd
    have HD := Lib.hid hd
    have HBBB := Lib.hid hbb
    clear hc hy1 hd hbb
    go_wp2_with fail
    (with_reducible refine (HD.out _).mono ?_)
    rintro e1 w5 ⟨rfl, rfl⟩
    cases bb with
    | false =>
      go_wp2
      go_ret
      exact ⟨by rw [← HBL.out, badL_bound HFU.out HRM.out (by rw [all_el_no (by rw [HN9.out]; exact hlt) (by rw [HY1.out]; exact HBBB.out), Bool.false_and])]; rfl, HB3.out⟩
    | true =>
      go_wp2
      go_roundw
      case rel => exact ⟨k + 1, by omega, by go_num, by trivial, fun j hj => by
        by_cases ej : j = k
        · subst ej; rw [HY1.out]; exact HBBB.out
        · exact HSo.out j (by omega)⟩
      case measure => simp [intOf]; omega
  obtain rfl : k = n9 := by omega
  have HAS := Lib.hid (show e.sk.all rightB = true from all_el (fun j hj => HSo.out j (by rw [← HN9.out]; exact hj)))
  clear HSo
  go_wp2_with fail
  clear k0 k1 k2 k3 k4 k5 k6 k7 k8 k9 k10 hlt hk
  go_loopw [12] (fun i w4 => ∃ j : Nat, j ≤ n10 ∧ i = .int .i64 (j : Int) ∧ w4 = wr ∧ ∀ t, t < j → (rightB (ml e.mv t).1 && rightB (ml e.mv t).2) = true) (fun i _ => n10 - (intOf i).toNat)
  case atStart => exact ⟨0, Nat.zero_le _, rfl, rfl, fun _ h => absurd h (Nat.not_lt_zero _)⟩
  case round =>
  obtain ⟨j, hj, rfl, rfl, hs⟩ := hrel
  have HSo := Lib.hid hs
  clear hs
  obtain ⟨k0, k1, k2, k3, k4, k5, k6, k7, k8, k9, k10⟩ := cells11 HX3.out
  by_cases hlt : j < n10
  · obtain ⟨-, b, o, ha, hc⟩ := HR3.out.m.at (by intro h; have := HN10.out; rw [h] at this; simp at this; omega)
    subst ha
    obtain ⟨c1, c2⟩ := hc j (by rw [HN10.out]; exact hlt)
    have hdj : ∀ p : Int × Int → Bool, p (ml e.mv j) = false → e.mv.all p = false := fun p h => all_ml_no (by rw [HN10.out]; exact hlt) h
    have HDJ := Lib.hid hdj
    obtain ⟨mm, hm⟩ : ∃ mm, ml e.mv j = mm := ⟨_, rfl⟩
    obtain ⟨m1, m2⟩ := mm
    rw [hm] at c1 c2
    simp only at c1 c2
    have HM := Lib.hid hm
    have hd1 := isDay_r m1
    have hd2 := isDay_r m2
    obtain ⟨b1, hb1⟩ : ∃ bb, rightB m1 = bb := ⟨_, rfl⟩
    obtain ⟨b2, hb2⟩ : ∃ bb, rightB m2 = bb := ⟨_, rfl⟩
    rw [hb1] at hd1
    rw [hb2] at hd2
    have HD1 := Lib.hid hd1
    have HD2 := Lib.hid hd2
    have HBB := Lib.hid (show (rightB m1 && rightB m2) = (b1 && b2) by rw [hb1, hb2])
    clear hc hm hd1 hd2 hb1 hb2 hdj
    go_wp2_with fail
    (with_reducible refine (HD1.out _).mono ?_)
    rintro e1 w5 ⟨rfl, rfl⟩
    go_wp2_with fail
    (with_reducible refine (HD2.out _).mono ?_)
    rintro e1 w5 ⟨rfl, rfl⟩
    by_cases h34 : (b1 && b2) = true
    case neg =>
      have H34 := Lib.hid (show (b1 && b2) = false by simpa using h34)
      have HF := Lib.hid (show badL e = 2 from badL_bound HFU.out HRM.out (by rw [HAS.out, Bool.true_and]; exact HDJ.out (fun m => rightB m.1 && rightB m.2) (by show (rightB (ml e.mv j).1 && rightB (ml e.mv j).2) = false; rw [HM.out]; exact HBB.out.trans H34.out)))
      cases b1 with
      | false =>
        go_wp2
        go_ret
        exact ⟨by rw [← HBL.out, HF.out]; rfl, HB3.out⟩
      | true =>
        obtain rfl : b2 = false := by simpa using h34
        go_wp2
        go_ret
        exact ⟨by rw [← HBL.out, HF.out]; rfl, HB3.out⟩
    obtain ⟨rfl, rfl⟩ : b1 = true ∧ b2 = true := by simpa using h34
    clear h34
    go_wp2
    go_roundw
    case rel => exact ⟨j + 1, by omega, by go_num, by trivial, fun t ht => by
      by_cases ej : t = j
      · subst ej; rw [HM.out]; exact HBB.out
      · exact HSo.out t (by omega)⟩
    case measure => simp [intOf]; omega
  obtain rfl : j = n10 := by omega
  have HAM := Lib.hid (show (e.sk.all rightB && e.mv.all fun m => rightB m.1 && rightB m.2) = true by rw [HAS.out, Bool.true_and]; exact all_ml (fun t ht => HSo.out t (by rw [← HN10.out]; exact ht)))
  obtain ⟨W5, hW5⟩ : ∃ W5, W5 = wr := ⟨_, rfl⟩
  subst hW5
  have hin := fun x W (h : Below W5.heap.size W5 W) => isIn_any x _ e.sk W (HR3.out.s.below h) (by have := HN9.out; omega)
  have HIN := Lib.hid hin
  clear HSo HAS hin
  go_wp2_with fail
  clear k0 k1 k2 k3 k4 k5 k6 k7 k8 k9 k10 hlt hj
  go_loopw [15] (fun i w6 => ∃ t : Nat, t ≤ j ∧ i = .int .i64 (t : Int) ∧ Below W5.heap.size W5 w6 ∧ ∀ s, s < t → decide ((ml e.mv s).1 ∈ e.sk) = false) (fun i _ => j - (intOf i).toNat)
  case atStart => exact ⟨0, Nat.zero_le _, rfl, Below.refl _ _, fun _ h => absurd h (Nat.not_lt_zero _)⟩
  case round =>
  obtain ⟨t, ht, rfl, hbr, hs⟩ := hrel
  have HSo := Lib.hid hs
  have HX5 := Lib.hid (row_below HX3.out hbr)
  have HB5 := Lib.hid (HB3.out.trans (hbr.mono HB3.out.size))
  have HR5 := Lib.hid (HR3.out.below hbr)
  have HBR := Lib.hid hbr
  clear hs hbr
  obtain ⟨k0, k1, k2, k3, k4, k5, k6, k7, k8, k9, k10⟩ := cells11 HX5.out
  by_cases hlt : t < j
  · obtain ⟨-, b, o, ha, hc⟩ := HR5.out.m.at (by intro h; have := HN10.out; rw [h] at this; simp at this; omega)
    subst ha
    have c1 := (hc t (by rw [HN10.out]; exact hlt)).1
    have hyes := any_ml_yes (sk := e.sk) (show t < e.mv.length by rw [HN10.out]; exact hlt)
    obtain ⟨m1, hm⟩ : ∃ m, (ml e.mv t).1 = m := ⟨_, rfl⟩
    rw [hm] at c1 hyes
    have HM := Lib.hid hm
    have hi := fun n => HIN.out m1 (wr.drewN n) (below_drewN HBR.out n)
    obtain ⟨bb, hbb⟩ : ∃ bb, decide (m1 ∈ e.sk) = bb := ⟨_, rfl⟩
    simp only [hbb] at hi
    rw [hbb] at hyes
    have HI := Lib.hid hi
    have HBBB := Lib.hid hbb
    have HY := Lib.hid hyes
    clear hc hm hi hbb hyes
    cases bb with
    | true =>
      go_wp2_with fail
      go_quiet ((go_at_call 120; exact Calls.quiet_of_same (HI.out _)))
      go_wp2
      go_ret
      exact ⟨by rw [← HBL.out, badL_exist HFU.out HRM.out HAM.out (HY.out trivial)]; rfl, below_draw HB5.out _⟩
    | false =>
      go_wp2_with fail
      go_quiet ((go_at_call 120; exact Calls.quiet_of_same (HI.out _)))
      go_wp2
      go_roundw
      case rel => exact ⟨t + 1, by omega, by go_num, below_draw HBR.out _, fun s hs => by
        by_cases ej : s = t
        · subst ej; rw [HM.out]; exact HBBB.out
        · exact HSo.out s (by omega)⟩
      case measure => simp [intOf]; omega
  obtain rfl : t = j := by omega
  have HNN := Lib.hid (badL_none HFU.out HRM.out HAM.out (any_ml (fun s hs => HSo.out s (by rw [← HN10.out]; exact hs))))
  clear HSo
  go_wp2
  go_ret
  exact ⟨by rw [← HBL.out, HNN.out]; rfl, HB5.out⟩
end Evt
end Go.Proofs.YtghkalamlcfnnaaGreatDoor
end
