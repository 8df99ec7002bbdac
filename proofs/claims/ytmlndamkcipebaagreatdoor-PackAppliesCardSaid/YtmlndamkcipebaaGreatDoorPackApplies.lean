/- The walk of the law PackApplies. -/
import Derived.Test.YtmlndamkcipebaaGreatDoorCoded
import Derived.Test.YtmlndamkcipebaaGreatDoorRefUnpack
import Derived.Test.YtmlndamkcipebaaGreatDoorUnpack
namespace Go.Proofs.YtmlndamkcipebaaGreatDoor
open Go Go.RowKit Lmd
namespace Pk
open Rul Day Tp Cand Pl Rp Rf Cd

theorem apply_le (a d : List UInt8) : (apply a d).1 ≤ 2 := by
  unfold apply
  split
  · simp
  · split <;> simp
theorem freshC_le (xs : List (List UInt8)) (s : List UInt8) : freshC xs s ≤ 7 := by
  unfold freshC putC
  split
  · omega
  · split
    · omega
    · split <;> omega
theorem nextX_le (xs : List (List UInt8)) (l : List UInt8) : (nextX xs l).1 ≤ 7 := by
  cases l with
  | nil => simp [nextX]
  | cons x l =>
    by_cases h1 : x = 61
    · subst h1
      rw [nextX_61]
      split <;> simp
    · by_cases h2 : x = 126
      · subst h2
        rw [nextX_126]
        unfold viaX
        split
        · cases xs[(lenN 58 l).toNat]? with
          | none => simp
          | some a =>
            have := apply_le a (bodyX (lenR 58 l)).2.1
            simp only
            omega
        · simp
      · have e : nextX xs (x :: l) = (1, [], []) := by
          show (if x = 61 then _ else if x = 126 then _ else _) = _
          rw [if_neg h1, if_neg h2]
        rw [e]; simp
theorem unpT_le7 : ∀ (k : Nat) (xs : List (List UInt8)) (l : List UInt8), (unpT k xs l).1 ≤ 7
  | 0, xs, l => by simp [unpT]
  | k + 1, xs, l => by
    simp only [unpT]
    split
    · simp
    · split
      · exact nextX_le _ _
      · split
        · exact freshC_le _ _
        · exact unpT_le7 k _ _
theorem unpF_le (l : List UInt8) : (unpF [] l).1 ≤ 7 := unpT_le7 _ _ _

/-- what the law PackApplies stands on -/
structure AEnv (w : World) (e : Nat → Addr) (m : Int) : Prop where
  le : LEnv w e m
  es : Er.Errs w e
theorem AEnv.below {w w' : World} {e : Nat → Addr} {m : Int} (h : AEnv w e m) (hb : Below w.heap.size w w') : AEnv w' e m := ⟨h.le.below hb, h.es.below hb⟩
theorem AEnv.pe {w : World} {e : Nat → Addr} {m : Int} (h : AEnv w e m) : PEnv w e m := ⟨EP_of h.le.el, h.le.lib, h.le.tab, h.le.ml⟩
set_option maxRecDepth 100000 in
set_option maxHeartbeats 2000000 in
theorem packApplies_any (a d s : ByteArray) (e : Nat → Addr) (m0 : Int) (w : World) (h : AEnv w e m0) :
    Calls Tryz.prog 5 #[.string a, .string d, .string s] w fun e' w' => e' = .returned (.bool true) ∧ Below w.heap.size w w' := by
  obtain ⟨A, rfl⟩ : ∃ A, a = mk A := ⟨_, mk_self a⟩
  obtain ⟨D, rfl⟩ : ∃ D, d = mk D := ⟨_, mk_self d⟩
  obtain ⟨S, rfl⟩ : ∃ S, s = mk S := ⟨_, mk_self s⟩
  have z1 : (mk A).size = A.length := rfl
  have z2 : (mk D).size = D.length := rfl
  have z3 : (mk S).size = S.length := rfl
  have hp := packed_any e m0 w h.pe
  have HP := Lib.hid hp
  have HE := Lib.hid h
  clear hp h
  go_enter Tryz.func5, Tryz.ntmps5
  go_wp2_with fail
  (with_reducible refine HP.out.mono ?_)
  rintro e1 w1 ⟨rfl, hb1⟩
  have HB1 := Lib.hid hb1
  clear hb1 HP
  by_cases hA : 2000 < A.length
  · have hA1 : (2000 : Int) < (A.length : Int) := by omega
    clear hA
    go_wp2_with fail
    go_ret
    exact ⟨rfl, HB1.out⟩
  by_cases hD : 1000 < D.length
  · have hA1 : ¬ (2000 : Int) < (A.length : Int) := by omega
    have hD1 : (1000 : Int) < (D.length : Int) := by omega
    clear hA hD
    go_wp2_with fail
    go_ret
    exact ⟨rfl, HB1.out⟩
  by_cases hS : 2000 < S.length
  · have hA1 : ¬ (2000 : Int) < (A.length : Int) := by omega
    have hD1 : ¬ (1000 : Int) < (D.length : Int) := by omega
    have hS1 : (2000 : Int) < (S.length : Int) := by omega
    clear hA hD hS
    go_wp2_with fail
    go_ret
    exact ⟨rfl, HB1.out⟩
  have hA1 : ¬ (2000 : Int) < (A.length : Int) := by omega
  have hD1 : ¬ (1000 : Int) < (D.length : Int) := by omega
  have hS1 : ¬ (2000 : Int) < (S.length : Int) := by omega
  have h1 := HE.out.below HB1.out
  have hap := apply_any A D e m0 w1 (by omega) (by omega) h1.pe.ep h1.pe.lib h1.pe.tab h1.pe.ml
  unfold ApPost at hap
  have hrp := fun W => applyOf_any A D W (by omega) (by omega)
  unfold RApPost at hrp
  have hle := apply_le A D
  obtain ⟨T, hT⟩ : ∃ T, (apply A D).2 = T := ⟨_, rfl⟩
  obtain ⟨c, hc⟩ : ∃ c, (apply A D).1 = c := ⟨_, rfl⟩
  rw [hT, hc] at hap
  simp only [hT, hc] at hrp
  rw [hc] at hle
  have HAP := Lib.hid hap
  have HRP := Lib.hid hrp
  clear hap hrp hT hc h1 hA hD
  go_wp2_with fail
  (with_reducible refine HAP.out.mono ?_)
  rintro e2 w2 ⟨rfl, hb2⟩
  have HB2 := Lib.hid (HB1.out.trans (hb2.mono HB1.out.size))
  clear hb2 HAP
  go_wp2_with fail
  (with_reducible refine (HRP.out _).mono ?_)
  rintro e3 w3 ⟨rfl, hb3⟩
  have hB3 := HB2.out.trans (hb3.mono HB2.out.size)
  have HB3 := Lib.hid hB3
  have hcd := coded_any e c (by omega) w3 (HE.out.below hB3).es
  have HCD := Lib.hid hcd
  clear hb3 hB3 hcd HRP HB2 HB1
  go_wp2_with fail
  (with_reducible refine HCD.out.mono ?_)
  rintro e4 w4 ⟨rfl, hb4⟩
  have hB4 := HB3.out.trans (hb4.mono HB3.out.size)
  have HB4 := Lib.hid hB4
  have hun := unpack_any S e m0 w4 (by omega) (HE.out.below hB4).le
  have hru := fun W => unpackOf_any S W (by omega)
  unfold UnpPost at hun
  unfold RUnpPost at hru
  have hSb : ¬ 1048576 < S.length := by omega
  simp only [if_neg hSb] at hun hru
  have hule := unpF_le S
  obtain ⟨X, hX⟩ : ∃ X, unpF [] S = X := ⟨_, rfl⟩
  rw [hX] at hun hule
  simp only [hX] at hru
  obtain ⟨c2, xs⟩ := X
  simp only at hun hru hule
  clear hb4 hB4 HCD HB3 hSb hX hS
  cases c2 with
  | zero =>
    simp only [if_true] at hun hru
    have HUN := Lib.hid hun
    have HRU := Lib.hid hru
    clear hun hule hru
    go_wp2_with fail
    (with_reducible refine HUN.out.mono ?_)
    rintro e5 w5 ⟨p, v, m, rfl, hi, hb5⟩
    have HI := Lib.hid hi
    have HB5 := Lib.hid (HB4.out.trans (hb5.mono HB4.out.size))
    clear hi hb5 HUN
    go_wp2_with fail
    (with_reducible refine (HRU.out _).mono ?_)
    rintro e6 w6 ⟨p2, v2, rfl, hi6, hb6⟩
    have hB6 := HB5.out.trans (hb6.mono HB5.out.size)
    have HB6 := Lib.hid hB6
    have HI1 := Lib.hid (HI.out.below hb6)
    have HI2 := Lib.hid hi6
    clear hi6 hb6 hB6 HB5 HI HRU
    go_wp2_with fail
    obtain ⟨W6, hW6⟩ : ∃ W6, w6.alloc (.cells #[.int .i64 0, .int .i64 (-1)] 46) = W6 := ⟨_, rfl⟩
    have hb7 : Below w6.heap.size w6 W6 := by rw [← hW6]; exact (Below.refl _ w6).alloc (Nat.le_refl _) _
    have hB7 := HB6.out.trans (hb7.mono HB6.out.size)
    have ht := text_any W6 w4.heap.size p m v xs (HI1.out.below hb7) (HE.out.below hB7).le.tab
    have HI7 := Lib.hid (HI2.out.below hb7)
    have HB7 := Lib.hid hB7
    have HT := Lib.hid ht
    rw [hW6]
    clear hW6 hb7 hB7 ht
    (with_reducible refine HT.out.mono ?_)
    rintro e7 w7 ⟨rfl, hb7⟩
    have hrt := rtext_any w7 w5.heap.size p2 v2 xs (HI7.out.below hb7)
    have HRT := Lib.hid hrt
    have HB8 := Lib.hid (HB7.out.trans (hb7.mono HB7.out.size))
    clear hrt hb7 HT
    go_wp2_with fail
    (with_reducible refine HRT.out.mono ?_)
    rintro e8 w8 ⟨rfl, hb8⟩
    have HB9 := Lib.hid (HB8.out.trans (hb8.mono HB8.out.size))
    clear hb8 HRT
    go_wp2_with fail
    go_ret
    exact ⟨rfl, HB9.out⟩
  | succ k =>
    simp only [if_neg (Nat.succ_ne_zero k)] at hun hru
    have HUN := Lib.hid hun
    have HRU := Lib.hid hru
    clear hun hru
    go_wp2_with fail
    (with_reducible refine HUN.out.mono ?_)
    rintro e5 w5 ⟨f, rfl, hx5, hf5, hb5⟩
    have HX5 := Lib.hid hx5
    have HB5 := Lib.hid (HB4.out.trans (hb5.mono HB4.out.size))
    clear hx5 hf5 hb5 HUN
    go_wp2_with fail
    (with_reducible refine (HRU.out _).mono ?_)
    rintro e6 w6 ⟨rfl, hb6⟩
    have hB6 := HB5.out.trans (hb6.mono HB5.out.size)
    have HB6 := Lib.hid hB6
    have HX6 := Lib.hid (row_below' HX5.out hb6)
    clear hb6 hB6 HB5 HX5 HRU
    go_wp2_with fail
    obtain ⟨W6, hW6⟩ : ∃ W6, w6.alloc (.cells #[.int .i64 ((k : Int) + 1), .int .i64 (xs.length : Int)] 46) = W6 := ⟨_, rfl⟩
    have hb7 : Below w6.heap.size w6 W6 := by rw [← hW6]; exact (Below.refl _ w6).alloc (Nat.le_refl _) _
    have hB7 := HB6.out.trans (hb7.mono HB6.out.size)
    have hfa := faulted_at e k (by omega) f (xs.length : Int) W6 (HE.out.below hB7).es (row_below' HX6.out hb7)
    have hk2 : ((k + 1 : Nat) : Int) = (k : Int) + 1 := by omega
    rw [hk2] at hfa
    have HFA := Lib.hid hfa
    have HB7 := Lib.hid hB7
    rw [hW6]
    clear hW6 hb7 hB7 hfa hk2
    (with_reducible refine HFA.out.mono ?_)
    rintro e7 w7 ⟨rfl, hb7⟩
    have HB8 := Lib.hid (HB7.out.trans (hb7.mono HB7.out.size))
    clear hb7 HFA
    go_wp2_with fail
    go_ret
    exact ⟨rfl, HB8.out⟩
end Pk
end Go.Proofs.YtmlndamkcipebaaGreatDoor
