/- Contracts of the reference's functions that write numbers and days. -/
import Derived.Test.YtkhkhbeolhhomaaGreatDoorRefDay
import Derived.Test.YtkhkhbeolhhomaaGreatDoorJ8
namespace Go.Proofs.YtkhkhbeolhhomaaGreatDoor
open Go.RowKit Lmd
namespace Ref
open Day

theorem dec_four (y : Nat) (h1 : 1000 ≤ y) (h2 : y ≤ 9999) : Lib.decDigits y = Cal.fourT y := by
  rw [← Lib.itoa_nonneg]; exact Cal.itoa_four y (by omega) (by omega)

set_option maxHeartbeats 400000 in
theorem pad_any (k : Int) (w : World) (h1 : 0 ≤ k) (h2 : k ≤ 99) :
    Calls Tryz.prog 183 #[.int .i64 k] w fun e w' => e = .returned (.string ⟨(Cal.twoT k).toArray⟩) ∧ Below w.heap.size w w' := by
  obtain ⟨n, rfl⟩ := Int.eq_ofNat_of_zero_le h1
  have hn : n < 100 := by omega
  have hl := dec_len n hn
  have HD := Lib.hid (decimal_any n (by omega) w)
  by_cases h : n < 10
  · have HE := Lib.hid (Cal.dec_one n h)
    go_enter Tryz.func183, Tryz.ntmps183
    go_wp2_with fail
    refine HD.out.mono ?_; rintro e w' ⟨rfl, hb⟩
    go_wp2
    go_ret
    exact ⟨by rw [← HE.out]; exact congrArg (fun s => Ending.returned (.string s)) (cat [48] _), hb⟩
  · have HE := Lib.hid (Cal.dec_two n (by omega) hn)
    go_enter Tryz.func183, Tryz.ntmps183
    go_wp2_with fail
    refine HD.out.mono ?_; rintro e w' ⟨rfl, hb⟩
    go_wp2
    go_ret
    exact ⟨by rw [← HE.out]; rfl, hb⟩

/-- a year's digits -/
theorem decimal_year (y : Int) (w : World) (h1 : 1000 ≤ y) (h2 : y ≤ 9999) :
    Calls Tryz.prog 128 #[.int .i64 y] w fun e w' => e = .returned (.string ⟨(Cal.fourT y).toArray⟩) ∧ Below w.heap.size w w' := by
  obtain ⟨n, rfl⟩ := Int.eq_ofNat_of_zero_le (show 0 ≤ y by omega)
  rw [← dec_four n (by omega) (by omega)]
  exact decimal_any n (by omega) w

set_option maxHeartbeats 800000 in
theorem dayText_at (n y m d : Int) (w : World) (h : Cal.At n y m d) :
    Calls Tryz.prog 127 #[.int .i64 n] w fun e w' => e = .returned (.string ⟨(Cal.text y m d).toArray⟩) ∧ Below w.heap.size w w' := by
  obtain ⟨a1, a2, a3, a4, a5, a6⟩ := Cal.ok_range h.1
  have nb := Cal.at_bd h
  have l0 : (Cal.fourT y).length ≤ 4 := Nat.le_refl _
  have l1 := twoT_len m
  have l2 := twoT_len d
  go_enter Tryz.func127, Tryz.ntmps127
  go_wp2_with fail
  refine (isDay_yes n _ nb).mono ?_; rintro e w' ⟨rfl, rfl⟩
  go_wp2_with fail
  refine (dateOf_at n y m d _ h).mono ?_; rintro e w' ⟨rfl, rfl⟩
  go_wp2_with fail
  refine (decimal_year y _ (by omega) (by omega)).mono ?_; rintro e w1 ⟨rfl, hb1⟩
  go_wp2_with fail
  refine (pad_any m _ (by omega) (by omega)).mono ?_; rintro e w2 ⟨rfl, hb2⟩
  go_wp2_with fail
  refine (pad_any d _ (by omega) (by omega)).mono ?_; rintro e w3 ⟨rfl, hb3⟩
  go_wp2
  go_ret
  have hb12 := hb1.trans (hb2.mono hb1.size)
  exact ⟨congrArg (fun s => Ending.returned (.string s)) (text_cat y m d), hb12.trans (hb3.mono hb12.size)⟩

set_option maxHeartbeats 400000 in
theorem dayText_no (n : Int) (w : World) (h : ¬ (0 ≤ n ∧ n ≤ 73048)) :
    Calls Tryz.prog 127 #[.int .i64 n] w fun e w' => e = .returned (.string ⟨#[]⟩) ∧ w = w' := by
  go_enter Tryz.func127, Tryz.ntmps127
  go_wp2_with fail
  refine (isDay_no n _ h).mono ?_; rintro e w' ⟨rfl, rfl⟩
  go_wp2
  go_ret
  exact ⟨rfl, rfl⟩
end Ref
end Go.Proofs.YtkhkhbeolhhomaaGreatDoor
