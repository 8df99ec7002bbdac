/- Contracts of the reference's functions that write numbers and days. -/
import Derived.Test.YtkgmojaecaghmaaDoorRefDay
import Derived.Laws.IdiomStrings
namespace Go.Proofs.YtkgmojaecaghmaaDoor
open Go.RowKit Lmd
namespace Ref
open Day

theorem conv_one (w : World) (c : UInt8) :
    (convert 115 9 (.slice (some ⟨w.heap.size, 0, none⟩) 1 1)).run Tryd.prog (w.alloc (.cells #[.int .u8 (c.toNat : Int)] 5)) = .ok (.string ⟨[c].toArray⟩) (w.alloc (.cells #[.int .u8 (c.toNat : Int)] 5)) :=
  run_convert_bytes_back _ 115 9 5 ⟨w.heap.size, 0, none⟩ 1 [c] Tryd.underlying115 Tryd.underlying5 Tryd.underlying9
    (fun j hj => by
      obtain rfl : j = 0 := by simpa using hj
      simp [Addr.add])

set_option maxRecDepth 100000 in
set_option maxHeartbeats 400000 in
theorem byte_any (c : UInt8) (w : World) :
    Calls Tryd.prog 97 #[.int .i64 (c.toNat : Int)] w fun e w' => e = .returned (.string ⟨[c].toArray⟩) ∧ Below w.heap.size w w' := by
  have h2 : (c.toNat : Int) ≤ 255 := by have := c.toNat_lt; omega
  have hc := conv_one w c
  go_enter Tryd.func97, Tryd.ntmps97
  go_wp2
  go_ret
  exact ⟨rfl, (Below.refl _ _).alloc (Nat.le_refl _) _⟩

theorem dec_len64 (u : Nat) (h : u ≤ 1000000000000000000) : (Lib.decDigits u).length ≤ 19 := by
  have key : ∀ (k u : Nat), u < 10 ^ (k + 1) → (Lib.decDigits u).length ≤ k + 1 := by
    intro k
    induction k with
    | zero => intro u hu; rw [Lib.decDigits_one (by simpa using hu)]; simp
    | succ k ih =>
      intro u hu
      by_cases h9 : u < 10
      · rw [Lib.decDigits_one h9]; simp
      · rw [Lib.decDigits, dif_neg h9, List.length_append]
        have := ih (u / 10) (by rw [Nat.pow_succ] at hu; omega)
        simp; omega
  exact key 18 u (by omega)
theorem tdiv_neg (n : Int) (h : n ≤ 0) : n.tdiv 10 = -((-n) / 10) := by
  rw [show n = -(-n) from by omega, Int.neg_tdiv, Int.tdiv_eq_ediv_of_nonneg (by omega)]; simp
theorem tmod_neg (n : Int) (h : n ≤ 0) : n.tmod 10 = -((-n) % 10) := by
  rw [show n = -(-n) from by omega, Int.neg_tmod, Int.tmod_eq_emod_of_nonneg (by omega)]; simp
theorem digit_is (k : Int) (h1 : 0 ≤ k) (h2 : k ≤ 9) : 48 + k = ((Cal.dg k).toNat : Int) := (Cal.dg_nat k h1 h2).symm

set_option maxRecDepth 100000 in
set_option maxHeartbeats 400000 in
theorem below_zero (u : Nat) (hu : u < 10) (w : World) :
    Calls Tryd.prog 84 #[.int .i64 (-(u : Int))] w fun e w' => e = .returned (.string ⟨(Lib.decDigits u).toArray⟩) ∧ Below w.heap.size w w' := by
  have hd := Lib.decDigits_one hu
  have hn : ((UInt8.ofNat (48 + u)).toNat : Int) = 48 + (u : Int) := by rw [UInt8.toNat_ofNat']; omega
  generalize UInt8.ofNat (48 + u) = c at *
  have hb := byte_any c w
  rw [hn] at hb
  clear hn
  rw [hd]
  have HB := Lib.hid hb
  clear hb hd
  go_enter Tryd.func84, Tryd.ntmps84
  go_wp2_with fail
  refine HB.out.mono ?_; rintro e w' ⟨rfl, hb⟩
  go_wp2
  go_ret
  exact ⟨rfl, hb⟩

set_option maxRecDepth 100000 in
set_option maxHeartbeats 400000 in
theorem below_step (u : Nat) (hu : 10 ≤ u) (hm : u ≤ 1000000000000000000) (w : World)
    (ih : ∀ w, Calls Tryd.prog 84 #[.int .i64 (-((u / 10 : Nat) : Int))] w fun e w' => e = .returned (.string ⟨(Lib.decDigits (u / 10)).toArray⟩) ∧ Below w.heap.size w w') :
    Calls Tryd.prog 84 #[.int .i64 (-(u : Int))] w fun e w' => e = .returned (.string ⟨(Lib.decDigits u).toArray⟩) ∧ Below w.heap.size w w' := by
  have hd : Lib.decDigits u = Lib.decDigits (u / 10) ++ [UInt8.ofNat (48 + u % 10)] := by rw [Lib.decDigits, dif_neg (by omega)]
  have hn : ((UInt8.ofNat (48 + u % 10)).toNat : Int) = 48 + (u : Int) % 10 := by rw [UInt8.toNat_ofNat']; omega
  generalize UInt8.ofNat (48 + u % 10) = c at *
  have hb := byte_any c
  rw [hn] at hb
  clear hn
  rw [hd]
  have HB := Lib.hid hb
  have IH := Lib.hid ih
  have hu' : ¬ -(u : Int) > -10 := by omega
  have hl := dec_len64 (u / 10) (by omega)
  clear hb hd ih
  go_enter Tryd.func84, Tryd.ntmps84
  go_wp2_with fail
  rw [show -((u : Int) / 10) = -((u / 10 : Nat) : Int) from by omega]
  refine (IH.out _).mono ?_; rintro e w1 ⟨rfl, hb1⟩
  go_wp2_with fail
  refine (HB.out _).mono ?_; rintro e w2 ⟨rfl, hb2⟩
  go_wp2
  go_ret
  exact ⟨congrArg (fun s => Ending.returned (.string s)) (cat _ [c]), hb1.trans (hb2.mono hb1.size)⟩

theorem below_any (u : Nat) (hm : u ≤ 1000000000000000000) : ∀ w, Calls Tryd.prog 84 #[.int .i64 (-(u : Int))] w fun e w' => e = .returned (.string ⟨(Lib.decDigits u).toArray⟩) ∧ Below w.heap.size w w' := by
  induction u using Nat.strongRecOn with
  | ind u ih =>
    intro w
    by_cases h : u < 10
    · exact below_zero u h w
    · exact below_step u (by omega) hm w (ih (u / 10) (by omega) (by omega))

set_option maxHeartbeats 400000 in
theorem decimal_any (u : Nat) (hm : u ≤ 1000000000000000000) (w : World) :
    Calls Tryd.prog 64 #[.int .i64 (u : Int)] w fun e w' => e = .returned (.string ⟨(Lib.decDigits u).toArray⟩) ∧ Below w.heap.size w w' := by
  have hb := below_any u hm w
  have HB := Lib.hid hb
  clear hb
  go_enter Tryd.func64, Tryd.ntmps64
  go_wp2_with fail
  refine HB.out.mono ?_; rintro e w' ⟨rfl, hb⟩
  go_wp2
  go_ret
  exact ⟨rfl, hb⟩

theorem dec_four (y : Nat) (h1 : 1000 ≤ y) (h2 : y ≤ 9999) : Lib.decDigits y = Cal.fourT y := by
  rw [← Lib.itoa_nonneg]; exact Cal.itoa_four y (by omega) (by omega)

set_option maxHeartbeats 400000 in
theorem pad_any (k : Int) (w : World) (h1 : 0 ≤ k) (h2 : k ≤ 99) :
    Calls Tryd.prog 65 #[.int .i64 k] w fun e w' => e = .returned (.string ⟨(Cal.twoT k).toArray⟩) ∧ Below w.heap.size w w' := by
  obtain ⟨n, rfl⟩ := Int.eq_ofNat_of_zero_le h1
  have hn : n < 100 := by omega
  have hl := dec_len n hn
  have HD := Lib.hid (decimal_any n (by omega) w)
  by_cases h : n < 10
  · have HE := Lib.hid (Cal.dec_one n h)
    go_enter Tryd.func65, Tryd.ntmps65
    go_wp2_with fail
    refine HD.out.mono ?_; rintro e w' ⟨rfl, hb⟩
    go_wp2
    go_ret
    exact ⟨by rw [← HE.out]; exact congrArg (fun s => Ending.returned (.string s)) (cat [48] _), hb⟩
  · have HE := Lib.hid (Cal.dec_two n (by omega) hn)
    go_enter Tryd.func65, Tryd.ntmps65
    go_wp2_with fail
    refine HD.out.mono ?_; rintro e w' ⟨rfl, hb⟩
    go_wp2
    go_ret
    exact ⟨by rw [← HE.out]; rfl, hb⟩

/-- a year's digits -/
theorem decimal_year (y : Int) (w : World) (h1 : 1000 ≤ y) (h2 : y ≤ 9999) :
    Calls Tryd.prog 64 #[.int .i64 y] w fun e w' => e = .returned (.string ⟨(Cal.fourT y).toArray⟩) ∧ Below w.heap.size w w' := by
  obtain ⟨n, rfl⟩ := Int.eq_ofNat_of_zero_le (show 0 ≤ y by omega)
  rw [← dec_four n (by omega) (by omega)]
  exact decimal_any n (by omega) w

set_option maxHeartbeats 800000 in
theorem dayText_at (n y m d : Int) (w : World) (h : Cal.At n y m d) :
    Calls Tryd.prog 38 #[.int .i64 n] w fun e w' => e = .returned (.string ⟨(Cal.text y m d).toArray⟩) ∧ Below w.heap.size w w' := by
  obtain ⟨a1, a2, a3, a4, a5, a6⟩ := Cal.ok_range h.1
  have nb := Cal.at_bd h
  have l0 : (Cal.fourT y).length ≤ 4 := Nat.le_refl _
  have l1 := twoT_len m
  have l2 := twoT_len d
  go_enter Tryd.func38, Tryd.ntmps38
  go_wp2_with fail
  refine (isDay_yes n _ nb).mono ?_; rintro e w' ⟨rfl, rfl⟩
  go_wp2_with fail
  refine (dateOf_at n y m d _ h).mono ?_; rintro e w' ⟨rfl, rfl⟩
  go_wp2_with fail
  refine (decimal_year y _ (by omega) (by omega)).mono ?_; rintro e w1 ⟨rfl, hb1⟩
  go_wp2_with fail
  refine (pad_any m _ (by omega) (by omega)).mono ?_; rintro e w2 ⟨rfl, hb2⟩
  go_wp2_with fail
  refine (pad_any d _ (by omega) (by omega)).mono ?_; rintro e w3 ⟨rfl, hb3⟩
  go_wp2
  go_ret
  have hb12 := hb1.trans (hb2.mono hb1.size)
  exact ⟨congrArg (fun s => Ending.returned (.string s)) (text_cat y m d), hb12.trans (hb3.mono hb12.size)⟩

set_option maxHeartbeats 400000 in
theorem dayText_no (n : Int) (w : World) (h : ¬ (0 ≤ n ∧ n ≤ 73048)) :
    Calls Tryd.prog 38 #[.int .i64 n] w fun e w' => e = .returned (.string ⟨#[]⟩) ∧ w = w' := by
  go_enter Tryd.func38, Tryd.ntmps38
  go_wp2_with fail
  refine (isDay_no n _ h).mono ?_; rintro e w' ⟨rfl, rfl⟩
  go_wp2
  go_ret
  exact ⟨rfl, rfl⟩
end Ref
end Go.Proofs.YtkgmojaecaghmaaDoor
