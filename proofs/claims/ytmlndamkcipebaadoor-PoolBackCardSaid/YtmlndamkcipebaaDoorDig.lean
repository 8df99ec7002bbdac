/- Plain facts on digits: two digits of a number, a date as text, a number read from digits. No program stands here. -/
import Derived.Test.YtmlndamkcipebaaDoorCal
import Derived.Lib.ItoaMem
import Derived.Lib.Atoi
namespace Lmd.Cal
open Go

/-- a digit's byte -/
def dg (k : Int) : UInt8 := UInt8.ofNat (48 + k.toNat)
def twoT (k : Int) : List UInt8 := [dg (k / 10), dg (k % 10)]
def fourT (y : Int) : List UInt8 := [dg (y / 1000), dg (y / 100 % 10), dg (y / 10 % 10), dg (y % 10)]
/-- a date as text -/
def text (y m d : Int) : List UInt8 := fourT y ++ 45 :: twoT m ++ 45 :: twoT d

theorem itoa_four (y : Int) (h1 : 1000 ≤ y) (h2 : y ≤ 9999) : Lib.itoa y = fourT y := by
  obtain ⟨n, rfl⟩ := Int.eq_ofNat_of_zero_le (show 0 ≤ y by omega)
  rw [Lib.itoa_nonneg]
  rw [Lib.decDigits, dif_neg (by omega), Lib.decDigits, dif_neg (by omega), Lib.decDigits, dif_neg (by omega), Lib.decDigits, dif_pos (by omega)]
  simp only [fourT, dg, List.cons_append, List.nil_append]
  have e1 : n / 10 / 10 / 10 = ((n : Int) / 1000).toNat := by omega
  have e2 : n / 10 / 10 % 10 = ((n : Int) / 100 % 10).toNat := by omega
  have e3 : n / 10 % 10 = ((n : Int) / 10 % 10).toNat := by omega
  have e4 : n % 10 = ((n : Int) % 10).toNat := by omega
  rw [e1, e2, e3, e4]
theorem dec_two (k : Nat) (h1 : 10 ≤ k) (h2 : k < 100) : Lib.decDigits k = twoT k := by
  rw [Lib.decDigits_two (by omega) h2]
  simp only [twoT, dg]
  congr 1
theorem dec_one (k : Nat) (h2 : k < 10) : 48 :: Lib.decDigits k = twoT k := by
  rw [Lib.decDigits_one h2]
  simp only [twoT, dg]
  congr 1
  · rw [show ((k : Int) / 10) = 0 from by omega]; rfl
  · congr 2; omega
theorem text_length (y m d : Int) : (text y m d).length = 10 := rfl

/-- is a byte a digit? -/
def isD (c : UInt8) : Bool := decide (48 ≤ c.toNat ∧ c.toNat ≤ 57)
def digs (l : List UInt8) : Bool := l.all isD
/-- a number of digits -/
def numV (l : List UInt8) : Int := l.foldl (fun n c => 10 * n + ((c.toNat : Int) - 48)) 0
/-- what the reading of digits gives -/
def numR (l : List UInt8) : Int := if digs l then numV l else 0
theorem numR_yes {l : List UInt8} (h : digs l = true) : numR l = numV l := by unfold numR; rw [if_pos h]
theorem numR_no {l : List UInt8} (h : digs l = false) : numR l = 0 := by unfold numR; rw [if_neg (by simp [h])]
theorem numV_snoc (l : List UInt8) (c : UInt8) : numV (l ++ [c]) = 10 * numV l + ((c.toNat : Int) - 48) := by
  simp [numV, List.foldl_append]
theorem digs_snoc (l : List UInt8) (c : UInt8) : digs (l ++ [c]) = (digs l && isD c) := by
  simp [digs, List.all_append]
theorem numV_bd : ∀ (k : Nat) (l : List UInt8), l.length = k → digs l = true → 0 ≤ numV l ∧ numV l < 10 ^ k := by
  intro k
  induction k with
  | zero => intro l h _; have : l = [] := List.length_eq_zero_iff.1 h; subst this; simp [numV]
  | succ k ih =>
    intro l h hd
    have hne : l ≠ [] := by intro e; subst e; simp at h
    obtain ⟨l', c, rfl⟩ : ∃ l' c, l = l' ++ [c] := ⟨l.dropLast, l.getLast hne, (List.dropLast_concat_getLast hne).symm⟩
    rw [digs_snoc] at hd
    simp only [Bool.and_eq_true] at hd
    obtain ⟨a, b⟩ := hd
    have := ih l' (by simpa using h) a
    unfold isD at b
    have b' := of_decide_eq_true b
    rw [numV_snoc]
    have e : (10 : Int) ^ (k + 1) = 10 * 10 ^ k := by rw [Int.pow_succ, Int.mul_comm]
    rw [e]
    generalize (10 : Int) ^ k = P at *
    omega
theorem numV_small (l : List UInt8) (h : l.length ≤ 10) (hd : digs l = true) : 0 ≤ numV l ∧ numV l ≤ 9999999999 := by
  have := numV_bd _ l rfl hd
  have hl : l.length = 0 ∨ l.length = 1 ∨ l.length = 2 ∨ l.length = 3 ∨ l.length = 4 ∨ l.length = 5 ∨ l.length = 6 ∨ l.length = 7 ∨ l.length = 8 ∨ l.length = 9 ∨ l.length = 10 := by omega
  rcases hl with e | e | e | e | e | e | e | e | e | e | e <;> rw [e] at this <;> omega
theorem dg_nat (k : Int) (h1 : 0 ≤ k) (h2 : k ≤ 9) : ((dg k).toNat : Int) = 48 + k := by
  unfold dg
  rw [UInt8.toNat_ofNat']
  omega
theorem dg_isD (k : Int) (h1 : 0 ≤ k) (h2 : k ≤ 9) : isD (dg k) = true := by
  have := dg_nat k h1 h2
  unfold isD; exact decide_eq_true (by omega)
theorem two_read (k : Int) (h1 : 0 ≤ k) (h2 : k ≤ 99) : digs (twoT k) = true ∧ numV (twoT k) = k := by
  have a := dg_nat (k / 10) (by omega) (by omega)
  have b := dg_nat (k % 10) (by omega) (by omega)
  refine ⟨by simp [digs, twoT, dg_isD (k / 10) (by omega) (by omega), dg_isD (k % 10) (by omega) (by omega)], ?_⟩
  simp only [numV, twoT, List.foldl]
  omega
theorem four_read (k : Int) (h1 : 0 ≤ k) (h2 : k ≤ 9999) : digs (fourT k) = true ∧ numV (fourT k) = k := by
  have a := dg_nat (k / 1000) (by omega) (by omega)
  have b := dg_nat (k / 100 % 10) (by omega) (by omega)
  have c := dg_nat (k / 10 % 10) (by omega) (by omega)
  have d := dg_nat (k % 10) (by omega) (by omega)
  refine ⟨by simp [digs, fourT, dg_isD (k / 1000) (by omega) (by omega), dg_isD (k / 100 % 10) (by omega) (by omega), dg_isD (k / 10 % 10) (by omega) (by omega), dg_isD (k % 10) (by omega) (by omega)], ?_⟩
  simp only [numV, fourT, List.foldl]
  omega
/-- has a text a date's shape? -/
def shapeB (l : List UInt8) : Bool := decide (l.length = 10) && decide (l[4]? = some 45) && decide (l[7]? = some 45) && digs (l.take 4) && digs ((l.drop 5).take 2) && digs (l.drop 8)
def yOf (l : List UInt8) : Int := numV (l.take 4)
def mOf (l : List UInt8) : Int := numV ((l.drop 5).take 2)
def dOf (l : List UInt8) : Int := numV (l.drop 8)
theorem text_shape (y m d : Int) (h1 : 0 ≤ y) (h2 : y ≤ 9999) (h3 : 0 ≤ m) (h4 : m ≤ 99) (h5 : 0 ≤ d) (h6 : d ≤ 99) :
    shapeB (text y m d) = true ∧ yOf (text y m d) = y ∧ mOf (text y m d) = m ∧ dOf (text y m d) = d := by
  have a := four_read y h1 h2
  have b := two_read m h3 h4
  have c := two_read d h5 h6
  have e1 : (text y m d).take 4 = fourT y := rfl
  have e2 : ((text y m d).drop 5).take 2 = twoT m := rfl
  have e3 : (text y m d).drop 8 = twoT d := rfl
  unfold shapeB yOf mOf dOf
  rw [e1, e2, e3, a.1, b.1, c.1, a.2, b.2, c.2]
  exact ⟨rfl, rfl, rfl, rfl⟩
end Lmd.Cal
