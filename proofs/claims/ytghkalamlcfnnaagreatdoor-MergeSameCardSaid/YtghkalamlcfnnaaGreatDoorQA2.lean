/- Dig, Day: texts joined. -/
import Derived.WalkKit
import Derived.Lib.ItoaMem
import Derived.Lib.Atoi
import Derived.Test.YtghkalamlcfnnaaGreatDoorRows
import Derived.WalkSpells
import Derived.WalkLawsBesides
import Derived.Lib.Hide
import Derived.Deep.QuietTactic
import Derived.BigQuiet
section
namespace Lmd.Cal
def lp (y : Int) : Bool := decide (y % 4 = 0 ∧ (y % 100 ≠ 0 ∨ y % 400 = 0))
def feb (y : Int) : Int := if lp y then 29 else 28
def dim (y m : Int) : Int := if m = 2 then feb y else if m = 4 ∨ m = 6 ∨ m = 9 ∨ m = 11 then 30 else 31
def mon (y m : Int) : Int := if y < 2000 ∨ 2199 < y ∨ m < 1 ∨ 12 < m then 0 else dim y m
def yrs (y : Int) : Int := if y = 2000 then 0 else 365 * (y - 2000) + (y - 2001) / 4 - (y - 2001) / 100 + (y - 2001) / 400 + 1
def cum (y m : Int) : Int :=
  if m ≤ 1 then 0 else if m = 2 then 31 else
  feb y + (if m = 3 then 31 else if m = 4 then 62 else if m = 5 then 92 else if m = 6 then 123 else if m = 7 then 153 else if m = 8 then 184 else if m = 9 then 215 else if m = 10 then 245 else if m = 11 then 276 else if m = 12 then 306 else 337)
def num (y m d : Int) : Int := yrs y + cum y m + d - 1
def Ok (y m d : Int) : Prop := 1 ≤ d ∧ d ≤ mon y m
def okB (y m d : Int) : Bool := decide (1 ≤ d ∧ d ≤ mon y m)
theorem okB_true {y m d : Int} (h : Ok y m d) : okB y m d = true := by unfold okB; exact decide_eq_true h
theorem okB_false {y m d : Int} (h : ¬ Ok y m d) : okB y m d = false := by unfold okB; exact decide_eq_false h
theorem feb_cases (y : Int) : (lp y = true ∧ feb y = 29) ∨ (lp y = false ∧ feb y = 28) := by
  unfold feb; cases lp y <;> simp
theorem feb_bd (y : Int) : 28 ≤ feb y ∧ feb y ≤ 29 := by rcases feb_cases y with ⟨_, h⟩ | ⟨_, h⟩ <;> omega
theorem dim_bd (y m : Int) : 28 ≤ dim y m ∧ dim y m ≤ 31 := by
  have := feb_bd y; unfold dim; split <;> (try split) <;> omega
theorem mon_bd (y m : Int) : 0 ≤ mon y m ∧ mon y m ≤ 31 := by
  have := dim_bd y m; unfold mon; split <;> omega
theorem mon_in {y m : Int} (a : 2000 ≤ y) (b : y ≤ 2199) (c : 1 ≤ m) (d : m ≤ 12) : mon y m = dim y m := by
  unfold mon; rw [if_neg (by omega)]
theorem mon_out {y m : Int} (a : y < 2000 ∨ 2199 < y ∨ m < 1 ∨ 12 < m) : mon y m = 0 := by
  unfold mon; rw [if_pos a]
theorem ok_range {y m d : Int} (h : Ok y m d) : 2000 ≤ y ∧ y ≤ 2199 ∧ 1 ≤ m ∧ m ≤ 12 ∧ 1 ≤ d ∧ d ≤ 31 := by
  obtain ⟨h1, h2⟩ := h
  have hb := mon_bd y m
  by_cases hh : y < 2000 ∨ 2199 < y ∨ m < 1 ∨ 12 < m
  · rw [mon_out hh] at h2; omega
  · omega
theorem yrs_succ (y : Int) (h : 2000 ≤ y) : yrs (y + 1) = yrs y + 337 + feb y := by
  have hf := feb_cases y
  unfold lp at hf
  simp only [decide_eq_true_eq, decide_eq_false_iff_not] at hf
  unfold yrs
  by_cases e : y = 2000
  · subst e; simp; rcases hf with ⟨_, h⟩ | ⟨h, _⟩ <;> omega
  · rw [if_neg (by omega), if_neg e]; omega
theorem yrs_mono {a b : Int} (h0 : 2000 ≤ a) (h : a ≤ b) : yrs a ≤ yrs b := by
  unfold yrs; split <;> split <;> omega
theorem yrs_bd {y : Int} (h0 : 2000 ≤ y) (h : y ≤ 2199) : 0 ≤ yrs y ∧ yrs y ≤ 72684 := by
  unfold yrs; split <;> omega
theorem yrs_last : yrs 2200 = 73049 := by decide
theorem cum_one (y : Int) : cum y 1 = 0 := by simp [cum]
theorem cum_succ (y m : Int) (h1 : 1 ≤ m) (h2 : m ≤ 12) : cum y (m + 1) = cum y m + dim y m := by
  have : m = 1 ∨ m = 2 ∨ m = 3 ∨ m = 4 ∨ m = 5 ∨ m = 6 ∨ m = 7 ∨ m = 8 ∨ m = 9 ∨ m = 10 ∨ m = 11 ∨ m = 12 := by omega
  rcases this with rfl | rfl | rfl | rfl | rfl | rfl | rfl | rfl | rfl | rfl | rfl | rfl <;> simp [cum, dim] <;> omega
theorem cum_last (y : Int) : cum y 13 = 337 + feb y := by simp [cum]; omega
theorem cum_bd (y m : Int) (h1 : 1 ≤ m) (h2 : m ≤ 13) : 0 ≤ cum y m ∧ cum y m ≤ 366 := by
  have := feb_bd y
  have : m = 1 ∨ m = 2 ∨ m = 3 ∨ m = 4 ∨ m = 5 ∨ m = 6 ∨ m = 7 ∨ m = 8 ∨ m = 9 ∨ m = 10 ∨ m = 11 ∨ m = 12 ∨ m = 13 := by omega
  rcases this with rfl | rfl | rfl | rfl | rfl | rfl | rfl | rfl | rfl | rfl | rfl | rfl | rfl <;> simp [cum] <;> omega
theorem cum_mono (y a b : Int) (h1 : 1 ≤ a) (h2 : a ≤ b) (h3 : b ≤ 13) : cum y a ≤ cum y b := by
  obtain ⟨k, rfl⟩ : ∃ k : Nat, b = a + k := ⟨(b - a).toNat, by omega⟩
  clear h2
  induction k with
  | zero => simp
  | succ k ih =>
    have i := ih (by omega)
    have s := cum_succ y (a + k) (by omega) (by omega)
    have := dim_bd y (a + k)
    rw [show a + ((k + 1 : Nat) : Int) = a + (k : Int) + 1 from by omega]
    omega
theorem num_bd {y m d : Int} (h : Ok y m d) : 0 ≤ num y m d ∧ num y m d ≤ 73048 := by
  obtain ⟨a, b, c, e, f, g⟩ := ok_range h
  have h2 := h.2
  rw [mon_in a b c e] at h2
  have hc := cum_bd y m c (by omega)
  have hs := cum_succ y m c e
  have hm := cum_mono y (m + 1) 13 (by omega) (by omega) (by omega)
  have hl := cum_last y
  have hy := yrs_succ y a
  have hyb := yrs_bd a b
  have hy2 := yrs_mono (a := y + 1) (b := 2200) (by omega) (by omega)
  rw [yrs_last] at hy2
  unfold num; omega
theorem num_inj {y m d y' m' d' : Int} (h : Ok y m d) (h' : Ok y' m' d') (e : num y m d = num y' m' d') : y = y' ∧ m = m' ∧ d = d' := by
  obtain ⟨a, b, c, f, g, _⟩ := ok_range h
  obtain ⟨a', b', c', f', g', _⟩ := ok_range h'
  have h2 := h.2
  have h2' := h'.2
  rw [mon_in a b c f] at h2
  rw [mon_in a' b' c' f'] at h2'
  have hc := cum_bd y m c (by omega)
  have hc' := cum_bd y' m' c' (by omega)
  have hs := cum_succ y m c f
  have hs' := cum_succ y' m' c' f'
  have hm := cum_mono y (m + 1) 13 (by omega) (by omega) (by omega)
  have hm' := cum_mono y' (m' + 1) 13 (by omega) (by omega) (by omega)
  have hl := cum_last y
  have hl' := cum_last y'
  have hy := yrs_succ y a
  have hy' := yrs_succ y' a'
  unfold num at e
  have ey : y = y' := by
    rcases Int.lt_trichotomy y y' with l | l | l
    · have := yrs_mono (a := y + 1) (b := y') (by omega) (by omega); omega
    · exact l
    · have := yrs_mono (a := y' + 1) (b := y) (by omega) (by omega); omega
  subst ey
  have em : m = m' := by
    rcases Int.lt_trichotomy m m' with l | l | l
    · have := cum_mono y (m + 1) m' (by omega) (by omega) (by omega); omega
    · exact l
    · have := cum_mono y (m' + 1) m (by omega) (by omega) (by omega); omega
  subst em
  exact ⟨rfl, rfl, by omega⟩
def At (n y m d : Int) : Prop := Ok y m d ∧ num y m d = n
def nxt (y m d : Int) : Int × Int × Int := if d < mon y m then (y, m, d + 1) else if m < 12 then (y, m + 1, 1) else (y + 1, 1, 1)
theorem nxt_at {n y m d : Int} (h : At n y m d) (hn : n < 73048) : At (n + 1) (nxt y m d).1 (nxt y m d).2.1 (nxt y m d).2.2 := by
  obtain ⟨ho, rfl⟩ := h
  obtain ⟨a, b, c, e, f, g⟩ := ok_range ho
  have h2 := ho.2
  have hmi := mon_in a b c e
  have hs := cum_succ y m c e
  unfold nxt
  by_cases h1 : d < mon y m
  · rw [if_pos h1]
    exact ⟨⟨by simp only; omega, by simp only; omega⟩, by unfold num; simp only; omega⟩
  · rw [if_neg h1]
    by_cases h3 : m < 12
    · rw [if_pos h3]
      have hmi' := mon_in a b (m := m + 1) (by omega) (by omega)
      have := dim_bd y (m + 1)
      exact ⟨⟨by simp, by simp only; omega⟩, by unfold num; simp only; omega⟩
    · rw [if_neg h3]
      obtain rfl : m = 12 := by omega
      have hl := cum_last y
      rw [show (12 : Int) + 1 = 13 from rfl] at hs
      have hy := yrs_succ y a
      have hc1 := cum_one (y + 1)
      have hy1 : y + 1 ≤ 2199 := by
        by_cases e' : y = 2199
        · subst e'
          have h0 := yrs_last
          rw [show (2199 : Int) + 1 = 2200 from rfl] at hy
          unfold num at hn; omega
        · omega
      have hmi' := mon_in (y := y + 1) (m := 1) (by omega) hy1 (by omega) (by omega)
      have := dim_bd (y + 1) 1
      exact ⟨⟨by simp, by simp only; omega⟩, by unfold num; simp only; omega⟩
theorem at_exists (n : Int) (h0 : 0 ≤ n) (h1 : n ≤ 73048) : ∃ y m d, At n y m d := by
  obtain ⟨k, rfl⟩ := Int.eq_ofNat_of_zero_le h0
  clear h0
  induction k with
  | zero => exact ⟨2000, 1, 1, by unfold At Ok; decide⟩
  | succ k ih =>
    obtain ⟨y, m, d, h⟩ := ih (by omega)
    have := nxt_at h (by omega)
    exact ⟨_, _, _, by rw [show ((k + 1 : Nat) : Int) = (k : Int) + 1 from by omega]; exact this⟩
theorem at_unique {n y m d y' m' d' : Int} (h : At n y m d) (h' : At n y' m' d') : y = y' ∧ m = m' ∧ d = d' :=
  num_inj h.1 h'.1 (by rw [h.2, h'.2])
theorem at_bd {n y m d : Int} (h : At n y m d) : 0 ≤ n ∧ n ≤ 73048 := by
  have := num_bd h.1; rw [h.2] at this; exact this
end Lmd.Cal
namespace Lmd.Cal
open Go
def dg (k : Int) : UInt8 := UInt8.ofNat (48 + k.toNat)
def twoT (k : Int) : List UInt8 := [dg (k / 10), dg (k % 10)]
def fourT (y : Int) : List UInt8 := [dg (y / 1000), dg (y / 100 % 10), dg (y / 10 % 10), dg (y % 10)]
def text (y m d : Int) : List UInt8 := fourT y ++ 45 :: twoT m ++ 45 :: twoT d
theorem itoa_four (y : Int) (h1 : 1000 ≤ y) (h2 : y ≤ 9999) : Lib.itoa y = fourT y := by
  obtain ⟨n, rfl⟩ := Int.eq_ofNat_of_zero_le (show 0 ≤ y by omega)
  rw [Lib.itoa_nonneg]
  rw [Lib.decDigits, dif_neg (by omega), Lib.decDigits, dif_neg (by omega), Lib.decDigits, dif_neg (by omega), Lib.decDigits, dif_pos (by omega)]
  simp only [fourT, dg, List.cons_append, List.nil_append]
  have e1 : n / 10 / 10 / 10 = ((n : Int) / 1000).toNat := by omega
  have e2 : n / 10 / 10 % 10 = ((n : Int) / 100 % 10).toNat := by omega
  have e3 : n / 10 % 10 = ((n : Int) / 10 % 10).toNat := by omega
  have e4 : n % 10 = ((n : Int) % 10).toNat := by omega
  rw [e1, e2, e3, e4]
theorem dec_two (k : Nat) (h1 : 10 ≤ k) (h2 : k < 100) : Lib.decDigits k = twoT k := by
  rw [Lib.decDigits_two (by omega) h2]
  simp only [twoT, dg]
  congr 1
theorem dec_one (k : Nat) (h2 : k < 10) : 48 :: Lib.decDigits k = twoT k := by
  rw [Lib.decDigits_one h2]
  simp only [twoT, dg]
  congr 1
  · rw [show ((k : Int) / 10) = 0 from by omega]; rfl
  · congr 2; omega
theorem text_length (y m d : Int) : (text y m d).length = 10 := rfl
def isD (c : UInt8) : Bool := decide (48 ≤ c.toNat ∧ c.toNat ≤ 57)
def digs (l : List UInt8) : Bool := l.all isD
def numV (l : List UInt8) : Int := l.foldl (fun n c => 10 * n + ((c.toNat : Int) - 48)) 0
def numR (l : List UInt8) : Int := if digs l then numV l else 0
theorem numR_yes {l : List UInt8} (h : digs l = true) : numR l = numV l := by unfold numR; rw [if_pos h]
theorem numR_no {l : List UInt8} (h : digs l = false) : numR l = 0 := by unfold numR; rw [if_neg (by simp [h])]
theorem numV_snoc (l : List UInt8) (c : UInt8) : numV (l ++ [c]) = 10 * numV l + ((c.toNat : Int) - 48) := by
  simp [numV, List.foldl_append]
theorem digs_snoc (l : List UInt8) (c : UInt8) : digs (l ++ [c]) = (digs l && isD c) := by
  simp [digs, List.all_append]
theorem numV_bd : ∀ (k : Nat) (l : List UInt8), l.length = k → digs l = true → 0 ≤ numV l ∧ numV l < 10 ^ k := by
  intro k
  induction k with
  | zero => intro l h _; have : l = [] := List.length_eq_zero_iff.1 h; subst this; simp [numV]
  | succ k ih =>
    intro l h hd
    have hne : l ≠ [] := by intro e; subst e; simp at h
    obtain ⟨l', c, rfl⟩ : ∃ l' c, l = l' ++ [c] := ⟨l.dropLast, l.getLast hne, (List.dropLast_concat_getLast hne).symm⟩
    rw [digs_snoc] at hd
    simp only [Bool.and_eq_true] at hd
    obtain ⟨a, b⟩ := hd
    have := ih l' (by simpa using h) a
    unfold isD at b
    have b' := of_decide_eq_true b
    rw [numV_snoc]
    have e : (10 : Int) ^ (k + 1) = 10 * 10 ^ k := by rw [Int.pow_succ, Int.mul_comm]
    rw [e]
    generalize (10 : Int) ^ k = P at *
    omega
theorem numV_small (l : List UInt8) (h : l.length ≤ 10) (hd : digs l = true) : 0 ≤ numV l ∧ numV l ≤ 9999999999 := by
  have := numV_bd _ l rfl hd
  have hl : l.length = 0 ∨ l.length = 1 ∨ l.length = 2 ∨ l.length = 3 ∨ l.length = 4 ∨ l.length = 5 ∨ l.length = 6 ∨ l.length = 7 ∨ l.length = 8 ∨ l.length = 9 ∨ l.length = 10 := by omega
  rcases hl with e | e | e | e | e | e | e | e | e | e | e <;> rw [e] at this <;> omega
theorem dg_nat (k : Int) (h1 : 0 ≤ k) (h2 : k ≤ 9) : ((dg k).toNat : Int) = 48 + k := by
  unfold dg
  rw [UInt8.toNat_ofNat']
  omega
theorem dg_isD (k : Int) (h1 : 0 ≤ k) (h2 : k ≤ 9) : isD (dg k) = true := by
  have := dg_nat k h1 h2
  unfold isD; exact decide_eq_true (by omega)
theorem two_read (k : Int) (h1 : 0 ≤ k) (h2 : k ≤ 99) : digs (twoT k) = true ∧ numV (twoT k) = k := by
  have a := dg_nat (k / 10) (by omega) (by omega)
  have b := dg_nat (k % 10) (by omega) (by omega)
  refine ⟨by simp [digs, twoT, dg_isD (k / 10) (by omega) (by omega), dg_isD (k % 10) (by omega) (by omega)], ?_⟩
  simp only [numV, twoT, List.foldl]
  omega
theorem four_read (k : Int) (h1 : 0 ≤ k) (h2 : k ≤ 9999) : digs (fourT k) = true ∧ numV (fourT k) = k := by
  have a := dg_nat (k / 1000) (by omega) (by omega)
  have b := dg_nat (k / 100 % 10) (by omega) (by omega)
  have c := dg_nat (k / 10 % 10) (by omega) (by omega)
  have d := dg_nat (k % 10) (by omega) (by omega)
  refine ⟨by simp [digs, fourT, dg_isD (k / 1000) (by omega) (by omega), dg_isD (k / 100 % 10) (by omega) (by omega), dg_isD (k / 10 % 10) (by omega) (by omega), dg_isD (k % 10) (by omega) (by omega)], ?_⟩
  simp only [numV, fourT, List.foldl]
  omega
def shapeB (l : List UInt8) : Bool := decide (l.length = 10) && decide (l[4]? = some 45) && decide (l[7]? = some 45) && digs (l.take 4) && digs ((l.drop 5).take 2) && digs (l.drop 8)
def yOf (l : List UInt8) : Int := numV (l.take 4)
def mOf (l : List UInt8) : Int := numV ((l.drop 5).take 2)
def dOf (l : List UInt8) : Int := numV (l.drop 8)
theorem text_shape (y m d : Int) (h1 : 0 ≤ y) (h2 : y ≤ 9999) (h3 : 0 ≤ m) (h4 : m ≤ 99) (h5 : 0 ≤ d) (h6 : d ≤ 99) :
    shapeB (text y m d) = true ∧ yOf (text y m d) = y ∧ mOf (text y m d) = m ∧ dOf (text y m d) = d := by
  have a := four_read y h1 h2
  have b := two_read m h3 h4
  have c := two_read d h5 h6
  have e1 : (text y m d).take 4 = fourT y := rfl
  have e2 : ((text y m d).drop 5).take 2 = twoT m := rfl
  have e3 : (text y m d).drop 8 = twoT d := rfl
  unfold shapeB yOf mOf dOf
  rw [e1, e2, e3, a.1, b.1, c.1, a.2, b.2, c.2]
  exact ⟨rfl, rfl, rfl, rfl⟩
end Lmd.Cal
end
section
namespace Go.Proofs.YtghkalamlcfnnaaGreatDoor
open Go.RowKit Lmd
namespace Day
theorem ret_int {k : IntKind} {a b : Int} (h : a = b) : Ending.returned (.int k a) = .returned (.int k b) := by rw [h]
theorem ret2 {a b c d : Value} (h : a = c) (k : b = d) : Ending.returned (.tuple #[a, b]) = .returned (.tuple #[c, d]) := by rw [h, k]
theorem ret_bool {a b : Bool} (h : a = b) : Ending.returned (.bool a) = .returned (.bool b) := by rw [h]
set_option maxHeartbeats 400000 in
theorem leap_any (y : Int) (w : World) (h1 : 2000 ≤ y) (h2 : y ≤ 2199) :
    Calls Tryz.prog 272 #[.int .i64 y] w fun e w' => e = .returned (.bool (Cal.lp y)) ∧ w = w' := by
  go_enter Tryz.func272, Tryz.ntmps272
  go_wp2
  all_goals go_ret
  all_goals exact ⟨ret_bool (by rw [Bool.eq_iff_iff]; simp [Cal.lp]; omega), rfl⟩
set_option maxHeartbeats 800000 in
theorem months_in (y m : Int) (w : World) (h1 : 2000 ≤ y) (h2 : y ≤ 2199) (h3 : 1 ≤ m) (h4 : m ≤ 12) :
    Calls Tryz.prog 247 #[.int .i64 y, .int .i64 m] w fun e w' => e = .returned (.int .i64 (Cal.mon y m)) ∧ w = w' := by
  rw [Cal.mon_in h1 h2 h3 h4]
  go_enter Tryz.func247, Tryz.ntmps247
  go_wp2_with (go_at_call 272; refine (leap_any _ _ h1 h2).mono ?_; rintro e w' ⟨rfl, rfl⟩)
  all_goals go_ret
  all_goals exact ⟨ret_int (by unfold Cal.dim Cal.feb; simp_all), rfl⟩
set_option maxHeartbeats 400000 in
theorem months_out (y m : Int) (w : World) (h : y < 2000 ∨ 2199 < y ∨ m < 1 ∨ 12 < m) :
    Calls Tryz.prog 247 #[.int .i64 y, .int .i64 m] w fun e w' => e = .returned (.int .i64 (Cal.mon y m)) ∧ w = w' := by
  rw [Cal.mon_out h]
  rcases h with h | h | h | h
  all_goals
    go_enter Tryz.func247, Tryz.ntmps247
    go_wp2_with fail
    all_goals go_ret
    all_goals exact ⟨rfl, rfl⟩
theorem months_any (y m : Int) (w : World) :
    Calls Tryz.prog 247 #[.int .i64 y, .int .i64 m] w fun e w' => e = .returned (.int .i64 (Cal.mon y m)) ∧ w = w' := by
  by_cases h : y < 2000 ∨ 2199 < y ∨ m < 1 ∨ 12 < m
  · exact months_out y m w h
  · exact months_in y m w (by omega) (by omega) (by omega) (by omega)
set_option maxHeartbeats 400000 in
theorem years_any (y : Int) (w : World) (h1 : 2000 ≤ y) (h2 : y ≤ 2200) :
    Calls Tryz.prog 246 #[.int .i64 y] w fun e w' => e = .returned (.int .i64 (Cal.yrs y)) ∧ w = w' := by
  by_cases e : y = 2000
  · subst e
    go_enter Tryz.func246, Tryz.ntmps246
    go_wp2
    go_ret
    exact ⟨rfl, rfl⟩
  · have e0 : (y - 2000 == 0) = false := by rw [beq_eq_false_iff_ne]; omega
    have hy : Cal.yrs y = 365 * (y - 2000) + (y - 2001) / 4 - (y - 2001) / 100 + (y - 2001) / 400 + 1 := by unfold Cal.yrs; rw [if_neg e]
    have HY := Lib.hid hy
    clear hy
    go_enter Tryz.func246, Tryz.ntmps246
    go_wp2
    go_ret
    exact ⟨ret_int (by rw [HY.out]; omega), rfl⟩
set_option maxHeartbeats 800000 in
theorem make_ok (y m d : Int) (w : World) (h : Cal.Ok y m d) :
    Calls Tryz.prog 230 #[.int .i64 y, .int .i64 m, .int .i64 d] w fun e w' => e = .returned (.tuple #[.int .i64 (Cal.num y m d), .nilIface]) ∧ w = w' := by
  obtain ⟨a1, a2, a3, a4, a5, a6⟩ := Cal.ok_range h
  have hm := h.2
  have hl : ¬ Cal.mon y m < d := by omega
  have hy := Cal.yrs_bd a1 a2
  have hc0 := Cal.cum_one y
  have HM : Hid (Cal.mon y m = Cal.dim y m) := Cal.mon_in a1 a2 a3 a4
  go_enter Tryz.func230, Tryz.ntmps230
  go_wp2_with (first | (go_at_call 247; refine (months_any _ _ _).mono ?_; rintro e w' ⟨rfl, rfl⟩) | (go_at_call 246; refine (years_any _ _ a1 (by omega)).mono ?_; rintro e w' ⟨rfl, rfl⟩))
  clear hc0
  go_loop [8, 9] (fun n k => ∃ j : Int, 1 ≤ j ∧ j ≤ m ∧ k = .int .i64 j ∧ n = .int .i64 (Cal.yrs y + d - 1 + Cal.cum y j)) (fun _ k => (m - intOf k).toNat)
  case atStart => exact ⟨1, by omega, a3, rfl, by rw [Cal.cum_one]; go_num⟩
  case round =>
    obtain ⟨j, j1, j2, rfl, rfl⟩ := hrel
    have cb := Cal.cum_bd y j j1 (by omega)
    by_cases hj : j < m
    · have cs := Cal.cum_succ y j j1 (by omega)
      have mi := Cal.mon_in a1 a2 j1 (show j ≤ 12 by omega)
      have mb := Cal.mon_bd y j
      have CS := Lib.hid cs
      have MI := Lib.hid mi
      clear cs mi
      go_wp2_with (go_at_call 247; refine (months_any _ _ _).mono ?_; rintro e w' ⟨rfl, rfl⟩)
      go_round
      case rel => exact ⟨j + 1, by omega, by omega, rfl, by rw [CS.out, ← MI.out]; go_num⟩
      case measure => simp [intOf]; omega
    · obtain rfl : j = m := by omega
      go_wp2
      go_ret2
      exact ⟨ret2 (congrArg (Value.int .i64) (by unfold Cal.num; omega)) rfl, rfl⟩
set_option maxHeartbeats 800000 in
theorem make_err (y m d : Int) (a : Addr) (w : World) (h : ¬ Cal.Ok y m d) (hc : w.cell? ⟨0, 0, none⟩ = some (.iface 348 (.pointer (some a)))) :
    Calls Tryz.prog 230 #[.int .i64 y, .int .i64 m, .int .i64 d] w fun e w' => e = .returned (.tuple #[.int .i64 0, .iface 348 (.pointer (some a))]) ∧ ∃ n, w' = w.drewN n := by
  by_cases h1 : d < 1
  · go_enter Tryz.func230, Tryz.ntmps230
    go_wp2_with fail
    go_quiet (fail)
    go_wp2
    go_ret2
    exact ⟨rfl, _, rfl⟩
  · have h2 : Cal.mon y m < d := by unfold Cal.Ok at h; omega
    go_enter Tryz.func230, Tryz.ntmps230
    go_wp2_with (go_at_call 247; refine (months_any _ _ _).mono ?_; rintro e w' ⟨rfl, rfl⟩)
    go_quiet (fail)
    go_wp2
    go_ret2
    exact ⟨rfl, _, rfl⟩
set_option maxHeartbeats 400000 in
theorem right_any (n : Int) (w : World) :
    Calls Tryz.prog 113 #[.int .i64 n] w fun e w' => e = .returned (.bool (decide (0 ≤ n ∧ n ≤ 73048))) ∧ w = w' := by
  go_enter Tryz.func113, Tryz.ntmps113
  go_wp2
  all_goals go_ret
  all_goals exact ⟨ret_bool (by rw [Bool.eq_iff_iff]; simp; try omega), rfl⟩
theorem right_yes (n : Int) (w : World) (h : 0 ≤ n ∧ n ≤ 73048) :
    Calls Tryz.prog 113 #[.int .i64 n] w fun e w' => e = .returned (.bool true) ∧ w = w' :=
  (right_any n w).mono fun _ _ ⟨he, hw⟩ => ⟨by rw [he, decide_eq_true h], hw⟩
theorem right_no (n : Int) (w : World) (h : ¬ (0 ≤ n ∧ n ≤ 73048)) :
    Calls Tryz.prog 113 #[.int .i64 n] w fun e w' => e = .returned (.bool false) ∧ w = w' :=
  (right_any n w).mono fun _ _ ⟨he, hw⟩ => ⟨by rw [he, decide_eq_false h], hw⟩
set_option maxHeartbeats 400000 in
theorem date_no (n : Int) (a : Addr) (w : World) (h : ¬ (0 ≤ n ∧ n ≤ 73048)) (hc : w.cell? ⟨0, 0, none⟩ = some (.iface 348 (.pointer (some a)))) :
    Calls Tryz.prog 196 #[.int .i64 n] w fun e w' => e = .returned (.tuple #[.int .i64 0, .int .i64 0, .int .i64 0, .iface 348 (.pointer (some a))]) ∧ ∃ k, w' = w.drewN k := by
  go_enter Tryz.func196, Tryz.ntmps196
  go_wp2_with (go_at_call 113; refine (right_no _ _ h).mono ?_; rintro e w' ⟨rfl, rfl⟩)
  go_quiet (fail)
  go_wp2
  refine bodyPost_ret (v := .tuple #[.int .i64 0, .int .i64 0, .int .i64 0, .iface 348 (.pointer (some a))]) (by simp [results, Tryz.results196, go_sem]) rfl ⟨rfl, _, rfl⟩
theorem guess (n : Int) (h1 : 0 ≤ n) (h2 : n ≤ 73048) : 2000 ≤ 2000 + n / 366 ∧ 2000 + n / 366 ≤ 2199 ∧ Cal.yrs (2000 + n / 366) ≤ n := by
  refine ⟨by omega, by omega, ?_⟩
  unfold Cal.yrs; split <;> omega
set_option maxHeartbeats 1000000 in
theorem date_yes (n : Int) (w : World) (h1 : 0 ≤ n) (h2 : n ≤ 73048) :
    Calls Tryz.prog 196 #[.int .i64 n] w fun e w' => (∃ y m d : Int, Cal.Ok y m d ∧ Cal.num y m d = n ∧ e = .returned (.tuple #[.int .i64 y, .int .i64 m, .int .i64 d, .nilIface])) ∧ w = w' := by
  obtain ⟨g1, g2, g3⟩ := guess n h1 h2
  go_enter Tryz.func196, Tryz.ntmps196
  go_wp2_with (go_at_call 113; refine (right_yes _ _ ⟨h1, h2⟩).mono ?_; rintro e w' ⟨rfl, rfl⟩)
  go_loop [2] (fun t => ∃ y : Int, 2000 ≤ y ∧ y ≤ 2199 ∧ Cal.yrs y ≤ n ∧ t = .int .i64 y) (fun t => (2199 - intOf t).toNat)
  case atStart => exact ⟨_, g1, g2, g3, rfl⟩
  case round =>
    obtain ⟨y, y1, y2, y3, rfl⟩ := hrel
    have yb := Cal.yrs_bd y1 y2
    clear g1 g2 g3
    by_cases hc : y < 2199 ∧ Cal.yrs (y + 1) ≤ n
    · obtain ⟨hlt, hd⟩ := hc
      have yb1 := Cal.yrs_bd (y := y + 1) (by omega) (by omega)
      go_wp2_with (go_at_call 246; refine (years_any _ _ (by omega) (by omega)).mono ?_; rintro e w' ⟨rfl, rfl⟩)
      go_round
      case rel => exact ⟨y + 1, by omega, by omega, hd, rfl⟩
      case measure => simp [intOf]; omega
    · have hz : n < Cal.yrs y + 337 + Cal.feb y := by
        rw [← Cal.yrs_succ y y1]
        by_cases e : y = 2199
        · subst e; have := Cal.yrs_last; show n < Cal.yrs 2200; omega
        · omega
      have fb := Cal.feb_bd y
      have hn : y < 2199 → ¬ Cal.yrs (y + 1) ≤ n := fun a b => hc ⟨a, b⟩
      clear hc
      by_cases hlt : y < 2199
      all_goals
        first | (have hn' := hn hlt; clear hn) | clear hn
        go_wp2_with (go_at_call 246; refine (years_any _ _ (by omega) (by omega)).mono ?_; rintro e w' ⟨rfl, rfl⟩)
        go_loop [0, 3] (fun r k => ∃ m : Int, 1 ≤ m ∧ m ≤ 12 ∧ k = .int .i64 m ∧ 0 ≤ n - Cal.yrs y - Cal.cum y m ∧ r = .int .i64 (n - Cal.yrs y - Cal.cum y m)) (fun _ k => (12 - intOf k).toNat)
        case atStart => exact ⟨1, by omega, by omega, rfl, by rw [Cal.cum_one]; omega, by rw [Cal.cum_one]; go_num⟩
        case round =>
          obtain ⟨m, m1, m2, rfl, hr, rfl⟩ := hrel
          have cb := Cal.cum_bd y m m1 (by omega)
          have cs := Cal.cum_succ y m m1 m2
          have db := Cal.dim_bd y m
          have mi := Cal.mon_in y1 y2 m1 m2
          have CS := Lib.hid cs
          have MI := Lib.hid mi
          by_cases hd : Cal.mon y m ≤ n - Cal.yrs y - Cal.cum y m
          · have m3 : m < 12 := by
              by_cases e : m = 12
              · subst e; have := Cal.cum_last y; have h13 : Cal.cum y (12 + 1) = Cal.cum y 13 := rfl; omega
              · omega
            have mb := Cal.mon_bd y m
            clear cs mi
            go_wp2_with (go_at_call 247; refine (months_any _ _ _).mono ?_; rintro e w' ⟨rfl, rfl⟩)
            go_round
            case rel => exact ⟨m + 1, by omega, by omega, rfl, by rw [CS.out, ← MI.out]; omega, by rw [CS.out, ← MI.out]; go_num⟩
            case measure => simp [intOf]; omega
          · clear cs mi
            go_wp2_with (go_at_call 247; refine (months_any _ _ _).mono ?_; rintro e w' ⟨rfl, rfl⟩)
            refine bodyPost_ret (v := .tuple #[.int .i64 y, .int .i64 m, .int .i64 (n - Cal.yrs y - Cal.cum y m + 1), .nilIface]) (by simp [results, Tryz.results196, go_sem]) rfl ⟨⟨y, m, _, ⟨by omega, by omega⟩, by unfold Cal.num; omega, rfl⟩, rfl⟩
theorem date_at (n y m d : Int) (w : World) (h : Cal.At n y m d) :
    Calls Tryz.prog 196 #[.int .i64 n] w fun e w' => e = .returned (.tuple #[.int .i64 y, .int .i64 m, .int .i64 d, .nilIface]) ∧ w = w' := by
  obtain ⟨b1, b2⟩ := Cal.at_bd h
  refine (date_yes n w b1 b2).mono ?_
  rintro e w' ⟨⟨y', m', d', ho, hn, rfl⟩, rfl⟩
  obtain ⟨rfl, rfl, rfl⟩ := Cal.at_unique h ⟨ho, hn⟩
  exact ⟨rfl, rfl⟩
end Day
end Go.Proofs.YtghkalamlcfnnaaGreatDoor
end
