/- Plain facts on the calendar of 2000 to 2199: leap years, days of a month, days ahead of a year and of a month, dates and numbers of days. No program stands here. -/
import Derived.WalkKit
namespace Lmd.Cal

/-- a leap year? -/
def lp (y : Int) : Bool := decide (y % 4 = 0 ∧ (y % 100 ≠ 0 ∨ y % 400 = 0))
/-- days of February -/
def feb (y : Int) : Int := if lp y then 29 else 28
/-- days of a month that is one -/
def dim (y m : Int) : Int := if m = 2 then feb y else if m = 4 ∨ m = 6 ∨ m = 9 ∨ m = 11 then 30 else 31
/-- days of a month; 0 where there is none -/
def mon (y m : Int) : Int := if y < 2000 ∨ 2199 < y ∨ m < 1 ∨ 12 < m then 0 else dim y m
/-- days ahead of a year from 2000 on -/
def yrs (y : Int) : Int := if y = 2000 then 0 else 365 * (y - 2000) + (y - 2001) / 4 - (y - 2001) / 100 + (y - 2001) / 400 + 1
/-- days of a year ahead of a month -/
def cum (y m : Int) : Int :=
  if m ≤ 1 then 0 else if m = 2 then 31 else
  feb y + (if m = 3 then 31 else if m = 4 then 62 else if m = 5 then 92 else if m = 6 then 123 else if m = 7 then 153 else if m = 8 then 184 else if m = 9 then 215 else if m = 10 then 245 else if m = 11 then 276 else if m = 12 then 306 else 337)
def num (y m d : Int) : Int := yrs y + cum y m + d - 1
/-- is it a date? -/
def Ok (y m d : Int) : Prop := 1 ≤ d ∧ d ≤ mon y m
/-- the same as a test that the walk does not take apart -/
def okB (y m d : Int) : Bool := decide (1 ≤ d ∧ d ≤ mon y m)

theorem okB_true {y m d : Int} (h : Ok y m d) : okB y m d = true := by unfold okB; exact decide_eq_true h
theorem okB_false {y m d : Int} (h : ¬ Ok y m d) : okB y m d = false := by unfold okB; exact decide_eq_false h
theorem okB_iff {y m d : Int} : okB y m d = true ↔ Ok y m d := by unfold okB; exact decide_eq_true_iff

theorem feb_cases (y : Int) : (lp y = true ∧ feb y = 29) ∨ (lp y = false ∧ feb y = 28) := by
  unfold feb; cases lp y <;> simp
theorem feb_bd (y : Int) : 28 ≤ feb y ∧ feb y ≤ 29 := by rcases feb_cases y with ⟨_, h⟩ | ⟨_, h⟩ <;> omega
theorem dim_bd (y m : Int) : 28 ≤ dim y m ∧ dim y m ≤ 31 := by
  have := feb_bd y; unfold dim; split <;> (try split) <;> omega
theorem mon_bd (y m : Int) : 0 ≤ mon y m ∧ mon y m ≤ 31 := by
  have := dim_bd y m; unfold mon; split <;> omega
theorem mon_in {y m : Int} (a : 2000 ≤ y) (b : y ≤ 2199) (c : 1 ≤ m) (d : m ≤ 12) : mon y m = dim y m := by
  unfold mon; rw [if_neg (by omega)]
theorem mon_out {y m : Int} (a : y < 2000 ∨ 2199 < y ∨ m < 1 ∨ 12 < m) : mon y m = 0 := by
  unfold mon; rw [if_pos a]
theorem ok_range {y m d : Int} (h : Ok y m d) : 2000 ≤ y ∧ y ≤ 2199 ∧ 1 ≤ m ∧ m ≤ 12 ∧ 1 ≤ d ∧ d ≤ 31 := by
  obtain ⟨h1, h2⟩ := h
  have hb := mon_bd y m
  by_cases hh : y < 2000 ∨ 2199 < y ∨ m < 1 ∨ 12 < m
  · rw [mon_out hh] at h2; omega
  · omega
theorem yrs_succ (y : Int) (h : 2000 ≤ y) : yrs (y + 1) = yrs y + 337 + feb y := by
  have hf := feb_cases y
  unfold lp at hf
  simp only [decide_eq_true_eq, decide_eq_false_iff_not] at hf
  unfold yrs
  by_cases e : y = 2000
  · subst e; simp; rcases hf with ⟨_, h⟩ | ⟨h, _⟩ <;> omega
  · rw [if_neg (by omega), if_neg e]; omega
theorem yrs_mono {a b : Int} (h0 : 2000 ≤ a) (h : a ≤ b) : yrs a ≤ yrs b := by
  unfold yrs; split <;> split <;> omega
theorem yrs_lt {a b : Int} (h0 : 2000 ≤ a) (h : a < b) : yrs a + 365 ≤ yrs b := by
  have h1 := yrs_succ a h0
  have h2 := yrs_mono (a := a + 1) (b := b) (by omega) (by omega)
  have := feb_bd a
  omega
theorem yrs_bd {y : Int} (h0 : 2000 ≤ y) (h : y ≤ 2199) : 0 ≤ yrs y ∧ yrs y ≤ 72684 := by
  unfold yrs; split <;> omega
theorem yrs_last : yrs 2200 = 73049 := by decide
theorem cum_one (y : Int) : cum y 1 = 0 := by simp [cum]
theorem cum_succ (y m : Int) (h1 : 1 ≤ m) (h2 : m ≤ 12) : cum y (m + 1) = cum y m + dim y m := by
  have : m = 1 ∨ m = 2 ∨ m = 3 ∨ m = 4 ∨ m = 5 ∨ m = 6 ∨ m = 7 ∨ m = 8 ∨ m = 9 ∨ m = 10 ∨ m = 11 ∨ m = 12 := by omega
  rcases this with rfl | rfl | rfl | rfl | rfl | rfl | rfl | rfl | rfl | rfl | rfl | rfl <;> simp [cum, dim] <;> omega
theorem cum_last (y : Int) : cum y 13 = 337 + feb y := by simp [cum]; omega
theorem cum_bd (y m : Int) (h1 : 1 ≤ m) (h2 : m ≤ 13) : 0 ≤ cum y m ∧ cum y m ≤ 366 := by
  have := feb_bd y
  have : m = 1 ∨ m = 2 ∨ m = 3 ∨ m = 4 ∨ m = 5 ∨ m = 6 ∨ m = 7 ∨ m = 8 ∨ m = 9 ∨ m = 10 ∨ m = 11 ∨ m = 12 ∨ m = 13 := by omega
  rcases this with rfl | rfl | rfl | rfl | rfl | rfl | rfl | rfl | rfl | rfl | rfl | rfl | rfl <;> simp [cum] <;> omega
/-- the sum of earlier months goes up -/
theorem cum_mono (y a b : Int) (h1 : 1 ≤ a) (h2 : a ≤ b) (h3 : b ≤ 13) : cum y a ≤ cum y b := by
  obtain ⟨k, rfl⟩ : ∃ k : Nat, b = a + k := ⟨(b - a).toNat, by omega⟩
  clear h2
  induction k with
  | zero => simp
  | succ k ih =>
    have i := ih (by omega)
    have s := cum_succ y (a + k) (by omega) (by omega)
    have := dim_bd y (a + k)
    rw [show a + ((k + 1 : Nat) : Int) = a + (k : Int) + 1 from by omega]
    omega
theorem num_bd {y m d : Int} (h : Ok y m d) : 0 ≤ num y m d ∧ num y m d ≤ 73048 := by
  obtain ⟨a, b, c, e, f, g⟩ := ok_range h
  have h2 := h.2
  rw [mon_in a b c e] at h2
  have hc := cum_bd y m c (by omega)
  have hs := cum_succ y m c e
  have hm := cum_mono y (m + 1) 13 (by omega) (by omega) (by omega)
  have hl := cum_last y
  have hy := yrs_succ y a
  have hyb := yrs_bd a b
  have hy2 := yrs_mono (a := y + 1) (b := 2200) (by omega) (by omega)
  rw [yrs_last] at hy2
  unfold num; omega
/-- a date is known by its number -/
theorem num_inj {y m d y' m' d' : Int} (h : Ok y m d) (h' : Ok y' m' d') (e : num y m d = num y' m' d') : y = y' ∧ m = m' ∧ d = d' := by
  obtain ⟨a, b, c, f, g, _⟩ := ok_range h
  obtain ⟨a', b', c', f', g', _⟩ := ok_range h'
  have h2 := h.2
  have h2' := h'.2
  rw [mon_in a b c f] at h2
  rw [mon_in a' b' c' f'] at h2'
  have hc := cum_bd y m c (by omega)
  have hc' := cum_bd y' m' c' (by omega)
  have hs := cum_succ y m c f
  have hs' := cum_succ y' m' c' f'
  have hm := cum_mono y (m + 1) 13 (by omega) (by omega) (by omega)
  have hm' := cum_mono y' (m' + 1) 13 (by omega) (by omega) (by omega)
  have hl := cum_last y
  have hl' := cum_last y'
  have hy := yrs_succ y a
  have hy' := yrs_succ y' a'
  unfold num at e
  have ey : y = y' := by
    rcases Int.lt_trichotomy y y' with l | l | l
    · have := yrs_mono (a := y + 1) (b := y') (by omega) (by omega); omega
    · exact l
    · have := yrs_mono (a := y' + 1) (b := y) (by omega) (by omega); omega
  subst ey
  have em : m = m' := by
    rcases Int.lt_trichotomy m m' with l | l | l
    · have := cum_mono y (m + 1) m' (by omega) (by omega) (by omega); omega
    · exact l
    · have := cum_mono y (m' + 1) m (by omega) (by omega) (by omega); omega
  subst em
  exact ⟨rfl, rfl, by omega⟩

/-- a date of a number of a day -/
def At (n y m d : Int) : Prop := Ok y m d ∧ num y m d = n
/-- the date behind a date -/
def nxt (y m d : Int) : Int × Int × Int := if d < mon y m then (y, m, d + 1) else if m < 12 then (y, m + 1, 1) else (y + 1, 1, 1)
theorem nxt_at {n y m d : Int} (h : At n y m d) (hn : n < 73048) : At (n + 1) (nxt y m d).1 (nxt y m d).2.1 (nxt y m d).2.2 := by
  obtain ⟨ho, rfl⟩ := h
  obtain ⟨a, b, c, e, f, g⟩ := ok_range ho
  have h2 := ho.2
  have hmi := mon_in a b c e
  have hs := cum_succ y m c e
  unfold nxt
  by_cases h1 : d < mon y m
  · rw [if_pos h1]
    exact ⟨⟨by simp only; omega, by simp only; omega⟩, by unfold num; simp only; omega⟩
  · rw [if_neg h1]
    by_cases h3 : m < 12
    · rw [if_pos h3]
      have hmi' := mon_in a b (m := m + 1) (by omega) (by omega)
      have := dim_bd y (m + 1)
      exact ⟨⟨by simp, by simp only; omega⟩, by unfold num; simp only; omega⟩
    · rw [if_neg h3]
      obtain rfl : m = 12 := by omega
      have hl := cum_last y
      rw [show (12 : Int) + 1 = 13 from rfl] at hs
      have hy := yrs_succ y a
      have hc1 := cum_one (y + 1)
      have hy1 : y + 1 ≤ 2199 := by
        by_cases e' : y = 2199
        · subst e'
          have h0 := yrs_last
          rw [show (2199 : Int) + 1 = 2200 from rfl] at hy
          unfold num at hn; omega
        · omega
      have hmi' := mon_in (y := y + 1) (m := 1) (by omega) hy1 (by omega) (by omega)
      have := dim_bd (y + 1) 1
      exact ⟨⟨by simp, by simp only; omega⟩, by unfold num; simp only; omega⟩
theorem at_exists (n : Int) (h0 : 0 ≤ n) (h1 : n ≤ 73048) : ∃ y m d, At n y m d := by
  obtain ⟨k, rfl⟩ := Int.eq_ofNat_of_zero_le h0
  clear h0
  induction k with
  | zero => exact ⟨2000, 1, 1, by unfold At Ok; decide⟩
  | succ k ih =>
    obtain ⟨y, m, d, h⟩ := ih (by omega)
    have := nxt_at h (by omega)
    exact ⟨_, _, _, by rw [show ((k + 1 : Nat) : Int) = (k : Int) + 1 from by omega]; exact this⟩
theorem at_unique {n y m d y' m' d' : Int} (h : At n y m d) (h' : At n y' m' d') : y = y' ∧ m = m' ∧ d = d' :=
  num_inj h.1 h'.1 (by rw [h.2, h'.2])
theorem at_bd {n y m d : Int} (h : At n y m d) : 0 ≤ n ∧ n ≤ 73048 := by
  have := num_bd h.1; rw [h.2] at this; exact this

/-- the month, counted from the first one, that some months more lead to -/
def kth (y m a : Int) : Int := 12 * (y - 2000) + m - 1 + a
theorem kth_self {y m : Int} (c : 1 ≤ m) (e : m ≤ 12) : 2000 + kth y m 0 / 12 = y ∧ kth y m 0 % 12 + 1 = m := by
  unfold kth; omega
/-- is there a day that some months more lead to? -/
def addB (k d : Int) : Bool := decide (0 ≤ k) && okB (2000 + k / 12) (k % 12 + 1) d
def addV (k d : Int) : Int := if addB k d then num (2000 + k / 12) (k % 12 + 1) d else 0
theorem addB_yes {k d : Int} (h : addB k d = true) : 0 ≤ k ∧ Ok (2000 + k / 12) (k % 12 + 1) d := by
  unfold addB at h
  simp only [Bool.and_eq_true, decide_eq_true_eq] at h
  exact ⟨h.1, okB_iff.1 h.2⟩
theorem addB_no {k d : Int} (h : addB k d = false) : k < 0 ∨ (0 ≤ k ∧ ¬ Ok (2000 + k / 12) (k % 12 + 1) d) := by
  unfold addB at h
  by_cases h0 : k < 0
  · exact Or.inl h0
  · refine Or.inr ⟨by omega, fun ho => ?_⟩
    rw [okB_true ho, decide_eq_true (by omega)] at h
    cases h
theorem addV_yes {k d : Int} (h : addB k d = true) : addV k d = num (2000 + k / 12) (k % 12 + 1) d := by unfold addV; rw [if_pos h]
theorem addV_no {k d : Int} (h : addB k d = false) : addV k d = 0 := by unfold addV; rw [if_neg (by simp [h])]
theorem addV_at {k d : Int} (h : addB k d = true) : At (addV k d) (2000 + k / 12) (k % 12 + 1) d := by
  rw [addV_yes h]; exact ⟨(addB_yes h).2, rfl⟩
theorem addV_bd (k d : Int) : 0 ≤ addV k d ∧ addV k d ≤ 73048 := by
  cases h : addB k d with
  | true => exact at_bd (addV_at h)
  | false => rw [addV_no h]; omega
/-- months in two parts -/
theorem kth_two {y m a : Int} (b : Int) : kth (2000 + kth y m a / 12) (kth y m a % 12 + 1) b = kth y m (a + b) := by
  unfold kth; omega
/-- a month has as many days as it has -/
theorem month_span {n y m d : Int} (h : At n y m d) : Ok y m 1 ∧ Ok y m (mon y m) ∧ ¬ Ok y m (mon y m + 1) ∧ num y m (mon y m) - num y m 1 + 1 = mon y m ∧ num y m 1 ≤ n ∧ n ≤ num y m (mon y m) := by
  obtain ⟨⟨h1, h2⟩, rfl⟩ := h
  unfold Ok num; omega
end Lmd.Cal
