/- ExpLaw, EvDays, EvGone, EvSort: texts of this claim, joined. -/
import Derived.Test.YtkhkhbeolhhomaaGreatDoorJ5
import Derived.Test.YtkhkhbeolhhomaaGreatDoorJ2
import Derived.Lib.SlicesCompact
import Derived.Test.YtkhkhbeolhhomaaGreatDoorJ3
section
/- Plain facts for the reference of expand: its test of a candidate, its list of all days, its step. No program stands here. -/
namespace Lmd.Cal
theorem num_28 {y m d y' m' : Int} (h : Ok y m d) (h' : Ok y' m' d) (hl : y < y' ∨ y = y' ∧ m < m') : num y m d + 28 ≤ num y' m' d := by
  obtain ⟨a, b, c, f, g, _⟩ := ok_range h
  obtain ⟨a', b', c', f', g', _⟩ := ok_range h'
  have hd := dim_bd y m
  have hc' := cum_bd y' m' c' (by omega)
  have hs := cum_succ y m c f
  have hm := cum_mono y (m + 1) 13 (by omega) (by omega) (by omega)
  have hl2 := cum_last y
  have hy := yrs_succ y a
  unfold num
  rcases hl with l | ⟨rfl, l⟩
  · have := yrs_mono (a := y + 1) (b := y') (by omega) (by omega); omega
  · have := cum_mono y (m + 1) m' (by omega) (by omega) (by omega); omega
theorem addV_28 {k k' d : Int} (h : addB k d = true) (h' : addB k' d = true) (hk : k < k') : addV k d + 28 ≤ addV k' d := by
  rw [addV_yes h, addV_yes h']
  exact num_28 (addB_yes h).2 (addB_yes h').2 (by omega)
theorem cum_next {y m : Int} (h1 : 1 ≤ m) (h2 : m ≤ 12) : cum y m ≤ 335 ∧ 365 ≤ 337 + feb y + cum (y + 1) m - cum y m := by
  have hf := feb_bd y
  have hf2 := feb_bd (y + 1)
  have hc : m = 1 ∨ m = 2 ∨ m = 3 ∨ m = 4 ∨ m = 5 ∨ m = 6 ∨ m = 7 ∨ m = 8 ∨ m = 9 ∨ m = 10 ∨ m = 11 ∨ m = 12 := by omega
  rcases hc with rfl | rfl | rfl | rfl | rfl | rfl | rfl | rfl | rfl | rfl | rfl | rfl <;> simp [cum] <;> omega
theorem num_365 {y m d y' m' : Int} (h : Ok y m d) (h' : Ok y' m' d) (hl : 12 * y + m + 12 ≤ 12 * y' + m') : num y m d + 365 ≤ num y' m' d := by
  obtain ⟨a, b, c, f, g, _⟩ := ok_range h
  obtain ⟨a', b', c', f', g', _⟩ := ok_range h'
  have hn := cum_next (y := y) c f
  have hc' := cum_bd y' m' c' (by omega)
  have hy := yrs_succ y a
  have hf := feb_bd y
  unfold num
  by_cases e : y' = y + 1
  · subst e
    have := cum_mono (y + 1) m m' (by omega) (by omega) (by omega)
    omega
  · have h2 := yrs_succ (y + 1) (by omega)
    have hf1 := feb_bd (y + 1)
    have := yrs_mono (a := y + 1 + 1) (b := y') (by omega) (by omega)
    omega
theorem addV_365 {k k' d : Int} (h : addB k d = true) (h' : addB k' d = true) (hk : k + 12 ≤ k') : addV k d + 365 ≤ addV k' d := by
  rw [addV_yes h, addV_yes h']
  exact num_365 (addB_yes h).2 (addB_yes h').2 (by omega)
end Lmd.Cal
namespace Go.Proofs.YtkhkhbeolhhomaaGreatDoor
open Go Go.RowKit Lmd
namespace Cand
open Rul

/-- two rising lists with the same members are one -/
theorem rise_ext : ∀ {a b : List Int}, a.Pairwise (· < ·) → b.Pairwise (· < ·) → (∀ x, x ∈ a ↔ x ∈ b) → a = b
  | [], [], _, _, _ => rfl
  | [], y :: ys, _, _, h => by have := (h y).2 (by simp); cases this
  | x :: xs, [], _, _, h => by have := (h x).1 (by simp); cases this
  | x :: xs, y :: ys, ha, hb, h => by
    have pa := List.pairwise_cons.1 ha
    have pb := List.pairwise_cons.1 hb
    have e : x = y := by
      rcases List.mem_cons.1 ((h x).1 (by simp)) with e | e
      · exact e
      · rcases List.mem_cons.1 ((h y).2 (by simp)) with e2 | e2
        · exact e2.symm
        · have := pa.1 y e2; have := pb.1 x e; omega
    subst e
    rw [rise_ext pa.2 pb.2 fun z => ?_]
    constructor
    · intro hz
      rcases List.mem_cons.1 ((h z).1 (List.mem_cons_of_mem _ hz)) with e | e
      · have := pa.1 z hz; omega
      · exact e
    · intro hz
      rcases List.mem_cons.1 ((h z).2 (List.mem_cons_of_mem _ hz)) with e | e
      · have := pb.1 z hz; omega
      · exact e
/-- those below a day -/
def lows (c : List Int) (d : Int) : List Int := c.filter fun x => decide (x < d)
theorem lows_mem {c : List Int} {d x : Int} : x ∈ lows c d ↔ x ∈ c ∧ x < d := by simp [lows]
theorem lows_rise {c : List Int} {d : Int} (h : c.Pairwise (· < ·)) : (lows c d).Pairwise (· < ·) := List.Pairwise.filter _ h
theorem lows_start {c : List Int} {d : Int} (h : ∀ x ∈ c, d ≤ x) : lows c d = [] := by
  rw [lows, List.filter_eq_nil_iff]; intro x hx; have := h x hx; simp; omega
theorem lows_yes {c : List Int} {d s : Int} (h : c.Pairwise (· < ·)) (hd : d ∈ c) (hs : 0 < s) (hg : ∀ x ∈ c, d < x → d + s ≤ x) : lows c (d + s) = lows c d ++ [d] := by
  refine rise_ext (lows_rise h) ?_ ?_
  · rw [List.pairwise_append]
    exact ⟨lows_rise h, by simp, fun a ha b hb => by simp at hb; subst hb; exact (lows_mem.1 ha).2⟩
  · intro x
    rw [lows_mem, List.mem_append, lows_mem]
    simp only [List.mem_singleton]
    constructor
    · rintro ⟨h1, h2⟩
      by_cases hx : x < d
      · exact .inl ⟨h1, hx⟩
      · by_cases e : x = d
        · exact .inr e
        · have := hg x h1 (by omega); omega
    · rintro (⟨h1, h2⟩ | rfl)
      · exact ⟨h1, by omega⟩
      · exact ⟨hd, by omega⟩
theorem lows_no {c : List Int} {d : Int} (h : c.Pairwise (· < ·)) (hd : d ∉ c) : lows c (d + 1) = lows c d := by
  refine rise_ext (lows_rise h) (lows_rise h) fun x => ?_
  rw [lows_mem, lows_mem]
  constructor
  · rintro ⟨h1, h2⟩
    refine ⟨h1, ?_⟩
    by_cases e : x = d
    · subst e; exact absurd h1 hd
    · omega
  · rintro ⟨h1, h2⟩; exact ⟨h1, by omega⟩
/-- what lies behind those below a day -/
theorem lows_split {c : List Int} (h : c.Pairwise (· < ·)) (d : Int) : ∃ t, c = lows c d ++ t ∧ ∀ x ∈ t, d ≤ x := by
  refine ⟨c.filter fun x => decide (d ≤ x), ?_, fun x hx => by simpa using (List.mem_filter.1 hx).2⟩
  refine rise_ext h ?_ fun x => ?_
  · rw [List.pairwise_append]
    refine ⟨lows_rise h, List.Pairwise.filter _ h, fun a ha b hb => ?_⟩
    have h1 := (lows_mem.1 ha).2
    have h2 : d ≤ b := by simpa using (List.mem_filter.1 hb).2
    omega
  · rw [List.mem_append, lows_mem, List.mem_filter]
    simp only [decide_eq_true_eq]
    constructor
    · intro hx
      by_cases e : x < d
      · exact .inl ⟨hx, e⟩
      · exact .inr ⟨hx, by omega⟩
    · rintro (⟨h1, _⟩ | ⟨h1, _⟩) <;> exact h1
/-- the end of the reference's loop -/
theorem all_end {c : List Int} (h : c.Pairwise (· < ·)) {ct un tt d : Int} (hg : Goes ct un (lows c d)) (ht : ∀ x ∈ lows c d, x ≤ tt)
    (he : (un ≠ -1 ∧ un < d) ∨ (0 < ct ∧ ct ≤ (lows c d).length) ∨ tt < d ∨ ∀ x ∈ c, x < d) : (daysOf ct un c).filter (fun x => decide (x ≤ tt)) = lows c d := by
  obtain ⟨t, hc, hr⟩ := lows_split h d
  have hf : (lows c d).filter (fun x => decide (x ≤ tt)) = lows c d := by
    rw [List.filter_eq_self]; intro x hx; simpa using ht x hx
  have hext : ∀ e : List Int, daysOf ct un c = lows c d ++ e → (∀ x ∈ e, tt < x) → (daysOf ct un c).filter (fun x => decide (x ≤ tt)) = lows c d := fun e h1 h2 => by
    rw [h1, List.filter_append, hf, List.filter_eq_nil_iff.2 (fun x hx => by have := h2 x hx; simp; omega), List.append_nil]
  have hd := daysOf_goes (t := t) hg
  rw [← hc] at hd
  have hlen := hg.1
  rcases he with ⟨h1, h2⟩ | ⟨h1, h2⟩ | h1 | h1
  · have hw : t.takeWhile (under un) = [] := by
      cases t with
      | nil => rfl
      | cons x xs =>
        have := hr x (by simp)
        have hu : under un x = false := by simp only [under, decide_eq_false_iff_not]; omega
        rw [List.takeWhile_cons, hu]; rfl
    rw [hw] at hd
    exact hext [] (by rw [hd]; split <;> simp) (by simp)
  · have : ct.toNat - (lows c d).length = 0 := by omega
    rw [if_pos h1, this] at hd
    exact hext [] (by rw [hd]; simp) (by simp)
  · refine hext _ hd fun x hx => ?_
    have hm : x ∈ t := by
      split at hx
      · exact (List.takeWhile_sublist _).subset ((List.take_sublist _ _).subset hx)
      · exact (List.takeWhile_sublist _).subset hx
    have := hr x hm; omega
  · have hn : t = [] := by
      cases t with
      | nil => rfl
      | cons x xs =>
        have a1 := hr x (by simp)
        have a2 := h1 x (by rw [hc]; simp)
        omega
    subst hn
    exact hext [] (by rw [hd]; split <;> simp) (by simp)

/-- how far candidates lie apart, at least -/
def stepB (r : Ru) : Int := if r.fq.toList = [109, 111, 110, 116, 104, 108, 121] then 28 else if r.fq.toList = [121, 101, 97, 114, 108, 121] then 365 else 1
theorem steps_diff {a s hi x z : Int} (hs : 0 < s) (hx : x ∈ steps a s hi) (hz : z ∈ steps a s hi) (h : x < z) : x + s ≤ z := by
  have h1 := ((steps_mem hs).1 hx).2.2
  have h2 := ((steps_mem hs).1 hz).2.2
  have e1 := Int.emod_add_mul_ediv (x - a) s
  have e2 := Int.emod_add_mul_ediv (z - a) s
  have h3 : (x - a) / s < (z - a) / s := by
    by_cases hle : (z - a) / s ≤ (x - a) / s
    · have := Int.mul_le_mul_of_nonneg_left hle (by omega : 0 ≤ s); omega
    · omega
  have h4 : s * ((x - a) / s + 1) ≤ s * ((z - a) / s) := Int.mul_le_mul_of_nonneg_left (by omega) (by omega)
  rw [Int.mul_add, Int.mul_one] at h4
  omega
theorem cands_gap {start y m d : Int} {r : Ru} (he : 1 ≤ r.ev) {x z : Int} (hx : x ∈ cands start y m d r) (hz : z ∈ cands start y m d r) (h : x < z) : x + stepB r ≤ z := by
  unfold stepB
  by_cases h1 : r.fq.toList = [109, 111, 110, 116, 104, 108, 121] ∨ r.fq.toList = [121, 101, 97, 114, 108, 121]
  · have hc : cands start y m d r = mons y m d (r.ev * mulOf r.fq) := by
      unfold cands
      rw [if_neg (by rcases h1 with e | e <;> rw [e] <;> decide), if_neg (by rcases h1 with e | e <;> rw [e] <;> decide), if_neg (by rcases h1 with e | e <;> rw [e] <;> decide)]
    rw [hc] at hx hz
    have hm1 : 1 ≤ mulOf r.fq := by unfold mulOf; split <;> omega
    have hs := Int.mul_le_mul he hm1 (by omega) (by omega)
    rw [mons, List.mem_flatMap] at hx hz
    obtain ⟨k, hk, hx⟩ := hx
    obtain ⟨l, hl, hz⟩ := hz
    unfold monC at hx hz
    split at hx
    · rename_i hB1
      split at hz
      · rename_i hB2
        simp at hx hz
        subst hx; subst hz
        have hkl : k < l := by
          rcases Int.lt_trichotomy k l with e | e | e
          · exact e
          · subst e; omega
          · have := Cal.addV_lt hB2 hB1 (by unfold Cal.kth; omega : Cal.kth y m l < Cal.kth y m k); omega
        have hd := steps_diff (by omega) hk hl hkl
        rcases h1 with e | e
        · rw [if_pos e]
          exact Cal.addV_28 hB1 hB2 (by unfold Cal.kth; omega)
        · rw [if_neg (by rw [e]; decide), if_pos e]
          have hm : mulOf r.fq = 12 := mulOf_yes e
          rw [hm] at hd
          exact Cal.addV_365 hB1 hB2 (by unfold Cal.kth; omega)
      · simp at hz
    · simp at hx
  · rw [if_neg (fun e => h1 (.inl e)), if_neg (fun e => h1 (.inr e))]; omega
/-- what is tested to be a candidate -/
def candB (start y m d z n b : Int) (r : Ru) (x : Int) : Bool :=
  if r.fq.toList = [111, 110, 99, 101] then decide (x = start) else if r.fq.toList = [100, 97, 105, 108, 121] then decide ((x - start) % r.ev = 0)
  else if r.fq.toList = [119, 101, 101, 107, 108, 121] then decide (((x - (x + 5) % 7 - (start - (start + 5) % 7)) / 7) % r.ev = 0) && decide ((x + 5) % 7 ∈ wdays start r.ds)
  else decide (d = b) && (if r.fq.toList = [121, 101, 97, 114, 108, 121] then decide (n = m) && decide ((z - y) % r.ev = 0) else decide ((12 * (z - y) + n - m) % r.ev = 0))
theorem candB_iff {start y m d z n b x : Int} {r : Ru} (ha : Cal.At start y m d) (hx : Cal.At x z n b) (he : 1 ≤ r.ev) (hd : daysB r.ds = true) (hle : start ≤ x) : candB start y m d z n b r x = true ↔ x ∈ cands start y m d r := by
  have hb := Cal.at_bd ha
  have hbx := Cal.at_bd hx
  unfold candB cands
  by_cases h1 : r.fq.toList = [111, 110, 99, 101]
  · rw [if_pos h1, if_pos h1]; simp
  rw [if_neg h1, if_neg h1]
  by_cases h2 : r.fq.toList = [100, 97, 105, 108, 121]
  · rw [if_pos h2, if_pos h2, steps_mem (by omega)]
    simp only [decide_eq_true_eq]; omega
  rw [if_neg h2, if_neg h2]
  by_cases h3 : r.fq.toList = [119, 101, 101, 107, 108, 121]
  · rw [if_pos h3, if_pos h3]
    have hw : ∀ k ∈ wdays start r.ds, 0 ≤ k ∧ k ≤ 6 := by
      unfold wdays; split
      · intro k hk; simp at hk; omega
      · exact days_in hd
    simp only [Bool.and_eq_true, decide_eq_true_eq, wks, List.mem_flatMap, wkC_mem]
    obtain ⟨q, hq⟩ : ∃ q, (x - (x + 5) % 7 - (start - (start + 5) % 7)) / 7 = q := ⟨_, rfl⟩
    have hq7 : x - (x + 5) % 7 - (start - (start + 5) % 7) = 7 * q := by omega
    rw [hq]
    have hdv : (7 * q) % (7 * r.ev) = 0 ↔ q % r.ev = 0 := by
      rw [Int.mul_emod_mul_of_pos _ _ (by omega : (0:Int) < 7)]; omega
    constructor
    · rintro ⟨g1, g2⟩
      refine ⟨x - (x + 5) % 7, ?_, by rw [show x - (x - (x + 5) % 7) = (x + 5) % 7 by omega]; exact g2, hle, hbx.2⟩
      rw [steps_mem (by omega)]
      exact ⟨by omega, by omega, by rw [hq7]; exact hdv.2 g1⟩
    · rintro ⟨k, hk, g2, _, _⟩
      have hk2 := (steps_mem (by omega)).1 hk
      have hr := hw _ g2
      have h7 : (k - (start - (start + 5) % 7)) % 7 = 0 := Int.emod_eq_zero_of_dvd (Int.dvd_trans ⟨r.ev, rfl⟩ (Int.dvd_of_emod_eq_zero hk2.2.2))
      have hkx : k = x - (x + 5) % 7 := by omega
      refine ⟨hdv.1 ?_, by rw [show (x + 5) % 7 = x - k by omega]; exact g2⟩
      rw [← hq7, ← hkx]; exact hk2.2.2
  rw [if_neg h3, if_neg h3]
  obtain ⟨p1, p2⟩ := ha
  obtain ⟨q1, q2⟩ := hx
  have hr := Cal.ok_range p1
  have hr2 := Cal.ok_range q1
  have hm1 : 1 ≤ mulOf r.fq := by unfold mulOf; split <;> omega
  have hs := Int.mul_le_mul he hm1 (by omega) (by omega)
  have key : x ∈ mons y m d (r.ev * mulOf r.fq) ↔ d = b ∧ (12 * (z - y) + n - m) % (r.ev * mulOf r.fq) = 0 := by
    rw [mons, List.mem_flatMap]
    constructor
    · rintro ⟨k, hk, hm⟩
      unfold monC at hm
      split at hm
      · rename_i hB
        simp at hm
        have := Cal.addV_at hB
        rw [← hm] at this
        obtain ⟨e1, e2, e3⟩ := Cal.at_unique ⟨q1, q2⟩ this
        have hk2 := (steps_mem (by omega)).1 hk
        refine ⟨e3.symm, ?_⟩
        have : 12 * (z - y) + n - m = k := by rw [e1, e2]; unfold Cal.kth; omega
        rw [this]; simpa using hk2.2.2
      · simp at hm
    · rintro ⟨rfl, hmod⟩
      have hk0 : 0 ≤ 12 * (z - y) + n - m := by
        by_cases hc : z < y ∨ z = y ∧ n < m
        · have := Cal.num_lt q1 p1 (by omega); omega
        · omega
      refine ⟨12 * (z - y) + n - m, ?_, ?_⟩
      · rw [steps_mem (by omega)]
        exact ⟨hk0, by omega, by simpa using hmod⟩
      · have hkth : Cal.kth y m (12 * (z - y) + n - m) = 12 * (z - 2000) + n - 1 := by unfold Cal.kth; omega
        unfold monC
        rw [hkth]
        have e1 : 2000 + (12 * (z - 2000) + n - 1) / 12 = z := by omega
        have e2 : (12 * (z - 2000) + n - 1) % 12 + 1 = n := by omega
        have hB : Cal.addB (12 * (z - 2000) + n - 1) d = true := by
          unfold Cal.addB
          rw [e1, e2, Cal.okB_true q1]
          simp; omega
        rw [if_pos hB, Cal.addV_yes hB, e1, e2, q2]; simp
  rw [key]
  by_cases h4 : r.fq.toList = [121, 101, 97, 114, 108, 121]
  · rw [if_pos h4, mulOf_yes h4]
    simp only [Bool.and_eq_true, decide_eq_true_eq]
    have : (12 * (z - y) + n - m) % (r.ev * 12) = 0 ↔ n = m ∧ (z - y) % r.ev = 0 := by
      constructor
      · intro h
        have h12 : (12 * (z - y) + n - m) % 12 = 0 := Int.emod_eq_zero_of_dvd (Int.dvd_trans ⟨r.ev, by rw [Int.mul_comm]⟩ (Int.dvd_of_emod_eq_zero h))
        have e : n = m := by omega
        refine ⟨e, ?_⟩
        rw [e, show 12 * (z - y) + m - m = 12 * (z - y) by omega, Int.mul_comm r.ev 12, Int.mul_emod_mul_of_pos _ _ (by omega : (0:Int) < 12)] at h
        omega
      · rintro ⟨e, h⟩
        rw [e, show 12 * (z - y) + m - m = 12 * (z - y) by omega, Int.mul_comm r.ev 12, Int.mul_emod_mul_of_pos _ _ (by omega : (0:Int) < 12)]
        omega
    rw [this]
  · rw [if_neg h4, mulOf_no h4, Int.mul_one]
    simp only [Bool.and_eq_true, decide_eq_true_eq]
/-- those of a span -/
def spanOf (l : List Int) (a b : Int) : List Int := l.filter fun x => decide (a ≤ x ∧ x ≤ b)
/-- the reference's test -/
theorem one_in {c : List Int} (h : c.Pairwise (· < ·)) {ct un x : Int} (hx : x ∈ c) (hu : under un x = true) (h0 : ct ≤ 0) : x ∈ daysOf ct un c := by
  unfold daysOf
  rw [if_neg (by omega)]
  induction c with
  | nil => cases hx
  | cons a tl ih =>
    have hp := List.pairwise_cons.1 h
    rcases List.mem_cons.1 hx with e | e
    · subst e; rw [List.takeWhile_cons, hu]; simp
    · have ha : under un a = true := by
        have := hp.1 x e
        simp only [under, decide_eq_true_eq] at hu ⊢; omega
      rw [List.takeWhile_cons, ha]
      exact List.mem_cons_of_mem _ (ih hp.2 e)
theorem one_out {c : List Int} {ct un x : Int} (hx : x ∈ daysOf ct un c) : x ∈ c ∧ under un x = true := by
  refine ⟨(daysOf_sub ct un c).subset hx, ?_⟩
  unfold daysOf at hx
  split at hx
  · exact List.all_eq_true.1 List.all_takeWhile x ((List.take_sublist _ _).subset hx)
  · exact List.all_eq_true.1 List.all_takeWhile x hx

end Cand
end Go.Proofs.YtkhkhbeolhhomaaGreatDoor
end

section
/- The days of an event, in plain Lean: what Days tells out of what its loops take; no program stands here. -/
namespace Lmd.Cpt
open Go Go.Lib

theorem get_snoc {d : List Int} {m : Nat} (h : m < d.length) : d.take (m + 1) = d.take m ++ [d[m]] := by
  rw [List.take_add_one, List.getElem?_eq_getElem h]; rfl
/-- of a list that does not fall: what is kept of its first places rises, ends where they end, and has their members -/
theorem compact_upto {d : List Int} (h : d.Pairwise (· ≤ ·)) : ∀ m, m ≤ d.length → (compactUpTo d.toArray m).Pairwise (· < ·) ∧ (∀ x, x ∈ compactUpTo d.toArray m ↔ x ∈ d.take m)
  | 0, _ => by simp [compactUpTo]
  | m + 1, hm => by
    obtain ⟨h1, h2⟩ := compact_upto h m (by omega)
    have hlt : m < d.length := by omega
    rw [compactUpTo_succ, get_snoc hlt]
    have hg : d.toArray[m]! = d[m] := by simp [getElem!_pos, hlt]
    by_cases h0 : m = 0
    · subst h0
      have hk : keeps d.toArray 0 = true := by simp [keeps]
      rw [hk, hg]
      simp [compactUpTo]
    · have hl2 : m - 1 < d.length := by omega
      have hg2 : d.toArray[m - 1]! = d[m - 1] := by simp [getElem!_pos, hl2]
      have hle : ∀ x ∈ d.take m, x ≤ d[m - 1] := by
        intro x hx
        obtain ⟨i, hi, rfl⟩ := List.getElem_of_mem hx
        rw [List.length_take] at hi
        rw [List.getElem_take]
        by_cases e : i = m - 1
        · subst e; exact Int.le_refl _
        · exact List.pairwise_iff_getElem.1 h i (m - 1) (by omega) hl2 (by omega)
      have hmm : d[m - 1] ≤ d[m] := List.pairwise_iff_getElem.1 h (m - 1) m hl2 hlt (by omega)
      by_cases e : d[m] = d[m - 1]
      · have hk : keeps d.toArray m = false := keeps_neg (by omega) (by rw [hg, hg2]; exact e)
        rw [hk]
        simp only [Bool.false_eq_true, if_false, List.append_nil]
        refine ⟨h1, fun x => ?_⟩
        rw [h2 x, List.mem_append, List.mem_singleton]
        constructor
        · exact .inl
        · rintro (hx | rfl)
          · exact hx
          · rw [e]
            have : (d.take m)[m - 1]'(by rw [List.length_take]; omega) = d[m - 1] := List.getElem_take
            rw [← this]; exact List.getElem_mem _
      · have hk : keeps d.toArray m = true := keeps_pos (by rw [hg, hg2]; exact e)
        rw [hk, hg]
        simp only [if_true]
        refine ⟨?_, fun x => ?_⟩
        · rw [List.pairwise_append]
          refine ⟨h1, by simp, fun a ha b hb => ?_⟩
          simp at hb; subst hb
          have := hle a ((h2 a).1 ha)
          omega
        · rw [List.mem_append, List.mem_append, h2 x]
/-- compaction of a list that does not fall -/
theorem compact_rise {d : List Int} (h : d.Pairwise (· ≤ ·)) : (compact d).Pairwise (· < ·) ∧ ∀ x, x ∈ compact d ↔ x ∈ d := by
  have := compact_upto h d.length (Nat.le_refl _)
  rw [List.take_length] at this
  exact this
theorem sort_rise (l : List Int) : (l.mergeSort fun x y => decide (x ≤ y)).Pairwise (· ≤ ·) := by
  have := List.pairwise_mergeSort (le := fun x y : Int => decide (x ≤ y)) (fun a b c h1 h2 => by simp at *; omega) (fun a b => by simp; omega) l
  exact this.imp (fun h => by simpa using h)
theorem sort_mem (l : List Int) (x : Int) : x ∈ (l.mergeSort fun x y => decide (x ≤ y)) ↔ x ∈ l := (List.mergeSort_perm l _).mem_iff
/-- sorted, then compacted -/
def uniq (l : List Int) : List Int := compact (l.mergeSort fun x y => decide (x ≤ y))
theorem uniq_rise (l : List Int) : (uniq l).Pairwise (· < ·) := (compact_rise (sort_rise l)).1
theorem uniq_mem (l : List Int) (x : Int) : x ∈ uniq l ↔ x ∈ l := ((compact_rise (sort_rise l)).2 x).trans (sort_mem l x)
/-- a rising list within another list is no longer -/
theorem len_sub : ∀ {a b : List Int}, a.Pairwise (· < ·) → (∀ x ∈ a, x ∈ b) → a.length ≤ b.length
  | [], _, _, _ => Nat.zero_le _
  | x :: t, b, ha, h => by
    have hp := List.pairwise_cons.1 ha
    have hx := h x (by simp)
    have := len_sub (a := t) (b := b.erase x) hp.2 (fun y hy => by
      have : y ≠ x := by have := hp.1 y hy; omega
      exact (List.mem_erase_of_ne this).2 (h y (by simp [hy])))
    rw [List.length_erase_of_mem hx] at this
    have : 0 < b.length := List.length_pos_of_mem hx
    simp only [List.length_cons]; omega
end Lmd.Cpt
namespace Go.Proofs.YtkhkhbeolhhomaaGreatDoor
open Go Go.RowKit Lmd
namespace Evt
open Rul Day Cand Cpt

def goneB (e : Ev) (d : Int) : Bool := e.sk.contains d || (froms e.mv).contains d
/-- is a day one of an event's, L its rule's days -/
def occB (e : Ev) (L : List Int) (x : Int) : Bool := (L.contains x && !goneB e x) || e.mv.any fun m => decide (m.2 = x) && L.contains m.1
/-- rising: those of a span -/
def daysIn (e : Ev) (L : List Int) (a b : Int) : List Int := (steps 0 1 73048).filter fun x => decide (a ≤ x ∧ x ≤ b) && occB e L x
/-- what the first loop takes -/
def ruleIn (e : Ev) (L : List Int) (a b : Int) : List Int := L.filter fun x => decide (a ≤ x ∧ x ≤ b) && !goneB e x
/-- what the second loop takes -/
def movesIn (mv : List (Int × Int)) (L : List Int) (a b : Int) : List Int := (mv.filter fun m => decide (a ≤ m.2 ∧ m.2 ≤ b) && isB L m.1).map Prod.snd
/-- the first loop's end: all, or too many -/
def Got (e : Ev) (L : List Int) (a b : Int) (out : List Int) : Prop := out = ruleIn e L a b ∨ (1000 < out.length ∧ out <+: ruleIn e L a b)

/-- what is asked of an event and its rule's days: all of them are days -/
structure Fit (e : Ev) (L : List Int) : Prop where
  rise : L.Pairwise (· < ·)
  days : ∀ x ∈ L, 0 ≤ x ∧ x ≤ 73048
  tos : ∀ m ∈ e.mv, 0 ≤ m.2 ∧ m.2 ≤ 73048

theorem in_rise (e : Ev) (L : List Int) (a b : Int) : (daysIn e L a b).Pairwise (· < ·) := List.Pairwise.filter _ (steps_rise (by omega))
theorem occ_iff {e : Ev} {L : List Int} {x : Int} : occB e L x = true ↔ (x ∈ L ∧ goneB e x = false) ∨ ∃ m ∈ e.mv, m.2 = x ∧ m.1 ∈ L := by
  simp only [occB, Bool.or_eq_true, Bool.and_eq_true, List.contains_iff_mem, Bool.not_eq_true', List.any_eq_true, decide_eq_true_eq]
theorem occ_day {e : Ev} {L : List Int} (h : Fit e L) {x : Int} (hx : occB e L x = true) : 0 ≤ x ∧ x ≤ 73048 := by
  rcases occ_iff.1 hx with ⟨h1, _⟩ | ⟨m, h1, rfl, _⟩
  · exact h.days x h1
  · exact h.tos m h1
theorem in_mem {e : Ev} {L : List Int} (h : Fit e L) {a b x : Int} : x ∈ daysIn e L a b ↔ a ≤ x ∧ x ≤ b ∧ occB e L x = true := by
  unfold daysIn
  rw [List.mem_filter, steps_mem (by omega)]
  simp only [Bool.and_eq_true, decide_eq_true_eq]
  constructor
  · rintro ⟨_, h1, h2⟩; exact ⟨h1.1, h1.2, h2⟩
  · rintro ⟨h1, h2, h3⟩
    obtain ⟨d1, d2⟩ := occ_day h h3
    exact ⟨⟨d1, d2, by omega⟩, ⟨h1, h2⟩, h3⟩
theorem in_eq {e : Ev} {L l : List Int} (h : Fit e L) {a b : Int} (hl : l.Pairwise (· < ·)) (hm : ∀ x, x ∈ l ↔ a ≤ x ∧ x ≤ b ∧ occB e L x = true) : l = daysIn e L a b :=
  rise_ext hl (in_rise e L a b) fun x => (hm x).trans (in_mem h).symm
theorem parts_mem {e : Ev} {L : List Int} (h : Fit e L) {a b x : Int} : x ∈ ruleIn e L a b ++ movesIn e.mv L a b ↔ a ≤ x ∧ x ≤ b ∧ occB e L x = true := by
  rw [List.mem_append, occ_iff, ruleIn, movesIn, List.mem_filter, List.mem_map]
  simp only [List.mem_filter, Bool.and_eq_true, decide_eq_true_eq, Bool.not_eq_true', isB_iff h.rise]
  constructor
  · rintro (⟨h1, ⟨h2, h3⟩, h4⟩ | ⟨m, ⟨h1, ⟨h2, h3⟩, h4⟩, rfl⟩)
    · exact ⟨h2, h3, .inl ⟨h1, h4⟩⟩
    · exact ⟨h2, h3, .inr ⟨m, h1, rfl, h4⟩⟩
  · rintro ⟨h1, h2, ⟨h3, h4⟩ | ⟨m, h3, rfl, h4⟩⟩
    · exact .inl ⟨h3, ⟨h1, h2⟩, h4⟩
    · exact .inr ⟨m, ⟨h3, ⟨h1, h2⟩, h4⟩, rfl⟩
theorem rule_rise {e : Ev} {L : List Int} (h : Fit e L) (a b : Int) : (ruleIn e L a b).Pairwise (· < ·) := List.Pairwise.filter _ h.rise
/-- THE LAW: sorted and compacted it is the days of the span, or both are too many -/
theorem days_law {e : Ev} {L out : List Int} (h : Fit e L) {a b : Int} (hg : Got e L a b out) :
    (1000 < (uniq (out ++ movesIn e.mv L a b)).length ∧ 1000 < (daysIn e L a b).length) ∨ uniq (out ++ movesIn e.mv L a b) = daysIn e L a b := by
  rcases hg with rfl | ⟨h1, h2⟩
  · exact .inr (in_eq h (uniq_rise _) fun x => (uniq_mem _ x).trans (parts_mem h))
  · left
    have hp : out.Pairwise (· < ·) := (rule_rise h a b).sublist h2.sublist
    constructor
    · have := len_sub hp (b := uniq (out ++ movesIn e.mv L a b)) (fun x hx => (uniq_mem _ x).2 (List.mem_append_left _ hx))
      omega
    · have := len_sub hp (b := daysIn e L a b) (fun x hx => (in_mem h).2 ((parts_mem h).1 (List.mem_append_left _ (h2.subset hx))))
      omega
theorem ruleIn_snoc (e : Ev) (p : List Int) (x a b : Int) : ruleIn e (p ++ [x]) a b = ruleIn e p a b ++ (if (decide (a ≤ x ∧ x ≤ b) && !goneB e x) = true then [x] else []) := by
  unfold ruleIn
  rw [List.filter_append]
  congr 1
  simp only [List.filter_cons, List.filter_nil]
theorem ruleIn_stop {e : Ev} {L p : List Int} {x a b : Int} (h : L.Pairwise (· < ·)) (hp : p ++ [x] <+: L) (hx : b < x) : ruleIn e L a b = ruleIn e p a b := by
  obtain ⟨t, rfl⟩ := hp
  unfold ruleIn
  have h2 : ([x] ++ t).filter (fun z => decide (a ≤ z ∧ z ≤ b) && !goneB e z) = [] := by
    rw [List.filter_eq_nil_iff]
    intro z hz
    have h1 : x ≤ z := by
      rcases List.mem_append.1 hz with hz | hz
      · simp at hz; omega
      · have := (List.pairwise_append.1 h).2.2 x (by simp) z hz; omega
    have : ¬ (a ≤ z ∧ z ≤ b) := by omega
    simp [this]
  rw [List.append_assoc, List.filter_append, h2, List.append_nil]
theorem ruleIn_pre {e : Ev} {L p : List Int} {a b : Int} (hp : p <+: L) : ruleIn e p a b <+: ruleIn e L a b := by
  obtain ⟨t, rfl⟩ := hp
  unfold ruleIn
  rw [List.filter_append]; exact List.prefix_append _ _
theorem movesIn_snoc (mv : List (Int × Int)) (m : Int × Int) (L : List Int) (a b : Int) : movesIn (mv ++ [m]) L a b = movesIn mv L a b ++ (if (decide (a ≤ m.2 ∧ m.2 ≤ b) && isB L m.1) = true then [m.2] else []) := by
  unfold movesIn
  rw [List.filter_append, List.map_append]
  congr 1
  simp only [List.filter_cons, List.filter_nil]
  split <;> rfl
/-- is a day covered -/
def covB (e : Ev) (L : List Int) (d : Int) : Bool := rightB d && decide (daysIn e L (d - e.lg + 1) d ≠ [])
theorem cov_iff {e : Ev} {L : List Int} (h : Fit e L) {d : Int} : covB e L d = true ↔ (0 ≤ d ∧ d ≤ 73048) ∧ ∃ x, d - e.lg + 1 ≤ x ∧ x ≤ d ∧ occB e L x = true := by
  unfold covB rightB inB
  rw [Bool.and_eq_true, decide_eq_true_eq, decide_eq_true_eq]
  refine and_congr Iff.rfl ?_
  rw [Ne, List.eq_nil_iff_forall_not_mem]
  constructor
  · intro h1
    refine Classical.byContradiction fun h2 => h1 fun x hx => h2 ?_
    obtain ⟨a, b, c⟩ := (in_mem h).1 hx
    exact ⟨x, a, b, c⟩
  · rintro ⟨x, h1, h2, h3⟩ h4
    exact h4 x ((in_mem h).2 ⟨h1, h2, h3⟩)
/-- a span of so many days holds no more -/
theorem in_len {e : Ev} {L : List Int} (h : Fit e L) {a b : Int} : (daysIn e L a b).length ≤ (b - a + 1).toNat := by
  have := len_sub (in_rise e L a b) (b := steps a 1 b) (fun x hx => by
    obtain ⟨h1, h2, _⟩ := (in_mem h).1 hx
    rw [steps_mem (by omega)]; omega)
  have hl : (steps a 1 b).length = (b - a + 1).toNat := by simp [steps]
  omega
end Evt
end Go.Proofs.YtkhkhbeolhhomaaGreatDoor
end

section
/- package event: gone. -/
namespace Go.Proofs.YtkhkhbeolhhomaaGreatDoor
open Go Go.RowKit Go.Shelf Lmd
attribute [local go_sem] Oper.semAt_some
namespace Evt
open Rul Day Cand Er

set_option maxRecDepth 100000 in
set_option maxHeartbeats 2000000 in
theorem gone_any (e : Ev) (vd vs vm : Value) (d : Int) (w : World) (hr : Rv w e vd vs vm) (hl1 : e.sk.length ≤ 1000000) (hl2 : e.mv.length ≤ 1000000) :
    Calls Tryz.prog 90 #[.agg (e.cells vd vs vm), .int .i64 d] w fun r w' => r = .returned (.bool (goneB e d)) ∧ Below w.heap.size w w' := by
  obtain ⟨a9, c9, rfl⟩ := hr.s.shape
  obtain ⟨W, hW⟩ : ∃ W, w.alloc (.cells (e.cells vd (.slice a9 e.sk.length c9) vm) 38) = W := ⟨_, rfl⟩
  have hB : Below w.heap.size w W := by rw [← hW]; exact (Below.refl _ w).alloc (Nat.le_refl _) _
  have hx : W.heap[w.heap.size]? = some (.cells (e.cells vd (.slice a9 e.sk.length c9) vm) 38) := by rw [← hW]; exact heap_new w _
  have h1 := hasInt_any e.sk _ d W (hr.s.below hB) hl1
  have h2 := froms_any e vd (.slice a9 e.sk.length c9) vm W (hr.m.below hB) hl2
  have h3 := fun v W' (h : Ints.Reads W' v (froms e.mv)) => hasInt_any (froms e.mv) v d W' h (by rw [froms_len]; exact hl2)
  obtain ⟨q1, hq1⟩ : ∃ q, e.sk.contains d = q := ⟨_, rfl⟩
  obtain ⟨q2, hq2⟩ : ∃ q, (froms e.mv).contains d = q := ⟨_, rfl⟩
  obtain ⟨q, hq⟩ : ∃ q, goneB e d = q := ⟨_, rfl⟩
  have hq' : (q1 || q2) = q := by rw [← hq, ← hq1, ← hq2]; rfl
  rw [hq1] at h1
  rw [hq2] at h3
  rw [hq]
  obtain ⟨n9, hn9⟩ : ∃ n, e.sk.length = n := ⟨_, rfl⟩
  rw [hn9] at h1 h2 hx hW ⊢
  have H1 := Lib.hid h1
  have H2 := Lib.hid h2
  have H3 := Lib.hid h3
  have HQ := Lib.hid hq'
  have HB := Lib.hid hB
  have HW := Lib.hid hW
  have HX := Lib.hid hx
  clear hr hl1 hl2 hW hB hx h1 h2 h3 hq1 hq2 hq hq' hn9
  go_enter Tryz.func90, Tryz.ntmps90
  obtain ⟨k0, k1, k2, k3, k4, k5, k6, k7, k8, k9, k10⟩ := cells11 HX.out
  go_upto_region 1 with fail
  rw [HW.out]
  go_wp2_with fail
  (with_reducible refine H1.out.mono ?_)
  rintro e1 w1 ⟨rfl, rfl⟩
  cases q1 with
  | true =>
    go_wp2
    go_ret
    exact ⟨by rw [← HQ.out]; rfl, HB.out⟩
  | false =>
    go_wp2_with fail
    (with_reducible refine H2.out.mono ?_)
    rintro e2 w2 ⟨v2, rfl, hr2, hb2⟩
    have HR2 := Lib.hid hr2
    have HB2 := Lib.hid hb2
    clear hr2 hb2 k0 k1 k2 k3 k4 k5 k6 k7 k8 k9 k10
    go_wp2_with fail
    (with_reducible refine (H3.out _ _ HR2.out).mono ?_)
    rintro e3 w3 ⟨rfl, rfl⟩
    go_wp2
    go_ret
    exact ⟨by rw [← HQ.out]; cases q2 <;> rfl, HB.out.trans (HB2.out.mono HB.out.size)⟩
end Evt
end Go.Proofs.YtkhkhbeolhhomaaGreatDoor
end

section
/- slices.Sort and slices.Compact at numbers in a row of one's own, each in one statement. -/
namespace Go.Proofs.YtkhkhbeolhhomaaGreatDoor
open Go Go.RowKit Go.Shelf Lmd
namespace Evt
open Rul Day Cand

/-- a slice over cells that may be written -/
def RowI (w : World) (v : Value) (xs : List Int) : Prop :=
  (xs = [] ∧ v = .slice none 0 0) ∨ ∃ g off cap t cur, v = .slice (some ⟨g, off, none⟩) xs.length cap ∧ xs.length ≤ cap ∧ w.heap[g]? = some (.cells cur t (0, 0)) ∧ Sort.Holds (Value.int .i64) w g off xs.toArray
theorem arr_el (xs : List Int) (j : Nat) : (xs.toArray)[j]! = Ints.el xs j := by rw [← el_getD]; simp
theorem rowI_own {w : World} {base : Nat} {v : Value} {xs : List Int} (h : w.ownsRow base 3 1 v xs.length (cellsOf xs)) : RowI w v xs := by
  rcases h.2 with ⟨rfl, h0⟩ | ⟨g, cap, cur, rfl, hb, hh, h1, h2, h3, ht⟩
  · exact .inl ⟨List.length_eq_zero_iff.1 h0, rfl⟩
  · refine .inr ⟨g, 0, cap, _, cur, rfl, h1, hh, fun j hj => ?_⟩
    have hj' : j < xs.length := by simpa using hj
    have hc := cellsOf_get hj'
    rw [← ht, Nat.mul_one, List.getElem?_take_of_lt hj'] at hc
    refine ⟨?_, ?_⟩
    · rw [arr_el]
      simp only [World.cell?, hh, Nat.zero_add]
      simpa using hc
    · simp [World.frozen?, hh]
theorem RowI.reads {w : World} {v : Value} {xs : List Int} (h : RowI w v xs) : Ints.Reads w v xs := by
  rcases h with ⟨rfl, rfl⟩ | ⟨g, off, cap, t, cur, rfl, h1, hh, hH⟩
  · exact .inl ⟨rfl, _, _, rfl⟩
  · refine .inr ⟨g, off, cap, rfl, fun j hj => ?_⟩
    have := (hH j (by simpa using hj)).1
    rwa [arr_el] at this
theorem RowI.shape {w : World} {v : Value} {xs : List Int} (h : RowI w v xs) : ∃ a c, v = .slice a xs.length c := by
  rcases h with ⟨rfl, rfl⟩ | ⟨g, off, cap, t, cur, rfl, _⟩
  · exact ⟨_, _, rfl⟩
  · exact ⟨_, _, rfl⟩
theorem grow_old {w : World} {os : Array Obj} {k : Nat} (h : k < w.heap.size) : (Sort.grow w os).heap[k]? = w.heap[k]? := by
  show (w.heap ++ os)[k]? = _
  rw [Array.getElem?_append_left h]
theorem put_size (enc : Int → Value) (w : World) (g off : Nat) (d : Array Int) : (Sort.putRow enc w g off d).heap.size = w.heap.size := by
  simp [Sort.putRow, Sort.mapBlock]
theorem put_other (enc : Int → Value) (w : World) (g off : Nat) (d : Array Int) {k : Nat} (h : k ≠ g) : (Sort.putRow enc w g off d).heap[k]? = w.heap[k]? := by
  simp only [Sort.putRow, Sort.mapBlock, Array.getElem?_modify]
  rw [if_neg (Ne.symm h)]
theorem put_at (enc : Int → Value) (w : World) (g off : Nat) (d : Array Int) {cur : Array Value} {t : TypeId} {fr : Nat × Nat} (h : w.heap[g]? = some (.cells cur t fr)) : (Sort.putRow enc w g off d).heap[g]? = some (.cells (Sort.putCells enc off d cur) t fr) := by
  simp only [Sort.putRow, Sort.mapBlock, Array.getElem?_modify, h, if_true, Option.map_some]
  rfl
theorem grow_nil (w : World) : Sort.grow w #[] = w := by cases w; simp [Sort.grow]
theorem grown_put (enc : Int → Value) (w : World) (n g off : Nat) (d : Array Int) (os : Array Obj) : w.grownBy (Sort.grow (Sort.putRow enc (Sort.ahead w n) g off d) os) (some g) := by
  refine ⟨rfl, rfl, rfl, ?_, fun k hk hne => ?_⟩
  · show w.heap.size ≤ ((Sort.putRow enc (Sort.ahead w n) g off d).heap ++ os).size
    rw [Array.size_append, put_size]; exact Nat.le_add_right _ _
  · have hk2 : k < (Sort.putRow enc (Sort.ahead w n) g off d).heap.size := by rw [put_size]; exact hk
    rw [grow_old hk2, put_other enc _ g off d (fun e => hne (by rw [e]))]
    rfl
theorem holds_grow {enc : Int → Value} {w : World} {g off : Nat} {d : Array Int} {os : Array Obj} (hg : g < w.heap.size) (h : Sort.Holds enc w g off d) : Sort.Holds enc (Sort.grow w os) g off d := fun j hj => by
  have := h j hj
  simp only [World.cell?, World.frozen?] at this ⊢
  rw [grow_old hg]; exact this
theorem sort_len (xs : List Int) : (xs.mergeSort fun x y => decide (x ≤ y)).length = xs.length := List.length_mergeSort xs
theorem row_lt {w : World} {g : Nat} {o : Obj} (h : w.heap[g]? = some o) : g < w.heap.size := (Array.getElem?_eq_some_iff.1 h).1
theorem sort_any (v : Value) (xs : List Int) (w : World) (h : RowI w v xs) (hl : xs.length ≤ 3000000) :
    Calls Tryz.prog 92 #[v] w fun e w' => e = .returned (.tuple #[]) ∧ RowI w' v (xs.mergeSort fun x y => decide (x ≤ y)) ∧ w.grownBy w' v.ownBlock := by
  rcases h with ⟨rfl, rfl⟩ | ⟨g, off, cap, t, cur, rfl, h1, hh, hH⟩
  · exact (Tryz.slices_Sort_int_none none 0 w).mono fun _ _ ⟨h1, h2⟩ => ⟨h1, .inl ⟨by simp, rfl⟩, by rw [h2]; exact World.grownBy.refl _ _⟩
  · have hg := row_lt hh
    refine (Tryz.slices_Sort_int g off cap xs w hH hg (by omega)).mono fun _ _ ⟨h2, n, os, h3⟩ => ⟨h2, .inr ⟨g, off, cap, t, Sort.putCells (Value.int .i64) off (xs.mergeSort fun x y => decide (x ≤ y)).toArray cur, by rw [sort_len], by rw [sort_len]; exact h1, ?_, ?_⟩, by rw [h3]; exact grown_put _ _ _ _ _ _ _⟩
    · rw [h3, grow_old (by rw [put_size]; exact hg)]
      exact put_at _ _ _ _ _ hh
    · rw [h3]
      refine holds_grow (by rw [put_size]; exact hg) ?_
      exact Sort.holds_putRow _ (Sort.ahead w n) g off xs.toArray _ hH (by simp)
theorem own_not {w : World} {base size : Nat} {e : TypeId} {v : Value} {n : Nat} {xs : List Value} (h : w.ownsRow base e size v n xs) {D : Nat} {x : Option (List Deferred)} (hD : w.heap[D]? = some (.deferred x)) : some D ≠ v.ownBlock := by
  intro he
  rcases h.2 with ⟨rfl, _⟩ | ⟨g, cap, cur, rfl, hb, hh, _⟩
  · simp [Value.ownBlock] at he
  · obtain rfl : D = g := by simpa [Value.ownBlock] using he
    rw [hh] at hD; cases hD
theorem rowI_not {w : World} {v : Value} {xs : List Int} (h : RowI w v xs) {D : Nat} {x : Option (List Deferred)} (hD : w.heap[D]? = some (.deferred x)) : some D ≠ v.ownBlock := by
  intro he
  rcases h with ⟨rfl, rfl⟩ | ⟨g, off, cap, t, cur, rfl, _, hh, _⟩
  · simp [Value.ownBlock] at he
  · obtain rfl : D = g := by simpa [Value.ownBlock] using he
    rw [hh] at hD; cases hD
/-- numbers are read behind a store into another block -/
theorem RowI.set {w : World} {v u : Value} {xs : List Int} {b : Nat} (h : RowI w v xs) (hb : some b ≠ v.ownBlock) : RowI (w.setCell ⟨b, 0, none⟩ u) v xs := by
  rcases h with ⟨rfl, rfl⟩ | ⟨g, off, cap, t, cur, rfl, h1, hh, hH⟩
  · exact .inl ⟨rfl, rfl⟩
  · have hne : g ≠ b := fun e => hb (by rw [e]; rfl)
    have hs : (w.setCell ⟨b, 0, none⟩ u).heap[g]? = w.heap[g]? := Below.heap_setCell _ _ _ _ hne
    refine .inr ⟨g, off, cap, t, cur, rfl, h1, hs.trans hh, fun j hj => ?_⟩
    have := hH j hj
    simp only [World.cell?, World.frozen?] at this ⊢
    rw [hs]; exact this
theorem RowI.put {w : World} {v : Value} {xs : List Int} {D : Nat} {o : Obj} (h : RowI w v xs) (hb : some D ≠ v.ownBlock) : RowI (w.putObj D o) v xs := by
  rcases h with ⟨rfl, rfl⟩ | ⟨g, off, cap, t, cur, rfl, h1, hh, hH⟩
  · exact .inl ⟨rfl, rfl⟩
  · have hne : g ≠ D := fun e => hb (by rw [e]; rfl)
    have hs : (w.putObj D o).heap[g]? = w.heap[g]? := World.putObj_heap_other hne
    refine .inr ⟨g, off, cap, t, cur, rfl, h1, hs.trans hh, fun j hj => ?_⟩
    have := hH j hj
    simp only [World.cell?, World.frozen?] at this ⊢
    rw [hs]; exact this
theorem compact_len (xs : List Int) : (Lib.compact xs).length ≤ xs.length := by
  unfold Lib.compact Lib.compactUpTo
  rw [List.length_map]
  exact Nat.le_trans (List.length_filter_le _ _) (by simp)
theorem compact_any (v : Value) (xs : List Int) (w : World) (h : RowI w v xs) (hl : xs.length ≤ 3000000) :
    Calls Tryz.prog 93 #[v] w fun e w' => ∃ v', e = .returned v' ∧ RowI w' v' (Lib.compact xs) ∧ v'.ownBlock = v.ownBlock ∧ w.grownBy w' v.ownBlock := by
  rcases h with ⟨rfl, rfl⟩ | ⟨g, off, cap, t, cur, rfl, h1, hh, hH⟩
  · exact (Tryz.slices_Compact_int_empty none 0 w).mono fun _ _ ⟨h1, h2⟩ => ⟨_, h1, .inl ⟨rfl, rfl⟩, rfl, by rw [h2]; exact World.grownBy.refl _ _⟩
  · have hg := row_lt hh
    have hcl := compact_len xs
    refine (Tryz.slices_Compact_int g off cap xs w hH (by omega) h1).mono fun _ _ ⟨h2, q, h3⟩ => ⟨_, h2, .inr ⟨g, off, cap, t, Sort.putCells (Value.int .i64) off (Lib.compact xs ++ List.replicate (xs.length - (Lib.compact xs).length) 0).toArray cur, rfl, by omega, ?_, ?_⟩, rfl, ?_⟩
    · rw [h3]; exact put_at _ _ _ _ _ hh
    · rw [h3]
      have := Sort.holds_putRow (Value.int .i64) (Sort.ahead w q) g off xs.toArray (Lib.compact xs ++ List.replicate (xs.length - (Lib.compact xs).length) 0).toArray hH (by simp; omega)
      intro j hj
      have hj' : j < (Lib.compact xs).length := by simpa using hj
      have h4 := this j (by simp; omega)
      rw [arr_el] at h4 ⊢
      have e : Ints.el (Lib.compact xs ++ List.replicate (xs.length - (Lib.compact xs).length) 0) j = Ints.el (Lib.compact xs) j := by
        unfold Ints.el
        rw [List.getElem?_append_left hj']
      rw [e] at h4
      exact h4
    · rw [h3]
      have := grown_put (Value.int .i64) w q g off (Lib.compact xs ++ List.replicate (xs.length - (Lib.compact xs).length) 0).toArray #[]
      rw [grow_nil] at this
      exact this
end Evt
end Go.Proofs.YtkhkhbeolhhomaaGreatDoor
end
