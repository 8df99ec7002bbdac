/- Plain facts for the reference of expand: its test of a candidate, its list of all days, its step. No program stands here. -/
import Derived.Test.YtkhkhbeolhhomaaGreatDoorAll
namespace Lmd.Cal
theorem num_28 {y m d y' m' : Int} (h : Ok y m d) (h' : Ok y' m' d) (hl : y < y' ∨ y = y' ∧ m < m') : num y m d + 28 ≤ num y' m' d := by
  obtain ⟨a, b, c, f, g, _⟩ := ok_range h
  obtain ⟨a', b', c', f', g', _⟩ := ok_range h'
  have hd := dim_bd y m
  have hc' := cum_bd y' m' c' (by omega)
  have hs := cum_succ y m c f
  have hm := cum_mono y (m + 1) 13 (by omega) (by omega) (by omega)
  have hl2 := cum_last y
  have hy := yrs_succ y a
  unfold num
  rcases hl with l | ⟨rfl, l⟩
  · have := yrs_mono (a := y + 1) (b := y') (by omega) (by omega); omega
  · have := cum_mono y (m + 1) m' (by omega) (by omega) (by omega); omega
theorem addV_28 {k k' d : Int} (h : addB k d = true) (h' : addB k' d = true) (hk : k < k') : addV k d + 28 ≤ addV k' d := by
  rw [addV_yes h, addV_yes h']
  exact num_28 (addB_yes h).2 (addB_yes h').2 (by omega)
theorem cum_next {y m : Int} (h1 : 1 ≤ m) (h2 : m ≤ 12) : cum y m ≤ 335 ∧ 365 ≤ 337 + feb y + cum (y + 1) m - cum y m := by
  have hf := feb_bd y
  have hf2 := feb_bd (y + 1)
  have hc : m = 1 ∨ m = 2 ∨ m = 3 ∨ m = 4 ∨ m = 5 ∨ m = 6 ∨ m = 7 ∨ m = 8 ∨ m = 9 ∨ m = 10 ∨ m = 11 ∨ m = 12 := by omega
  rcases hc with rfl | rfl | rfl | rfl | rfl | rfl | rfl | rfl | rfl | rfl | rfl | rfl <;> simp [cum] <;> omega
theorem num_365 {y m d y' m' : Int} (h : Ok y m d) (h' : Ok y' m' d) (hl : 12 * y + m + 12 ≤ 12 * y' + m') : num y m d + 365 ≤ num y' m' d := by
  obtain ⟨a, b, c, f, g, _⟩ := ok_range h
  obtain ⟨a', b', c', f', g', _⟩ := ok_range h'
  have hn := cum_next (y := y) c f
  have hc' := cum_bd y' m' c' (by omega)
  have hy := yrs_succ y a
  have hf := feb_bd y
  unfold num
  by_cases e : y' = y + 1
  · subst e
    have := cum_mono (y + 1) m m' (by omega) (by omega) (by omega)
    omega
  · have h2 := yrs_succ (y + 1) (by omega)
    have hf1 := feb_bd (y + 1)
    have := yrs_mono (a := y + 1 + 1) (b := y') (by omega) (by omega)
    omega
theorem addV_365 {k k' d : Int} (h : addB k d = true) (h' : addB k' d = true) (hk : k + 12 ≤ k') : addV k d + 365 ≤ addV k' d := by
  rw [addV_yes h, addV_yes h']
  exact num_365 (addB_yes h).2 (addB_yes h').2 (by omega)
end Lmd.Cal
namespace Go.Proofs.YtkhkhbeolhhomaaGreatDoor
open Go Go.RowKit Lmd
namespace Cand
open Rul

/-- two rising lists with the same members are one -/
theorem rise_ext : ∀ {a b : List Int}, a.Pairwise (· < ·) → b.Pairwise (· < ·) → (∀ x, x ∈ a ↔ x ∈ b) → a = b
  | [], [], _, _, _ => rfl
  | [], y :: ys, _, _, h => by have := (h y).2 (by simp); cases this
  | x :: xs, [], _, _, h => by have := (h x).1 (by simp); cases this
  | x :: xs, y :: ys, ha, hb, h => by
    have pa := List.pairwise_cons.1 ha
    have pb := List.pairwise_cons.1 hb
    have e : x = y := by
      rcases List.mem_cons.1 ((h x).1 (by simp)) with e | e
      · exact e
      · rcases List.mem_cons.1 ((h y).2 (by simp)) with e2 | e2
        · exact e2.symm
        · have := pa.1 y e2; have := pb.1 x e; omega
    subst e
    rw [rise_ext pa.2 pb.2 fun z => ?_]
    constructor
    · intro hz
      rcases List.mem_cons.1 ((h z).1 (List.mem_cons_of_mem _ hz)) with e | e
      · have := pa.1 z hz; omega
      · exact e
    · intro hz
      rcases List.mem_cons.1 ((h z).2 (List.mem_cons_of_mem _ hz)) with e | e
      · have := pb.1 z hz; omega
      · exact e
/-- those below a day -/
def lows (c : List Int) (d : Int) : List Int := c.filter fun x => decide (x < d)
theorem lows_mem {c : List Int} {d x : Int} : x ∈ lows c d ↔ x ∈ c ∧ x < d := by simp [lows]
theorem lows_rise {c : List Int} {d : Int} (h : c.Pairwise (· < ·)) : (lows c d).Pairwise (· < ·) := List.Pairwise.filter _ h
theorem lows_start {c : List Int} {d : Int} (h : ∀ x ∈ c, d ≤ x) : lows c d = [] := by
  rw [lows, List.filter_eq_nil_iff]; intro x hx; have := h x hx; simp; omega
theorem lows_yes {c : List Int} {d s : Int} (h : c.Pairwise (· < ·)) (hd : d ∈ c) (hs : 0 < s) (hg : ∀ x ∈ c, d < x → d + s ≤ x) : lows c (d + s) = lows c d ++ [d] := by
  refine rise_ext (lows_rise h) ?_ ?_
  · rw [List.pairwise_append]
    exact ⟨lows_rise h, by simp, fun a ha b hb => by simp at hb; subst hb; exact (lows_mem.1 ha).2⟩
  · intro x
    rw [lows_mem, List.mem_append, lows_mem]
    simp only [List.mem_singleton]
    constructor
    · rintro ⟨h1, h2⟩
      by_cases hx : x < d
      · exact .inl ⟨h1, hx⟩
      · by_cases e : x = d
        · exact .inr e
        · have := hg x h1 (by omega); omega
    · rintro (⟨h1, h2⟩ | rfl)
      · exact ⟨h1, by omega⟩
      · exact ⟨hd, by omega⟩
theorem lows_no {c : List Int} {d : Int} (h : c.Pairwise (· < ·)) (hd : d ∉ c) : lows c (d + 1) = lows c d := by
  refine rise_ext (lows_rise h) (lows_rise h) fun x => ?_
  rw [lows_mem, lows_mem]
  constructor
  · rintro ⟨h1, h2⟩
    refine ⟨h1, ?_⟩
    by_cases e : x = d
    · subst e; exact absurd h1 hd
    · omega
  · rintro ⟨h1, h2⟩; exact ⟨h1, by omega⟩
/-- what lies behind those below a day -/
theorem lows_split {c : List Int} (h : c.Pairwise (· < ·)) (d : Int) : ∃ t, c = lows c d ++ t ∧ ∀ x ∈ t, d ≤ x := by
  refine ⟨c.filter fun x => decide (d ≤ x), ?_, fun x hx => by simpa using (List.mem_filter.1 hx).2⟩
  refine rise_ext h ?_ fun x => ?_
  · rw [List.pairwise_append]
    refine ⟨lows_rise h, List.Pairwise.filter _ h, fun a ha b hb => ?_⟩
    have h1 := (lows_mem.1 ha).2
    have h2 : d ≤ b := by simpa using (List.mem_filter.1 hb).2
    omega
  · rw [List.mem_append, lows_mem, List.mem_filter]
    simp only [decide_eq_true_eq]
    constructor
    · intro hx
      by_cases e : x < d
      · exact .inl ⟨hx, e⟩
      · exact .inr ⟨hx, by omega⟩
    · rintro (⟨h1, _⟩ | ⟨h1, _⟩) <;> exact h1
/-- the end of the reference's loop -/
theorem all_end {c : List Int} (h : c.Pairwise (· < ·)) {ct un tt d : Int} (hg : Goes ct un (lows c d)) (ht : ∀ x ∈ lows c d, x ≤ tt)
    (he : (un ≠ -1 ∧ un < d) ∨ (0 < ct ∧ ct ≤ (lows c d).length) ∨ tt < d ∨ ∀ x ∈ c, x < d) : (daysOf ct un c).filter (fun x => decide (x ≤ tt)) = lows c d := by
  obtain ⟨t, hc, hr⟩ := lows_split h d
  have hf : (lows c d).filter (fun x => decide (x ≤ tt)) = lows c d := by
    rw [List.filter_eq_self]; intro x hx; simpa using ht x hx
  have hext : ∀ e : List Int, daysOf ct un c = lows c d ++ e → (∀ x ∈ e, tt < x) → (daysOf ct un c).filter (fun x => decide (x ≤ tt)) = lows c d := fun e h1 h2 => by
    rw [h1, List.filter_append, hf, List.filter_eq_nil_iff.2 (fun x hx => by have := h2 x hx; simp; omega), List.append_nil]
  have hd := daysOf_goes (t := t) hg
  rw [← hc] at hd
  have hlen := hg.1
  rcases he with ⟨h1, h2⟩ | ⟨h1, h2⟩ | h1 | h1
  · have hw : t.takeWhile (under un) = [] := by
      cases t with
      | nil => rfl
      | cons x xs =>
        have := hr x (by simp)
        have hu : under un x = false := by simp only [under, decide_eq_false_iff_not]; omega
        rw [List.takeWhile_cons, hu]; rfl
    rw [hw] at hd
    exact hext [] (by rw [hd]; split <;> simp) (by simp)
  · have : ct.toNat - (lows c d).length = 0 := by omega
    rw [if_pos h1, this] at hd
    exact hext [] (by rw [hd]; simp) (by simp)
  · refine hext _ hd fun x hx => ?_
    have hm : x ∈ t := by
      split at hx
      · exact (List.takeWhile_sublist _).subset ((List.take_sublist _ _).subset hx)
      · exact (List.takeWhile_sublist _).subset hx
    have := hr x hm; omega
  · have hn : t = [] := by
      cases t with
      | nil => rfl
      | cons x xs =>
        have a1 := hr x (by simp)
        have a2 := h1 x (by rw [hc]; simp)
        omega
    subst hn
    exact hext [] (by rw [hd]; split <;> simp) (by simp)

/-- how far candidates lie apart, at least -/
def stepB (r : Ru) : Int := if r.fq.toList = [109, 111, 110, 116, 104, 108, 121] then 28 else if r.fq.toList = [121, 101, 97, 114, 108, 121] then 365 else 1
theorem steps_diff {a s hi x z : Int} (hs : 0 < s) (hx : x ∈ steps a s hi) (hz : z ∈ steps a s hi) (h : x < z) : x + s ≤ z := by
  have h1 := ((steps_mem hs).1 hx).2.2
  have h2 := ((steps_mem hs).1 hz).2.2
  have e1 := Int.emod_add_mul_ediv (x - a) s
  have e2 := Int.emod_add_mul_ediv (z - a) s
  have h3 : (x - a) / s < (z - a) / s := by
    by_cases hle : (z - a) / s ≤ (x - a) / s
    · have := Int.mul_le_mul_of_nonneg_left hle (by omega : 0 ≤ s); omega
    · omega
  have h4 : s * ((x - a) / s + 1) ≤ s * ((z - a) / s) := Int.mul_le_mul_of_nonneg_left (by omega) (by omega)
  rw [Int.mul_add, Int.mul_one] at h4
  omega
theorem cands_gap {start y m d : Int} {r : Ru} (he : 1 ≤ r.ev) {x z : Int} (hx : x ∈ cands start y m d r) (hz : z ∈ cands start y m d r) (h : x < z) : x + stepB r ≤ z := by
  unfold stepB
  by_cases h1 : r.fq.toList = [109, 111, 110, 116, 104, 108, 121] ∨ r.fq.toList = [121, 101, 97, 114, 108, 121]
  · have hc : cands start y m d r = mons y m d (r.ev * mulOf r.fq) := by
      unfold cands
      rw [if_neg (by rcases h1 with e | e <;> rw [e] <;> decide), if_neg (by rcases h1 with e | e <;> rw [e] <;> decide), if_neg (by rcases h1 with e | e <;> rw [e] <;> decide)]
    rw [hc] at hx hz
    have hm1 : 1 ≤ mulOf r.fq := by unfold mulOf; split <;> omega
    have hs := Int.mul_le_mul he hm1 (by omega) (by omega)
    rw [mons, List.mem_flatMap] at hx hz
    obtain ⟨k, hk, hx⟩ := hx
    obtain ⟨l, hl, hz⟩ := hz
    unfold monC at hx hz
    split at hx
    · rename_i hB1
      split at hz
      · rename_i hB2
        simp at hx hz
        subst hx; subst hz
        have hkl : k < l := by
          rcases Int.lt_trichotomy k l with e | e | e
          · exact e
          · subst e; omega
          · have := Cal.addV_lt hB2 hB1 (by unfold Cal.kth; omega : Cal.kth y m l < Cal.kth y m k); omega
        have hd := steps_diff (by omega) hk hl hkl
        rcases h1 with e | e
        · rw [if_pos e]
          exact Cal.addV_28 hB1 hB2 (by unfold Cal.kth; omega)
        · rw [if_neg (by rw [e]; decide), if_pos e]
          have hm : mulOf r.fq = 12 := mulOf_yes e
          rw [hm] at hd
          exact Cal.addV_365 hB1 hB2 (by unfold Cal.kth; omega)
      · simp at hz
    · simp at hx
  · rw [if_neg (fun e => h1 (.inl e)), if_neg (fun e => h1 (.inr e))]; omega
/-- what is tested to be a candidate -/
def candB (start y m d z n b : Int) (r : Ru) (x : Int) : Bool :=
  if r.fq.toList = [111, 110, 99, 101] then decide (x = start) else if r.fq.toList = [100, 97, 105, 108, 121] then decide ((x - start) % r.ev = 0)
  else if r.fq.toList = [119, 101, 101, 107, 108, 121] then decide (((x - (x + 5) % 7 - (start - (start + 5) % 7)) / 7) % r.ev = 0) && decide ((x + 5) % 7 ∈ wdays start r.ds)
  else decide (d = b) && (if r.fq.toList = [121, 101, 97, 114, 108, 121] then decide (n = m) && decide ((z - y) % r.ev = 0) else decide ((12 * (z - y) + n - m) % r.ev = 0))
theorem candB_iff {start y m d z n b x : Int} {r : Ru} (ha : Cal.At start y m d) (hx : Cal.At x z n b) (he : 1 ≤ r.ev) (hd : daysB r.ds = true) (hle : start ≤ x) : candB start y m d z n b r x = true ↔ x ∈ cands start y m d r := by
  have hb := Cal.at_bd ha
  have hbx := Cal.at_bd hx
  unfold candB cands
  by_cases h1 : r.fq.toList = [111, 110, 99, 101]
  · rw [if_pos h1, if_pos h1]; simp
  rw [if_neg h1, if_neg h1]
  by_cases h2 : r.fq.toList = [100, 97, 105, 108, 121]
  · rw [if_pos h2, if_pos h2, steps_mem (by omega)]
    simp only [decide_eq_true_eq]; omega
  rw [if_neg h2, if_neg h2]
  by_cases h3 : r.fq.toList = [119, 101, 101, 107, 108, 121]
  · rw [if_pos h3, if_pos h3]
    have hw : ∀ k ∈ wdays start r.ds, 0 ≤ k ∧ k ≤ 6 := by
      unfold wdays; split
      · intro k hk; simp at hk; omega
      · exact days_in hd
    simp only [Bool.and_eq_true, decide_eq_true_eq, wks, List.mem_flatMap, wkC_mem]
    obtain ⟨q, hq⟩ : ∃ q, (x - (x + 5) % 7 - (start - (start + 5) % 7)) / 7 = q := ⟨_, rfl⟩
    have hq7 : x - (x + 5) % 7 - (start - (start + 5) % 7) = 7 * q := by omega
    rw [hq]
    have hdv : (7 * q) % (7 * r.ev) = 0 ↔ q % r.ev = 0 := by
      rw [Int.mul_emod_mul_of_pos _ _ (by omega : (0:Int) < 7)]; omega
    constructor
    · rintro ⟨g1, g2⟩
      refine ⟨x - (x + 5) % 7, ?_, by rw [show x - (x - (x + 5) % 7) = (x + 5) % 7 by omega]; exact g2, hle, hbx.2⟩
      rw [steps_mem (by omega)]
      exact ⟨by omega, by omega, by rw [hq7]; exact hdv.2 g1⟩
    · rintro ⟨k, hk, g2, _, _⟩
      have hk2 := (steps_mem (by omega)).1 hk
      have hr := hw _ g2
      have h7 : (k - (start - (start + 5) % 7)) % 7 = 0 := Int.emod_eq_zero_of_dvd (Int.dvd_trans ⟨r.ev, rfl⟩ (Int.dvd_of_emod_eq_zero hk2.2.2))
      have hkx : k = x - (x + 5) % 7 := by omega
      refine ⟨hdv.1 ?_, by rw [show (x + 5) % 7 = x - k by omega]; exact g2⟩
      rw [← hq7, ← hkx]; exact hk2.2.2
  rw [if_neg h3, if_neg h3]
  obtain ⟨p1, p2⟩ := ha
  obtain ⟨q1, q2⟩ := hx
  have hr := Cal.ok_range p1
  have hr2 := Cal.ok_range q1
  have hm1 : 1 ≤ mulOf r.fq := by unfold mulOf; split <;> omega
  have hs := Int.mul_le_mul he hm1 (by omega) (by omega)
  have key : x ∈ mons y m d (r.ev * mulOf r.fq) ↔ d = b ∧ (12 * (z - y) + n - m) % (r.ev * mulOf r.fq) = 0 := by
    rw [mons, List.mem_flatMap]
    constructor
    · rintro ⟨k, hk, hm⟩
      unfold monC at hm
      split at hm
      · rename_i hB
        simp at hm
        have := Cal.addV_at hB
        rw [← hm] at this
        obtain ⟨e1, e2, e3⟩ := Cal.at_unique ⟨q1, q2⟩ this
        have hk2 := (steps_mem (by omega)).1 hk
        refine ⟨e3.symm, ?_⟩
        have : 12 * (z - y) + n - m = k := by rw [e1, e2]; unfold Cal.kth; omega
        rw [this]; simpa using hk2.2.2
      · simp at hm
    · rintro ⟨rfl, hmod⟩
      have hk0 : 0 ≤ 12 * (z - y) + n - m := by
        by_cases hc : z < y ∨ z = y ∧ n < m
        · have := Cal.num_lt q1 p1 (by omega); omega
        · omega
      refine ⟨12 * (z - y) + n - m, ?_, ?_⟩
      · rw [steps_mem (by omega)]
        exact ⟨hk0, by omega, by simpa using hmod⟩
      · have hkth : Cal.kth y m (12 * (z - y) + n - m) = 12 * (z - 2000) + n - 1 := by unfold Cal.kth; omega
        unfold monC
        rw [hkth]
        have e1 : 2000 + (12 * (z - 2000) + n - 1) / 12 = z := by omega
        have e2 : (12 * (z - 2000) + n - 1) % 12 + 1 = n := by omega
        have hB : Cal.addB (12 * (z - 2000) + n - 1) d = true := by
          unfold Cal.addB
          rw [e1, e2, Cal.okB_true q1]
          simp; omega
        rw [if_pos hB, Cal.addV_yes hB, e1, e2, q2]; simp
  rw [key]
  by_cases h4 : r.fq.toList = [121, 101, 97, 114, 108, 121]
  · rw [if_pos h4, mulOf_yes h4]
    simp only [Bool.and_eq_true, decide_eq_true_eq]
    have : (12 * (z - y) + n - m) % (r.ev * 12) = 0 ↔ n = m ∧ (z - y) % r.ev = 0 := by
      constructor
      · intro h
        have h12 : (12 * (z - y) + n - m) % 12 = 0 := Int.emod_eq_zero_of_dvd (Int.dvd_trans ⟨r.ev, by rw [Int.mul_comm]⟩ (Int.dvd_of_emod_eq_zero h))
        have e : n = m := by omega
        refine ⟨e, ?_⟩
        rw [e, show 12 * (z - y) + m - m = 12 * (z - y) by omega, Int.mul_comm r.ev 12, Int.mul_emod_mul_of_pos _ _ (by omega : (0:Int) < 12)] at h
        omega
      · rintro ⟨e, h⟩
        rw [e, show 12 * (z - y) + m - m = 12 * (z - y) by omega, Int.mul_comm r.ev 12, Int.mul_emod_mul_of_pos _ _ (by omega : (0:Int) < 12)]
        omega
    rw [this]
  · rw [if_neg h4, mulOf_no h4, Int.mul_one]
    simp only [Bool.and_eq_true, decide_eq_true_eq]
/-- those of a span -/
def spanOf (l : List Int) (a b : Int) : List Int := l.filter fun x => decide (a ≤ x ∧ x ≤ b)
/-- the reference's test -/
theorem one_in {c : List Int} (h : c.Pairwise (· < ·)) {ct un x : Int} (hx : x ∈ c) (hu : under un x = true) (h0 : ct ≤ 0) : x ∈ daysOf ct un c := by
  unfold daysOf
  rw [if_neg (by omega)]
  induction c with
  | nil => cases hx
  | cons a tl ih =>
    have hp := List.pairwise_cons.1 h
    rcases List.mem_cons.1 hx with e | e
    · subst e; rw [List.takeWhile_cons, hu]; simp
    · have ha : under un a = true := by
        have := hp.1 x e
        simp only [under, decide_eq_true_eq] at hu ⊢; omega
      rw [List.takeWhile_cons, ha]
      exact List.mem_cons_of_mem _ (ih hp.2 e)
theorem one_out {c : List Int} {ct un x : Int} (hx : x ∈ daysOf ct un c) : x ∈ c ∧ under un x = true := by
  refine ⟨(daysOf_sub ct un c).subset hx, ?_⟩
  unfold daysOf at hx
  split at hx
  · exact List.all_eq_true.1 List.all_takeWhile x ((List.take_sublist _ _).subset hx)
  · exact List.all_eq_true.1 List.all_takeWhile x hx

end Cand
end Go.Proofs.YtkhkhbeolhhomaaGreatDoor
