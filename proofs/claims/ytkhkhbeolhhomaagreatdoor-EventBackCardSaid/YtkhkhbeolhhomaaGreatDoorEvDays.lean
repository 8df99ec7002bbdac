/- The days of an event, in plain Lean: what Days tells out of what its loops take; no program stands here. -/
import Derived.Test.YtkhkhbeolhhomaaGreatDoorEvPlain
import Derived.Test.YtkhkhbeolhhomaaGreatDoorExpLaw
import Derived.Lib.SlicesCompact
namespace Lmd.Cpt
open Go Go.Lib

theorem get_snoc {d : List Int} {m : Nat} (h : m < d.length) : d.take (m + 1) = d.take m ++ [d[m]] := by
  rw [List.take_add_one, List.getElem?_eq_getElem h]; rfl
/-- of a list that does not fall: what is kept of its first places rises, ends where they end, and has their members -/
theorem compact_upto {d : List Int} (h : d.Pairwise (· ≤ ·)) : ∀ m, m ≤ d.length → (compactUpTo d.toArray m).Pairwise (· < ·) ∧ (∀ x, x ∈ compactUpTo d.toArray m ↔ x ∈ d.take m)
  | 0, _ => by simp [compactUpTo]
  | m + 1, hm => by
    obtain ⟨h1, h2⟩ := compact_upto h m (by omega)
    have hlt : m < d.length := by omega
    rw [compactUpTo_succ, get_snoc hlt]
    have hg : d.toArray[m]! = d[m] := by simp [getElem!_pos, hlt]
    by_cases h0 : m = 0
    · subst h0
      have hk : keeps d.toArray 0 = true := by simp [keeps]
      rw [hk, hg]
      simp [compactUpTo]
    · have hl2 : m - 1 < d.length := by omega
      have hg2 : d.toArray[m - 1]! = d[m - 1] := by simp [getElem!_pos, hl2]
      have hle : ∀ x ∈ d.take m, x ≤ d[m - 1] := by
        intro x hx
        obtain ⟨i, hi, rfl⟩ := List.getElem_of_mem hx
        rw [List.length_take] at hi
        rw [List.getElem_take]
        by_cases e : i = m - 1
        · subst e; exact Int.le_refl _
        · exact List.pairwise_iff_getElem.1 h i (m - 1) (by omega) hl2 (by omega)
      have hmm : d[m - 1] ≤ d[m] := List.pairwise_iff_getElem.1 h (m - 1) m hl2 hlt (by omega)
      by_cases e : d[m] = d[m - 1]
      · have hk : keeps d.toArray m = false := keeps_neg (by omega) (by rw [hg, hg2]; exact e)
        rw [hk]
        simp only [Bool.false_eq_true, if_false, List.append_nil]
        refine ⟨h1, fun x => ?_⟩
        rw [h2 x, List.mem_append, List.mem_singleton]
        constructor
        · exact .inl
        · rintro (hx | rfl)
          · exact hx
          · rw [e]
            have : (d.take m)[m - 1]'(by rw [List.length_take]; omega) = d[m - 1] := List.getElem_take
            rw [← this]; exact List.getElem_mem _
      · have hk : keeps d.toArray m = true := keeps_pos (by rw [hg, hg2]; exact e)
        rw [hk, hg]
        simp only [if_true]
        refine ⟨?_, fun x => ?_⟩
        · rw [List.pairwise_append]
          refine ⟨h1, by simp, fun a ha b hb => ?_⟩
          simp at hb; subst hb
          have := hle a ((h2 a).1 ha)
          omega
        · rw [List.mem_append, List.mem_append, h2 x]
/-- compaction of a list that does not fall -/
theorem compact_rise {d : List Int} (h : d.Pairwise (· ≤ ·)) : (compact d).Pairwise (· < ·) ∧ ∀ x, x ∈ compact d ↔ x ∈ d := by
  have := compact_upto h d.length (Nat.le_refl _)
  rw [List.take_length] at this
  exact this
theorem sort_rise (l : List Int) : (l.mergeSort fun x y => decide (x ≤ y)).Pairwise (· ≤ ·) := by
  have := List.pairwise_mergeSort (le := fun x y : Int => decide (x ≤ y)) (fun a b c h1 h2 => by simp at *; omega) (fun a b => by simp; omega) l
  exact this.imp (fun h => by simpa using h)
theorem sort_mem (l : List Int) (x : Int) : x ∈ (l.mergeSort fun x y => decide (x ≤ y)) ↔ x ∈ l := (List.mergeSort_perm l _).mem_iff
/-- sorted, then compacted -/
def uniq (l : List Int) : List Int := compact (l.mergeSort fun x y => decide (x ≤ y))
theorem uniq_rise (l : List Int) : (uniq l).Pairwise (· < ·) := (compact_rise (sort_rise l)).1
theorem uniq_mem (l : List Int) (x : Int) : x ∈ uniq l ↔ x ∈ l := ((compact_rise (sort_rise l)).2 x).trans (sort_mem l x)
/-- a rising list within another list is no longer -/
theorem len_sub : ∀ {a b : List Int}, a.Pairwise (· < ·) → (∀ x ∈ a, x ∈ b) → a.length ≤ b.length
  | [], _, _, _ => Nat.zero_le _
  | x :: t, b, ha, h => by
    have hp := List.pairwise_cons.1 ha
    have hx := h x (by simp)
    have := len_sub (a := t) (b := b.erase x) hp.2 (fun y hy => by
      have : y ≠ x := by have := hp.1 y hy; omega
      exact (List.mem_erase_of_ne this).2 (h y (by simp [hy])))
    rw [List.length_erase_of_mem hx] at this
    have : 0 < b.length := List.length_pos_of_mem hx
    simp only [List.length_cons]; omega
end Lmd.Cpt
namespace Go.Proofs.YtkhkhbeolhhomaaGreatDoor
open Go Go.RowKit Lmd
namespace Evt
open Rul Day Cand Cpt

def goneB (e : Ev) (d : Int) : Bool := e.sk.contains d || (froms e.mv).contains d
/-- is a day one of an event's, L its rule's days -/
def occB (e : Ev) (L : List Int) (x : Int) : Bool := (L.contains x && !goneB e x) || e.mv.any fun m => decide (m.2 = x) && L.contains m.1
/-- rising: those of a span -/
def daysIn (e : Ev) (L : List Int) (a b : Int) : List Int := (steps 0 1 73048).filter fun x => decide (a ≤ x ∧ x ≤ b) && occB e L x
/-- what the first loop takes -/
def ruleIn (e : Ev) (L : List Int) (a b : Int) : List Int := L.filter fun x => decide (a ≤ x ∧ x ≤ b) && !goneB e x
/-- what the second loop takes -/
def movesIn (mv : List (Int × Int)) (L : List Int) (a b : Int) : List Int := (mv.filter fun m => decide (a ≤ m.2 ∧ m.2 ≤ b) && isB L m.1).map Prod.snd
/-- the first loop's end: all, or too many -/
def Got (e : Ev) (L : List Int) (a b : Int) (out : List Int) : Prop := out = ruleIn e L a b ∨ (1000 < out.length ∧ out <+: ruleIn e L a b)

/-- what is asked of an event and its rule's days: all of them are days -/
structure Fit (e : Ev) (L : List Int) : Prop where
  rise : L.Pairwise (· < ·)
  days : ∀ x ∈ L, 0 ≤ x ∧ x ≤ 73048
  tos : ∀ m ∈ e.mv, 0 ≤ m.2 ∧ m.2 ≤ 73048

theorem in_rise (e : Ev) (L : List Int) (a b : Int) : (daysIn e L a b).Pairwise (· < ·) := List.Pairwise.filter _ (steps_rise (by omega))
theorem occ_iff {e : Ev} {L : List Int} {x : Int} : occB e L x = true ↔ (x ∈ L ∧ goneB e x = false) ∨ ∃ m ∈ e.mv, m.2 = x ∧ m.1 ∈ L := by
  simp only [occB, Bool.or_eq_true, Bool.and_eq_true, List.contains_iff_mem, Bool.not_eq_true', List.any_eq_true, decide_eq_true_eq]
theorem occ_day {e : Ev} {L : List Int} (h : Fit e L) {x : Int} (hx : occB e L x = true) : 0 ≤ x ∧ x ≤ 73048 := by
  rcases occ_iff.1 hx with ⟨h1, _⟩ | ⟨m, h1, rfl, _⟩
  · exact h.days x h1
  · exact h.tos m h1
theorem in_mem {e : Ev} {L : List Int} (h : Fit e L) {a b x : Int} : x ∈ daysIn e L a b ↔ a ≤ x ∧ x ≤ b ∧ occB e L x = true := by
  unfold daysIn
  rw [List.mem_filter, steps_mem (by omega)]
  simp only [Bool.and_eq_true, decide_eq_true_eq]
  constructor
  · rintro ⟨_, h1, h2⟩; exact ⟨h1.1, h1.2, h2⟩
  · rintro ⟨h1, h2, h3⟩
    obtain ⟨d1, d2⟩ := occ_day h h3
    exact ⟨⟨d1, d2, by omega⟩, ⟨h1, h2⟩, h3⟩
theorem in_eq {e : Ev} {L l : List Int} (h : Fit e L) {a b : Int} (hl : l.Pairwise (· < ·)) (hm : ∀ x, x ∈ l ↔ a ≤ x ∧ x ≤ b ∧ occB e L x = true) : l = daysIn e L a b :=
  rise_ext hl (in_rise e L a b) fun x => (hm x).trans (in_mem h).symm
theorem parts_mem {e : Ev} {L : List Int} (h : Fit e L) {a b x : Int} : x ∈ ruleIn e L a b ++ movesIn e.mv L a b ↔ a ≤ x ∧ x ≤ b ∧ occB e L x = true := by
  rw [List.mem_append, occ_iff, ruleIn, movesIn, List.mem_filter, List.mem_map]
  simp only [List.mem_filter, Bool.and_eq_true, decide_eq_true_eq, Bool.not_eq_true', isB_iff h.rise]
  constructor
  · rintro (⟨h1, ⟨h2, h3⟩, h4⟩ | ⟨m, ⟨h1, ⟨h2, h3⟩, h4⟩, rfl⟩)
    · exact ⟨h2, h3, .inl ⟨h1, h4⟩⟩
    · exact ⟨h2, h3, .inr ⟨m, h1, rfl, h4⟩⟩
  · rintro ⟨h1, h2, ⟨h3, h4⟩ | ⟨m, h3, rfl, h4⟩⟩
    · exact .inl ⟨h3, ⟨h1, h2⟩, h4⟩
    · exact .inr ⟨m, ⟨h3, ⟨h1, h2⟩, h4⟩, rfl⟩
theorem rule_rise {e : Ev} {L : List Int} (h : Fit e L) (a b : Int) : (ruleIn e L a b).Pairwise (· < ·) := List.Pairwise.filter _ h.rise
/-- THE LAW: sorted and compacted it is the days of the span, or both are too many -/
theorem days_law {e : Ev} {L out : List Int} (h : Fit e L) {a b : Int} (hg : Got e L a b out) :
    (1000 < (uniq (out ++ movesIn e.mv L a b)).length ∧ 1000 < (daysIn e L a b).length) ∨ uniq (out ++ movesIn e.mv L a b) = daysIn e L a b := by
  rcases hg with rfl | ⟨h1, h2⟩
  · exact .inr (in_eq h (uniq_rise _) fun x => (uniq_mem _ x).trans (parts_mem h))
  · left
    have hp : out.Pairwise (· < ·) := (rule_rise h a b).sublist h2.sublist
    constructor
    · have := len_sub hp (b := uniq (out ++ movesIn e.mv L a b)) (fun x hx => (uniq_mem _ x).2 (List.mem_append_left _ hx))
      omega
    · have := len_sub hp (b := daysIn e L a b) (fun x hx => (in_mem h).2 ((parts_mem h).1 (List.mem_append_left _ (h2.subset hx))))
      omega
theorem ruleIn_snoc (e : Ev) (p : List Int) (x a b : Int) : ruleIn e (p ++ [x]) a b = ruleIn e p a b ++ (if (decide (a ≤ x ∧ x ≤ b) && !goneB e x) = true then [x] else []) := by
  unfold ruleIn
  rw [List.filter_append]
  congr 1
  simp only [List.filter_cons, List.filter_nil]
theorem ruleIn_stop {e : Ev} {L p : List Int} {x a b : Int} (h : L.Pairwise (· < ·)) (hp : p ++ [x] <+: L) (hx : b < x) : ruleIn e L a b = ruleIn e p a b := by
  obtain ⟨t, rfl⟩ := hp
  unfold ruleIn
  have h2 : ([x] ++ t).filter (fun z => decide (a ≤ z ∧ z ≤ b) && !goneB e z) = [] := by
    rw [List.filter_eq_nil_iff]
    intro z hz
    have h1 : x ≤ z := by
      rcases List.mem_append.1 hz with hz | hz
      · simp at hz; omega
      · have := (List.pairwise_append.1 h).2.2 x (by simp) z hz; omega
    have : ¬ (a ≤ z ∧ z ≤ b) := by omega
    simp [this]
  rw [List.append_assoc, List.filter_append, h2, List.append_nil]
theorem ruleIn_pre {e : Ev} {L p : List Int} {a b : Int} (hp : p <+: L) : ruleIn e p a b <+: ruleIn e L a b := by
  obtain ⟨t, rfl⟩ := hp
  unfold ruleIn
  rw [List.filter_append]; exact List.prefix_append _ _
theorem movesIn_snoc (mv : List (Int × Int)) (m : Int × Int) (L : List Int) (a b : Int) : movesIn (mv ++ [m]) L a b = movesIn mv L a b ++ (if (decide (a ≤ m.2 ∧ m.2 ≤ b) && isB L m.1) = true then [m.2] else []) := by
  unfold movesIn
  rw [List.filter_append, List.map_append]
  congr 1
  simp only [List.filter_cons, List.filter_nil]
  split <;> rfl
/-- is a day covered -/
def covB (e : Ev) (L : List Int) (d : Int) : Bool := rightB d && decide (daysIn e L (d - e.lg + 1) d ≠ [])
theorem cov_iff {e : Ev} {L : List Int} (h : Fit e L) {d : Int} : covB e L d = true ↔ (0 ≤ d ∧ d ≤ 73048) ∧ ∃ x, d - e.lg + 1 ≤ x ∧ x ≤ d ∧ occB e L x = true := by
  unfold covB rightB inB
  rw [Bool.and_eq_true, decide_eq_true_eq, decide_eq_true_eq]
  refine and_congr Iff.rfl ?_
  rw [Ne, List.eq_nil_iff_forall_not_mem]
  constructor
  · intro h1
    refine Classical.byContradiction fun h2 => h1 fun x hx => h2 ?_
    obtain ⟨a, b, c⟩ := (in_mem h).1 hx
    exact ⟨x, a, b, c⟩
  · rintro ⟨x, h1, h2, h3⟩ h4
    exact h4 x ((in_mem h).2 ⟨h1, h2, h3⟩)
/-- a span of so many days holds no more -/
theorem in_len {e : Ev} {L : List Int} (h : Fit e L) {a b : Int} : (daysIn e L a b).length ≤ (b - a + 1).toNat := by
  have := len_sub (in_rise e L a b) (b := steps a 1 b) (fun x hx => by
    obtain ⟨h1, h2, _⟩ := (in_mem h).1 hx
    rw [steps_mem (by omega)]; omega)
  have hl : (steps a 1 b).length = (b - a + 1).toNat := by simp [steps]
  omega
end Evt
end Go.Proofs.YtkhkhbeolhhomaaGreatDoor
