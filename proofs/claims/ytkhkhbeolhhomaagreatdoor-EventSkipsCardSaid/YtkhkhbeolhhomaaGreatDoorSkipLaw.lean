/- The law of EventSkips, in plain Lean. -/
import Derived.Test.YtkhkhbeolhhomaaGreatDoorEvCov
namespace Go.Proofs.YtkhkhbeolhhomaaGreatDoor
open Go Go.RowKit Go.Shelf Lmd
namespace Evt
open Rul Day Cand

/-- an event without skips and moves; with one skip; with one move -/
def bareE (e : Ev) : Ev := { e with sk := [], mv := [] }
def skipE (e : Ev) (x : Int) : Ev := { e with sk := [x], mv := [] }
def moveE (e : Ev) (x c : Int) : Ev := { e with sk := [], mv := [(x, c)] }
theorem bare_parts {e : Ev} (h : badE (bareE e) = 0) : nameB e.id = true ∧ titleB e.ti = true ∧ (0 ≤ e.st ∧ e.st ≤ 73048) ∧ (1 ≤ e.lg ∧ e.lg ≤ 60) ∧ bad e.ru = 0 := by
  obtain ⟨h1, h2, h3, h4, h5, _⟩ := badE_zero h
  exact ⟨h1, h2, h3, h4, h5⟩
theorem rise_one (x : Int) : riseB [x] = true := by simp [riseB]
theorem skip_bad {e : Ev} (h : badE (bareE e) = 0) {x : Int} (hx : 0 ≤ x ∧ x ≤ 73048) : badE (skipE e x) = 0 := by
  obtain ⟨h1, h2, h3, h4, h5⟩ := bare_parts h
  rw [badE_lists (e := skipE e x) h1 h2 (by
    show (rightB e.st && inB e.lg 1 60) = true
    rw [right_iff.2 h3, Bool.true_and]; exact decide_eq_true h4) h5]
  refine badL_none (by simp [skipE]) ?_ ?_ ?_
  · show (riseB [x] && riseB (froms [])) = true
    rw [rise_one]; rfl
  · show ([x].all rightB && [].all _) = true
    simp [right_iff.2 hx]
  · simp [skipE, froms]
theorem move_bad {e : Ev} (h : badE (bareE e) = 0) {x c : Int} (hx : 0 ≤ x ∧ x ≤ 73048) (hc : 0 ≤ c ∧ c ≤ 73048) : badE (moveE e x c) = 0 := by
  obtain ⟨h1, h2, h3, h4, h5⟩ := bare_parts h
  rw [badE_lists (e := moveE e x c) h1 h2 (by
    show (rightB e.st && inB e.lg 1 60) = true
    rw [right_iff.2 h3, Bool.true_and]; exact decide_eq_true h4) h5]
  refine badL_none (by simp [moveE]) ?_ ?_ ?_
  · show (riseB [] && riseB [x]) = true
    rw [rise_one]; rfl
  · show ([].all rightB && [(x, c)].all _) = true
    simp [right_iff.2 hx, right_iff.2 hc]
  · simp [moveE, froms]
section
variable {e : Ev} {y m d : Int}
/-- the days of the bare event are its rule's -/
theorem occ_bare {L : List Int} {x : Int} : occB (bareE e) L x = true ↔ x ∈ L := by
  rw [occ_iff]
  simp [bareE, goneB, froms]
theorem occ_skip {L : List Int} {x z : Int} : occB (skipE e z) L x = true ↔ x ∈ L ∧ x ≠ z := by
  rw [occ_iff]
  simp [skipE, goneB, froms]
theorem occ_move {L : List Int} {x z c : Int} : occB (moveE e z c) L x = true ↔ (x ∈ L ∧ x ≠ z) ∨ (x = c ∧ z ∈ L) := by
  rw [occ_iff]
  simp only [moveE, goneB, froms, List.map_cons, List.map_nil, List.contains_nil, Bool.false_or, List.mem_singleton, exists_eq_left]
  constructor
  · rintro (⟨h1, h2⟩ | ⟨h1, h2⟩)
    · exact .inl ⟨h1, by intro h; rw [h] at h2; simp at h2⟩
    · exact .inr ⟨h1.symm, h2⟩
  · rintro (⟨h1, h2⟩ | ⟨h1, h2⟩)
    · exact .inl ⟨h1, by simp [h2]⟩
    · exact .inr ⟨h1.symm, h2⟩
/-- days of two spans are those of both -/
theorem in_both (h : badE (bareE e) = 0) (ha : Cal.At e.st y m d) {a b c : Int} (h1 : a ≤ c) (h2 : c ≤ b) : daysIn (bareE e) (evL e y m d) a c ++ daysIn (bareE e) (evL e y m d) (c + 1) b = daysIn (bareE e) (evL e y m d) a b := by
  have hf : Fit (bareE e) (evL e y m d) := fit_of h ha
  refine in_eq hf ?_ fun x => ?_
  · rw [List.pairwise_append]
    refine ⟨in_rise _ _ _ _, in_rise _ _ _ _, fun p hp q hq => ?_⟩
    have g1 := (in_mem hf).1 hp
    have g2 := (in_mem hf).1 hq
    omega
  · rw [List.mem_append, in_mem hf, in_mem hf]
    constructor
    · rintro (⟨g1, g2, g3⟩ | ⟨g1, g2, g3⟩)
      · exact ⟨g1, by omega, g3⟩
      · exact ⟨by omega, g2, g3⟩
    · rintro ⟨g1, g2, g3⟩
      by_cases hx : x ≤ c
      · exact .inl ⟨g1, hx, g3⟩
      · exact .inr ⟨by omega, g2, g3⟩
theorem skip_in (h : badE (bareE e) = 0) (ha : Cal.At e.st y m d) {a b z : Int} (hz : z ∈ daysIn (bareE e) (evL e y m d) a b) : daysIn (skipE e z) (evL e y m d) a b = (daysIn (bareE e) (evL e y m d) a b).erase z := by
  have hf : Fit (bareE e) (evL e y m d) := fit_of h ha
  have hzd := occ_day hf ((in_mem hf).1 hz).2.2
  have hf2 : Fit (skipE e z) (evL e y m d) := fit_of (e := skipE e z) (skip_bad h hzd) ha
  have hr := in_rise (bareE e) (evL e y m d) a b
  refine (in_eq hf2 (hr.sublist (List.erase_sublist)) fun x => ?_).symm
  have hnd : (daysIn (bareE e) (evL e y m d) a b).Nodup := hr.imp (fun h => by omega)
  rw [hnd.mem_erase_iff, in_mem hf, occ_bare, occ_skip]
  constructor
  · rintro ⟨g1, g2, g3, g4⟩; exact ⟨g2, g3, g4, g1⟩
  · rintro ⟨g2, g3, g4, g1⟩; exact ⟨g1, g2, g3, g4⟩
theorem skip_len (h : badE (bareE e) = 0) (ha : Cal.At e.st y m d) {a b z : Int} (hz : z ∈ daysIn (bareE e) (evL e y m d) a b) : (daysIn (skipE e z) (evL e y m d) a b).length = (daysIn (bareE e) (evL e y m d) a b).length - 1 := by
  rw [skip_in h ha hz, List.length_erase_of_mem hz]
theorem move_mem (h : badE (bareE e) = 0) (ha : Cal.At e.st y m d) {a b z c : Int} (hz : z ∈ daysIn (bareE e) (evL e y m d) a b) (hc : a ≤ c ∧ c ≤ b) (hcd : 0 ≤ c ∧ c ≤ 73048) {x : Int} :
    x ∈ daysIn (moveE e z c) (evL e y m d) a b ↔ (x ∈ daysIn (bareE e) (evL e y m d) a b ∧ x ≠ z) ∨ x = c := by
  have hf : Fit (bareE e) (evL e y m d) := fit_of h ha
  obtain ⟨z1, z2, z3⟩ := (in_mem hf).1 hz
  have hzd := occ_day hf z3
  rw [occ_bare] at z3
  have hf2 : Fit (moveE e z c) (evL e y m d) := fit_of (e := moveE e z c) (move_bad h hzd hcd) ha
  rw [in_mem hf2, in_mem hf, occ_bare, occ_move]
  constructor
  · rintro ⟨g1, g2, ⟨g3, g4⟩ | ⟨g3, g4⟩⟩
    · exact .inl ⟨⟨g1, g2, g3⟩, g4⟩
    · exact .inr g3
  · rintro (⟨⟨g1, g2, g3⟩, g4⟩ | rfl)
    · exact ⟨g1, g2, .inl ⟨g3, g4⟩⟩
    · exact ⟨hc.1, hc.2, .inr ⟨rfl, z3⟩⟩
theorem move_len (h : badE (bareE e) = 0) (ha : Cal.At e.st y m d) {a b z c : Int} (hz : z ∈ daysIn (bareE e) (evL e y m d) a b) (hc : a ≤ c ∧ c ≤ b) (hcd : 0 ≤ c ∧ c ≤ 73048) : (daysIn (moveE e z c) (evL e y m d) a b).length ≤ (daysIn (bareE e) (evL e y m d) a b).length := by
  have h1 := Cpt.len_sub (in_rise (moveE e z c) (evL e y m d) a b) (b := c :: (daysIn (bareE e) (evL e y m d) a b).erase z) (fun x hx => by
    rcases (move_mem h ha hz hc hcd).1 hx with ⟨g1, g2⟩ | rfl
    · exact List.mem_cons_of_mem _ ((List.mem_erase_of_ne g2).2 g1)
    · simp)
  rw [List.length_cons, List.length_erase_of_mem hz] at h1
  have : 0 < (daysIn (bareE e) (evL e y m d) a b).length := List.length_pos_of_mem hz
  omega
end
end Evt
end Go.Proofs.YtkhkhbeolhhomaaGreatDoor
