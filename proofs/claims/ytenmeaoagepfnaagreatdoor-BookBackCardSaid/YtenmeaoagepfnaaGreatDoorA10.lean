/- EvDays, EvGone, EvSort, AllSeq, Gives, IsDay: texts joined. -/
import Derived.Test.YtenmeaoagepfnaaGreatDoorA4
import Derived.Test.YtenmeaoagepfnaaGreatDoorA9
import Derived.Lib.SlicesCompact
import Derived.Test.YtenmeaoagepfnaaGreatDoorEvLists
import Derived.Test.YtenmeaoagepfnaaGreatDoorA5
section
/- The days of an event, in plain Lean: what Days tells out of what its loops take; no program stands here. -/
namespace Lmd.Cpt
open Go Go.Lib

theorem get_snoc {d : List Int} {m : Nat} (h : m < d.length) : d.take (m + 1) = d.take m ++ [d[m]] := by
  rw [List.take_add_one, List.getElem?_eq_getElem h]; rfl
/-- of a list that does not fall: what is kept of its first places rises, ends where they end, and has their members -/
theorem compact_upto {d : List Int} (h : d.Pairwise (· ≤ ·)) : ∀ m, m ≤ d.length → (compactUpTo d.toArray m).Pairwise (· < ·) ∧ (∀ x, x ∈ compactUpTo d.toArray m ↔ x ∈ d.take m)
  | 0, _ => by simp [compactUpTo]
  | m + 1, hm => by
    obtain ⟨h1, h2⟩ := compact_upto h m (by omega)
    have hlt : m < d.length := by omega
    rw [compactUpTo_succ, get_snoc hlt]
    have hg : d.toArray[m]! = d[m] := by simp [getElem!_pos, hlt]
    by_cases h0 : m = 0
    · subst h0
      have hk : keeps d.toArray 0 = true := by simp [keeps]
      rw [hk, hg]
      simp [compactUpTo]
    · have hl2 : m - 1 < d.length := by omega
      have hg2 : d.toArray[m - 1]! = d[m - 1] := by simp [getElem!_pos, hl2]
      have hle : ∀ x ∈ d.take m, x ≤ d[m - 1] := by
        intro x hx
        obtain ⟨i, hi, rfl⟩ := List.getElem_of_mem hx
        rw [List.length_take] at hi
        rw [List.getElem_take]
        by_cases e : i = m - 1
        · subst e; exact Int.le_refl _
        · exact List.pairwise_iff_getElem.1 h i (m - 1) (by omega) hl2 (by omega)
      have hmm : d[m - 1] ≤ d[m] := List.pairwise_iff_getElem.1 h (m - 1) m hl2 hlt (by omega)
      by_cases e : d[m] = d[m - 1]
      · have hk : keeps d.toArray m = false := keeps_neg (by omega) (by rw [hg, hg2]; exact e)
        rw [hk]
        simp only [Bool.false_eq_true, if_false, List.append_nil]
        refine ⟨h1, fun x => ?_⟩
        rw [h2 x, List.mem_append, List.mem_singleton]
        constructor
        · exact .inl
        · rintro (hx | rfl)
          · exact hx
          · rw [e]
            have : (d.take m)[m - 1]'(by rw [List.length_take]; omega) = d[m - 1] := List.getElem_take
            rw [← this]; exact List.getElem_mem _
      · have hk : keeps d.toArray m = true := keeps_pos (by rw [hg, hg2]; exact e)
        rw [hk, hg]
        simp only [if_true]
        refine ⟨?_, fun x => ?_⟩
        · rw [List.pairwise_append]
          refine ⟨h1, by simp, fun a ha b hb => ?_⟩
          simp at hb; subst hb
          have := hle a ((h2 a).1 ha)
          omega
        · rw [List.mem_append, List.mem_append, h2 x]
/-- compaction of a list that does not fall -/
theorem compact_rise {d : List Int} (h : d.Pairwise (· ≤ ·)) : (compact d).Pairwise (· < ·) ∧ ∀ x, x ∈ compact d ↔ x ∈ d := by
  have := compact_upto h d.length (Nat.le_refl _)
  rw [List.take_length] at this
  exact this
theorem sort_rise (l : List Int) : (l.mergeSort fun x y => decide (x ≤ y)).Pairwise (· ≤ ·) := by
  have := List.pairwise_mergeSort (le := fun x y : Int => decide (x ≤ y)) (fun a b c h1 h2 => by simp at *; omega) (fun a b => by simp; omega) l
  exact this.imp (fun h => by simpa using h)
theorem sort_mem (l : List Int) (x : Int) : x ∈ (l.mergeSort fun x y => decide (x ≤ y)) ↔ x ∈ l := (List.mergeSort_perm l _).mem_iff
/-- sorted, then compacted -/
def uniq (l : List Int) : List Int := compact (l.mergeSort fun x y => decide (x ≤ y))
theorem uniq_rise (l : List Int) : (uniq l).Pairwise (· < ·) := (compact_rise (sort_rise l)).1
theorem uniq_mem (l : List Int) (x : Int) : x ∈ uniq l ↔ x ∈ l := ((compact_rise (sort_rise l)).2 x).trans (sort_mem l x)
/-- a rising list within another list is no longer -/
theorem len_sub : ∀ {a b : List Int}, a.Pairwise (· < ·) → (∀ x ∈ a, x ∈ b) → a.length ≤ b.length
  | [], _, _, _ => Nat.zero_le _
  | x :: t, b, ha, h => by
    have hp := List.pairwise_cons.1 ha
    have hx := h x (by simp)
    have := len_sub (a := t) (b := b.erase x) hp.2 (fun y hy => by
      have : y ≠ x := by have := hp.1 y hy; omega
      exact (List.mem_erase_of_ne this).2 (h y (by simp [hy])))
    rw [List.length_erase_of_mem hx] at this
    have : 0 < b.length := List.length_pos_of_mem hx
    simp only [List.length_cons]; omega
end Lmd.Cpt
namespace Go.Proofs.YtenmeaoagepfnaaGreatDoor
open Go Go.RowKit Lmd
namespace Evt
open Rul Day Cand Cpt

def goneB (e : Ev) (d : Int) : Bool := e.sk.contains d || (froms e.mv).contains d
/-- is a day one of an event's, L its rule's days -/
def occB (e : Ev) (L : List Int) (x : Int) : Bool := (L.contains x && !goneB e x) || e.mv.any fun m => decide (m.2 = x) && L.contains m.1
/-- rising: those of a span -/
def daysIn (e : Ev) (L : List Int) (a b : Int) : List Int := (steps 0 1 73048).filter fun x => decide (a ≤ x ∧ x ≤ b) && occB e L x
/-- what the first loop takes -/
def ruleIn (e : Ev) (L : List Int) (a b : Int) : List Int := L.filter fun x => decide (a ≤ x ∧ x ≤ b) && !goneB e x
/-- what the second loop takes -/
def movesIn (mv : List (Int × Int)) (L : List Int) (a b : Int) : List Int := (mv.filter fun m => decide (a ≤ m.2 ∧ m.2 ≤ b) && isB L m.1).map Prod.snd
/-- the first loop's end: all, or too many -/
def Got (e : Ev) (L : List Int) (a b : Int) (out : List Int) : Prop := out = ruleIn e L a b ∨ (1000 < out.length ∧ out <+: ruleIn e L a b)

/-- what is asked of an event and its rule's days: all of them are days -/
structure Fit (e : Ev) (L : List Int) : Prop where
  rise : L.Pairwise (· < ·)
  days : ∀ x ∈ L, 0 ≤ x ∧ x ≤ 73048
  tos : ∀ m ∈ e.mv, 0 ≤ m.2 ∧ m.2 ≤ 73048

theorem in_rise (e : Ev) (L : List Int) (a b : Int) : (daysIn e L a b).Pairwise (· < ·) := List.Pairwise.filter _ (steps_rise (by omega))
theorem occ_iff {e : Ev} {L : List Int} {x : Int} : occB e L x = true ↔ (x ∈ L ∧ goneB e x = false) ∨ ∃ m ∈ e.mv, m.2 = x ∧ m.1 ∈ L := by
  simp only [occB, Bool.or_eq_true, Bool.and_eq_true, List.contains_iff_mem, Bool.not_eq_true', List.any_eq_true, decide_eq_true_eq]
theorem occ_day {e : Ev} {L : List Int} (h : Fit e L) {x : Int} (hx : occB e L x = true) : 0 ≤ x ∧ x ≤ 73048 := by
  rcases occ_iff.1 hx with ⟨h1, _⟩ | ⟨m, h1, rfl, _⟩
  · exact h.days x h1
  · exact h.tos m h1
theorem in_mem {e : Ev} {L : List Int} (h : Fit e L) {a b x : Int} : x ∈ daysIn e L a b ↔ a ≤ x ∧ x ≤ b ∧ occB e L x = true := by
  unfold daysIn
  rw [List.mem_filter, steps_mem (by omega)]
  simp only [Bool.and_eq_true, decide_eq_true_eq]
  constructor
  · rintro ⟨_, h1, h2⟩; exact ⟨h1.1, h1.2, h2⟩
  · rintro ⟨h1, h2, h3⟩
    obtain ⟨d1, d2⟩ := occ_day h h3
    exact ⟨⟨d1, d2, by omega⟩, ⟨h1, h2⟩, h3⟩
theorem in_eq {e : Ev} {L l : List Int} (h : Fit e L) {a b : Int} (hl : l.Pairwise (· < ·)) (hm : ∀ x, x ∈ l ↔ a ≤ x ∧ x ≤ b ∧ occB e L x = true) : l = daysIn e L a b :=
  rise_ext hl (in_rise e L a b) fun x => (hm x).trans (in_mem h).symm
theorem parts_mem {e : Ev} {L : List Int} (h : Fit e L) {a b x : Int} : x ∈ ruleIn e L a b ++ movesIn e.mv L a b ↔ a ≤ x ∧ x ≤ b ∧ occB e L x = true := by
  rw [List.mem_append, occ_iff, ruleIn, movesIn, List.mem_filter, List.mem_map]
  simp only [List.mem_filter, Bool.and_eq_true, decide_eq_true_eq, Bool.not_eq_true', isB_iff h.rise]
  constructor
  · rintro (⟨h1, ⟨h2, h3⟩, h4⟩ | ⟨m, ⟨h1, ⟨h2, h3⟩, h4⟩, rfl⟩)
    · exact ⟨h2, h3, .inl ⟨h1, h4⟩⟩
    · exact ⟨h2, h3, .inr ⟨m, h1, rfl, h4⟩⟩
  · rintro ⟨h1, h2, ⟨h3, h4⟩ | ⟨m, h3, rfl, h4⟩⟩
    · exact .inl ⟨h3, ⟨h1, h2⟩, h4⟩
    · exact .inr ⟨m, ⟨h3, ⟨h1, h2⟩, h4⟩, rfl⟩
theorem rule_rise {e : Ev} {L : List Int} (h : Fit e L) (a b : Int) : (ruleIn e L a b).Pairwise (· < ·) := List.Pairwise.filter _ h.rise
/-- THE LAW: sorted and compacted it is the days of the span, or both are too many -/
theorem days_law {e : Ev} {L out : List Int} (h : Fit e L) {a b : Int} (hg : Got e L a b out) :
    (1000 < (uniq (out ++ movesIn e.mv L a b)).length ∧ 1000 < (daysIn e L a b).length) ∨ uniq (out ++ movesIn e.mv L a b) = daysIn e L a b := by
  rcases hg with rfl | ⟨h1, h2⟩
  · exact .inr (in_eq h (uniq_rise _) fun x => (uniq_mem _ x).trans (parts_mem h))
  · left
    have hp : out.Pairwise (· < ·) := (rule_rise h a b).sublist h2.sublist
    constructor
    · have := len_sub hp (b := uniq (out ++ movesIn e.mv L a b)) (fun x hx => (uniq_mem _ x).2 (List.mem_append_left _ hx))
      omega
    · have := len_sub hp (b := daysIn e L a b) (fun x hx => (in_mem h).2 ((parts_mem h).1 (List.mem_append_left _ (h2.subset hx))))
      omega
theorem ruleIn_snoc (e : Ev) (p : List Int) (x a b : Int) : ruleIn e (p ++ [x]) a b = ruleIn e p a b ++ (if (decide (a ≤ x ∧ x ≤ b) && !goneB e x) = true then [x] else []) := by
  unfold ruleIn
  rw [List.filter_append]
  congr 1
  simp only [List.filter_cons, List.filter_nil]
theorem ruleIn_stop {e : Ev} {L p : List Int} {x a b : Int} (h : L.Pairwise (· < ·)) (hp : p ++ [x] <+: L) (hx : b < x) : ruleIn e L a b = ruleIn e p a b := by
  obtain ⟨t, rfl⟩ := hp
  unfold ruleIn
  have h2 : ([x] ++ t).filter (fun z => decide (a ≤ z ∧ z ≤ b) && !goneB e z) = [] := by
    rw [List.filter_eq_nil_iff]
    intro z hz
    have h1 : x ≤ z := by
      rcases List.mem_append.1 hz with hz | hz
      · simp at hz; omega
      · have := (List.pairwise_append.1 h).2.2 x (by simp) z hz; omega
    have : ¬ (a ≤ z ∧ z ≤ b) := by omega
    simp [this]
  rw [List.append_assoc, List.filter_append, h2, List.append_nil]
theorem ruleIn_pre {e : Ev} {L p : List Int} {a b : Int} (hp : p <+: L) : ruleIn e p a b <+: ruleIn e L a b := by
  obtain ⟨t, rfl⟩ := hp
  unfold ruleIn
  rw [List.filter_append]; exact List.prefix_append _ _
theorem movesIn_snoc (mv : List (Int × Int)) (m : Int × Int) (L : List Int) (a b : Int) : movesIn (mv ++ [m]) L a b = movesIn mv L a b ++ (if (decide (a ≤ m.2 ∧ m.2 ≤ b) && isB L m.1) = true then [m.2] else []) := by
  unfold movesIn
  rw [List.filter_append, List.map_append]
  congr 1
  simp only [List.filter_cons, List.filter_nil]
  split <;> rfl
/-- is a day covered -/
def covB (e : Ev) (L : List Int) (d : Int) : Bool := rightB d && decide (daysIn e L (d - e.lg + 1) d ≠ [])
theorem cov_iff {e : Ev} {L : List Int} (h : Fit e L) {d : Int} : covB e L d = true ↔ (0 ≤ d ∧ d ≤ 73048) ∧ ∃ x, d - e.lg + 1 ≤ x ∧ x ≤ d ∧ occB e L x = true := by
  unfold covB rightB inB
  rw [Bool.and_eq_true, decide_eq_true_eq, decide_eq_true_eq]
  refine and_congr Iff.rfl ?_
  rw [Ne, List.eq_nil_iff_forall_not_mem]
  constructor
  · intro h1
    refine Classical.byContradiction fun h2 => h1 fun x hx => h2 ?_
    obtain ⟨a, b, c⟩ := (in_mem h).1 hx
    exact ⟨x, a, b, c⟩
  · rintro ⟨x, h1, h2, h3⟩ h4
    exact h4 x ((in_mem h).2 ⟨h1, h2, h3⟩)
/-- a span of so many days holds no more -/
theorem in_len {e : Ev} {L : List Int} (h : Fit e L) {a b : Int} : (daysIn e L a b).length ≤ (b - a + 1).toNat := by
  have := len_sub (in_rise e L a b) (b := steps a 1 b) (fun x hx => by
    obtain ⟨h1, h2, _⟩ := (in_mem h).1 hx
    rw [steps_mem (by omega)]; omega)
  have hl : (steps a 1 b).length = (b - a + 1).toNat := by simp [steps]
  omega
end Evt
end Go.Proofs.YtenmeaoagepfnaaGreatDoor
end

section
/- package event: gone. -/
namespace Go.Proofs.YtenmeaoagepfnaaGreatDoor
open Go Go.RowKit Go.Shelf Lmd
attribute [local go_sem] Oper.semAt_some
namespace Evt
open Rul Day Cand Er

set_option maxRecDepth 100000 in
set_option maxHeartbeats 2000000 in
theorem gone_any (e : Ev) (vd vs vm : Value) (d : Int) (w : World) (hr : Rv w e vd vs vm) (hl1 : e.sk.length ≤ 1000000) (hl2 : e.mv.length ≤ 1000000) :
    Calls Tryz.prog 158 #[.agg (e.cells vd vs vm), .int .i64 d] w fun r w' => r = .returned (.bool (goneB e d)) ∧ Below w.heap.size w w' := by
  obtain ⟨a9, c9, rfl⟩ := hr.s.shape
  obtain ⟨W, hW⟩ : ∃ W, w.alloc (.cells (e.cells vd (.slice a9 e.sk.length c9) vm) 35) = W := ⟨_, rfl⟩
  have hB : Below w.heap.size w W := by rw [← hW]; exact (Below.refl _ w).alloc (Nat.le_refl _) _
  have hx : W.heap[w.heap.size]? = some (.cells (e.cells vd (.slice a9 e.sk.length c9) vm) 35) := by rw [← hW]; exact heap_new w _
  have h1 := hasInt_any e.sk _ d W (hr.s.below hB) hl1
  have h2 := froms_any e vd (.slice a9 e.sk.length c9) vm W (hr.m.below hB) hl2
  have h3 := fun v W' (h : Ints.Reads W' v (froms e.mv)) => hasInt_any (froms e.mv) v d W' h (by rw [froms_len]; exact hl2)
  obtain ⟨q1, hq1⟩ : ∃ q, e.sk.contains d = q := ⟨_, rfl⟩
  obtain ⟨q2, hq2⟩ : ∃ q, (froms e.mv).contains d = q := ⟨_, rfl⟩
  obtain ⟨q, hq⟩ : ∃ q, goneB e d = q := ⟨_, rfl⟩
  have hq' : (q1 || q2) = q := by rw [← hq, ← hq1, ← hq2]; rfl
  rw [hq1] at h1
  rw [hq2] at h3
  rw [hq]
  obtain ⟨n9, hn9⟩ : ∃ n, e.sk.length = n := ⟨_, rfl⟩
  rw [hn9] at h1 h2 hx hW ⊢
  have H1 := Lib.hid h1
  have H2 := Lib.hid h2
  have H3 := Lib.hid h3
  have HQ := Lib.hid hq'
  have HB := Lib.hid hB
  have HW := Lib.hid hW
  have HX := Lib.hid hx
  clear hr hl1 hl2 hW hB hx h1 h2 h3 hq1 hq2 hq hq' hn9
  go_enter Tryz.func158, Tryz.ntmps158
  obtain ⟨k0, k1, k2, k3, k4, k5, k6, k7, k8, k9, k10⟩ := cells11 HX.out
  go_upto_region 1 with fail
  rw [HW.out]
  go_wp2_with fail
  (with_reducible refine H1.out.mono ?_)
  rintro e1 w1 ⟨rfl, rfl⟩
  cases q1 with
  | true =>
    go_wp2
    go_ret
    exact ⟨by rw [← HQ.out]; rfl, HB.out⟩
  | false =>
    go_wp2_with fail
    (with_reducible refine H2.out.mono ?_)
    rintro e2 w2 ⟨v2, rfl, hr2, hb2⟩
    have HR2 := Lib.hid hr2
    have HB2 := Lib.hid hb2
    clear hr2 hb2 k0 k1 k2 k3 k4 k5 k6 k7 k8 k9 k10
    go_wp2_with fail
    (with_reducible refine (H3.out _ _ HR2.out).mono ?_)
    rintro e3 w3 ⟨rfl, rfl⟩
    go_wp2
    go_ret
    exact ⟨by rw [← HQ.out]; cases q2 <;> rfl, HB.out.trans (HB2.out.mono HB.out.size)⟩
end Evt
end Go.Proofs.YtenmeaoagepfnaaGreatDoor
end

section
/- slices.Sort and slices.Compact at numbers in a row of one's own, each in one statement. -/
namespace Go.Proofs.YtenmeaoagepfnaaGreatDoor
open Go Go.RowKit Go.Shelf Lmd
namespace Evt
open Rul Day Cand

/-- a slice over cells that may be written -/
def RowI (w : World) (v : Value) (xs : List Int) : Prop :=
  (xs = [] ∧ v = .slice none 0 0) ∨ ∃ g off cap t cur, v = .slice (some ⟨g, off, none⟩) xs.length cap ∧ xs.length ≤ cap ∧ w.heap[g]? = some (.cells cur t (0, 0)) ∧ Sort.Holds (Value.int .i64) w g off xs.toArray
theorem arr_el (xs : List Int) (j : Nat) : (xs.toArray)[j]! = Ints.el xs j := by rw [← el_getD]; simp
theorem rowI_own {w : World} {base : Nat} {v : Value} {xs : List Int} (h : w.ownsRow base 3 1 v xs.length (cellsOf xs)) : RowI w v xs := by
  rcases h.2 with ⟨rfl, h0⟩ | ⟨g, cap, cur, rfl, hb, hh, h1, h2, h3, ht⟩
  · exact .inl ⟨List.length_eq_zero_iff.1 h0, rfl⟩
  · refine .inr ⟨g, 0, cap, _, cur, rfl, h1, hh, fun j hj => ?_⟩
    have hj' : j < xs.length := by simpa using hj
    have hc := cellsOf_get hj'
    rw [← ht, Nat.mul_one, List.getElem?_take_of_lt hj'] at hc
    refine ⟨?_, ?_⟩
    · rw [arr_el]
      simp only [World.cell?, hh, Nat.zero_add]
      simpa using hc
    · simp [World.frozen?, hh]
theorem RowI.reads {w : World} {v : Value} {xs : List Int} (h : RowI w v xs) : Ints.Reads w v xs := by
  rcases h with ⟨rfl, rfl⟩ | ⟨g, off, cap, t, cur, rfl, h1, hh, hH⟩
  · exact .inl ⟨rfl, _, _, rfl⟩
  · refine .inr ⟨g, off, cap, rfl, fun j hj => ?_⟩
    have := (hH j (by simpa using hj)).1
    rwa [arr_el] at this
theorem RowI.shape {w : World} {v : Value} {xs : List Int} (h : RowI w v xs) : ∃ a c, v = .slice a xs.length c := by
  rcases h with ⟨rfl, rfl⟩ | ⟨g, off, cap, t, cur, rfl, _⟩
  · exact ⟨_, _, rfl⟩
  · exact ⟨_, _, rfl⟩
theorem grow_old {w : World} {os : Array Obj} {k : Nat} (h : k < w.heap.size) : (Sort.grow w os).heap[k]? = w.heap[k]? := by
  show (w.heap ++ os)[k]? = _
  rw [Array.getElem?_append_left h]
theorem put_size (enc : Int → Value) (w : World) (g off : Nat) (d : Array Int) : (Sort.putRow enc w g off d).heap.size = w.heap.size := by
  simp [Sort.putRow, Sort.mapBlock]
theorem put_other (enc : Int → Value) (w : World) (g off : Nat) (d : Array Int) {k : Nat} (h : k ≠ g) : (Sort.putRow enc w g off d).heap[k]? = w.heap[k]? := by
  simp only [Sort.putRow, Sort.mapBlock, Array.getElem?_modify]
  rw [if_neg (Ne.symm h)]
theorem put_at (enc : Int → Value) (w : World) (g off : Nat) (d : Array Int) {cur : Array Value} {t : TypeId} {fr : Nat × Nat} (h : w.heap[g]? = some (.cells cur t fr)) : (Sort.putRow enc w g off d).heap[g]? = some (.cells (Sort.putCells enc off d cur) t fr) := by
  simp only [Sort.putRow, Sort.mapBlock, Array.getElem?_modify, h, if_true, Option.map_some]
  rfl
theorem grow_nil (w : World) : Sort.grow w #[] = w := by cases w; simp [Sort.grow]
theorem grown_put (enc : Int → Value) (w : World) (n g off : Nat) (d : Array Int) (os : Array Obj) : w.grownBy (Sort.grow (Sort.putRow enc (Sort.ahead w n) g off d) os) (some g) := by
  refine ⟨rfl, rfl, rfl, ?_, fun k hk hne => ?_⟩
  · show w.heap.size ≤ ((Sort.putRow enc (Sort.ahead w n) g off d).heap ++ os).size
    rw [Array.size_append, put_size]; exact Nat.le_add_right _ _
  · have hk2 : k < (Sort.putRow enc (Sort.ahead w n) g off d).heap.size := by rw [put_size]; exact hk
    rw [grow_old hk2, put_other enc _ g off d (fun e => hne (by rw [e]))]
    rfl
theorem holds_grow {enc : Int → Value} {w : World} {g off : Nat} {d : Array Int} {os : Array Obj} (hg : g < w.heap.size) (h : Sort.Holds enc w g off d) : Sort.Holds enc (Sort.grow w os) g off d := fun j hj => by
  have := h j hj
  simp only [World.cell?, World.frozen?] at this ⊢
  rw [grow_old hg]; exact this
theorem sort_len (xs : List Int) : (xs.mergeSort fun x y => decide (x ≤ y)).length = xs.length := List.length_mergeSort xs
theorem row_lt {w : World} {g : Nat} {o : Obj} (h : w.heap[g]? = some o) : g < w.heap.size := (Array.getElem?_eq_some_iff.1 h).1
theorem sort_any (v : Value) (xs : List Int) (w : World) (h : RowI w v xs) (hl : xs.length ≤ 3000000) :
    Calls Tryz.prog 160 #[v] w fun e w' => e = .returned (.tuple #[]) ∧ RowI w' v (xs.mergeSort fun x y => decide (x ≤ y)) ∧ w.grownBy w' v.ownBlock := by
  rcases h with ⟨rfl, rfl⟩ | ⟨g, off, cap, t, cur, rfl, h1, hh, hH⟩
  · exact (Tryz.slices_Sort_int_none none 0 w).mono fun _ _ ⟨h1, h2⟩ => ⟨h1, .inl ⟨by simp, rfl⟩, by rw [h2]; exact World.grownBy.refl _ _⟩
  · have hg := row_lt hh
    refine (Tryz.slices_Sort_int g off cap xs w hH hg (by omega)).mono fun _ _ ⟨h2, n, os, h3⟩ => ⟨h2, .inr ⟨g, off, cap, t, Sort.putCells (Value.int .i64) off (xs.mergeSort fun x y => decide (x ≤ y)).toArray cur, by rw [sort_len], by rw [sort_len]; exact h1, ?_, ?_⟩, by rw [h3]; exact grown_put _ _ _ _ _ _ _⟩
    · rw [h3, grow_old (by rw [put_size]; exact hg)]
      exact put_at _ _ _ _ _ hh
    · rw [h3]
      refine holds_grow (by rw [put_size]; exact hg) ?_
      exact Sort.holds_putRow _ (Sort.ahead w n) g off xs.toArray _ hH (by simp)
theorem own_not {w : World} {base size : Nat} {e : TypeId} {v : Value} {n : Nat} {xs : List Value} (h : w.ownsRow base e size v n xs) {D : Nat} {x : Option (List Deferred)} (hD : w.heap[D]? = some (.deferred x)) : some D ≠ v.ownBlock := by
  intro he
  rcases h.2 with ⟨rfl, _⟩ | ⟨g, cap, cur, rfl, hb, hh, _⟩
  · simp [Value.ownBlock] at he
  · obtain rfl : D = g := by simpa [Value.ownBlock] using he
    rw [hh] at hD; cases hD
theorem rowI_not {w : World} {v : Value} {xs : List Int} (h : RowI w v xs) {D : Nat} {x : Option (List Deferred)} (hD : w.heap[D]? = some (.deferred x)) : some D ≠ v.ownBlock := by
  intro he
  rcases h with ⟨rfl, rfl⟩ | ⟨g, off, cap, t, cur, rfl, _, hh, _⟩
  · simp [Value.ownBlock] at he
  · obtain rfl : D = g := by simpa [Value.ownBlock] using he
    rw [hh] at hD; cases hD
/-- numbers are read behind a store into another block -/
theorem RowI.set {w : World} {v u : Value} {xs : List Int} {b : Nat} (h : RowI w v xs) (hb : some b ≠ v.ownBlock) : RowI (w.setCell ⟨b, 0, none⟩ u) v xs := by
  rcases h with ⟨rfl, rfl⟩ | ⟨g, off, cap, t, cur, rfl, h1, hh, hH⟩
  · exact .inl ⟨rfl, rfl⟩
  · have hne : g ≠ b := fun e => hb (by rw [e]; rfl)
    have hs : (w.setCell ⟨b, 0, none⟩ u).heap[g]? = w.heap[g]? := Below.heap_setCell _ _ _ _ hne
    refine .inr ⟨g, off, cap, t, cur, rfl, h1, hs.trans hh, fun j hj => ?_⟩
    have := hH j hj
    simp only [World.cell?, World.frozen?] at this ⊢
    rw [hs]; exact this
theorem RowI.put {w : World} {v : Value} {xs : List Int} {D : Nat} {o : Obj} (h : RowI w v xs) (hb : some D ≠ v.ownBlock) : RowI (w.putObj D o) v xs := by
  rcases h with ⟨rfl, rfl⟩ | ⟨g, off, cap, t, cur, rfl, h1, hh, hH⟩
  · exact .inl ⟨rfl, rfl⟩
  · have hne : g ≠ D := fun e => hb (by rw [e]; rfl)
    have hs : (w.putObj D o).heap[g]? = w.heap[g]? := World.putObj_heap_other hne
    refine .inr ⟨g, off, cap, t, cur, rfl, h1, hs.trans hh, fun j hj => ?_⟩
    have := hH j hj
    simp only [World.cell?, World.frozen?] at this ⊢
    rw [hs]; exact this
theorem compact_len (xs : List Int) : (Lib.compact xs).length ≤ xs.length := by
  unfold Lib.compact Lib.compactUpTo
  rw [List.length_map]
  exact Nat.le_trans (List.length_filter_le _ _) (by simp)
theorem compact_any (v : Value) (xs : List Int) (w : World) (h : RowI w v xs) (hl : xs.length ≤ 3000000) :
    Calls Tryz.prog 161 #[v] w fun e w' => ∃ v', e = .returned v' ∧ RowI w' v' (Lib.compact xs) ∧ v'.ownBlock = v.ownBlock ∧ w.grownBy w' v.ownBlock := by
  rcases h with ⟨rfl, rfl⟩ | ⟨g, off, cap, t, cur, rfl, h1, hh, hH⟩
  · exact (Tryz.slices_Compact_int_empty none 0 w).mono fun _ _ ⟨h1, h2⟩ => ⟨_, h1, .inl ⟨rfl, rfl⟩, rfl, by rw [h2]; exact World.grownBy.refl _ _⟩
  · have hg := row_lt hh
    have hcl := compact_len xs
    refine (Tryz.slices_Compact_int g off cap xs w hH (by omega) h1).mono fun _ _ ⟨h2, q, h3⟩ => ⟨_, h2, .inr ⟨g, off, cap, t, Sort.putCells (Value.int .i64) off (Lib.compact xs ++ List.replicate (xs.length - (Lib.compact xs).length) 0).toArray cur, rfl, by omega, ?_, ?_⟩, rfl, ?_⟩
    · rw [h3]; exact put_at _ _ _ _ _ hh
    · rw [h3]
      have := Sort.holds_putRow (Value.int .i64) (Sort.ahead w q) g off xs.toArray (Lib.compact xs ++ List.replicate (xs.length - (Lib.compact xs).length) 0).toArray hH (by simp; omega)
      intro j hj
      have hj' : j < (Lib.compact xs).length := by simpa using hj
      have h4 := this j (by simp; omega)
      rw [arr_el] at h4 ⊢
      have e : Ints.el (Lib.compact xs ++ List.replicate (xs.length - (Lib.compact xs).length) 0) j = Ints.el (Lib.compact xs) j := by
        unfold Ints.el
        rw [List.getElem?_append_left hj']
      rw [e] at h4
      exact h4
    · rw [h3]
      have := grown_put (Value.int .i64) w q g off (Lib.compact xs ++ List.replicate (xs.length - (Lib.compact xs).length) 0).toArray #[]
      rw [grow_nil] at this
      exact this
end Evt
end Go.Proofs.YtenmeaoagepfnaaGreatDoor
end

section
/- All days of a start and a rule: the iterator All$1 as a contract. -/
namespace Go.Proofs.YtenmeaoagepfnaaGreatDoor
open Go Go.RowKit Go.Shelf Lmd
attribute [local go_sem] Oper.semAt_some
namespace Cand
open Rul Day Er

/-- the captured variables of All$1 -/
def la (br bs : Nat) : Array Value := #[.pointer (some ⟨bs, 0, none⟩), .pointer (some ⟨br, 0, none⟩)]

theorem stop_cases {ct un x : Int} {n : Nat} (h : stopB ct un n x = true) : (0 < ct ∧ (n : Int) = ct) ∨ (0 < ct ∧ (n : Int) ≠ ct ∧ un ≠ -1 ∧ un < x) ∨ (ct ≤ 0 ∧ un ≠ -1 ∧ un < x) := by
  simp only [stopB, under, Bool.or_eq_true, decide_eq_true_eq, Bool.not_eq_true', decide_eq_false_iff_not] at h
  by_cases h1 : 0 < ct <;> by_cases h2 : (n : Int) = ct <;> simp [h1, h2] at h ⊢ <;> omega
theorem go_cases {ct un x : Int} {n : Nat} (h : stopB ct un n x = false) : ((0 < ct ∧ (n : Int) ≠ ct) ∧ un = -1) ∨ (ct ≤ 0 ∧ un = -1) ∨ ((0 < ct ∧ (n : Int) ≠ ct) ∧ un ≠ -1 ∧ x ≤ un) ∨ (ct ≤ 0 ∧ un ≠ -1 ∧ x ≤ un) := by
  simp only [stopB, under, Bool.or_eq_false_iff, decide_eq_false_iff_not, Bool.not_eq_false', decide_eq_true_eq] at h
  by_cases h1 : 0 < ct <;> by_cases h2 : (n : Int) = ct <;> by_cases h3 : un = -1 <;> simp [h1, h2, h3] at h ⊢ <;> omega

set_option maxRecDepth 100000 in
set_option maxHeartbeats 4000000 in
theorem all_seq (base br bs : Nat) (start y m d : Int) (r : Ru) (v : Value) (e : Nat → Addr) (w : World) (hB : Boxes w br bs start r v) (he : E4 w e) (hb : bad r = 0) (hl : r.ds.length < 50000) (ha : Cal.At start y m d) (hg : 2 < base) :
    Rng.Seq Tryz.prog 210 (la br bs) (fun x : Int => #[.int .i64 x]) (Apart base br bs v) (fun xs => xs = daysOf r.ct r.un (cands start y m d r)) (fun pre => pre <+: daysOf r.ct r.un (cands start y m d r)) 100000 w := by
  intro O l J Jx W hW hO hOb hlt hJ hJx hY h0
  refine (callsIn_wide (n := Rng.dp + 1)).1 ?_
  refine callsIn_of_wp_marks Tryz.func210 rfl trivial ?_ rfl
  simp only [Tryz.ntmps210, la, List.size_toArray, List.length_cons, List.length_nil, Nat.reduceAdd, Nat.reduceSub, Array.replicate_succ, Array.replicate_zero, List.push_toArray, List.append_toArray, List.nil_append, List.cons_append]
  have k0 := cell_later hW hB.r0
  have k1 := cell_later hW hB.r1
  have k2 := cell_later hW hB.r2
  have k3 := cell_later hW hB.r3
  have k4 := cell_later hW hB.r4
  have ks := cell_later hW hB.s
  have hR := hB.rd.below hW
  have hE := he.below hW
  have hbd := Cal.at_bd ha
  have hchk : ∀ w', Below W.heap.size W w' → Calls Tryz.prog 102 #[r.val v] w' fun e' w1 => e' = .returned .nilIface ∧ Below w'.heap.size w' w1 := fun w' h => by
    have := check_any r v e w' (hE.below h) (hR.below h) hl
    rw [hb] at this
    exact this
  have hbr := cell_lt k1
  have hbs := cell_lt ks
  have HCHK := Lib.hid hchk
  have HY := Lib.hid hY
  have HH := Lib.hid h0
  have HO := Lib.hid hO
  have HOb := Lib.hid hOb
  have HA := Lib.hid ha
  have HR := Lib.hid hR
  have HE := Lib.hid hE
  have HBAD := Lib.hid hb
  have HJ := Lib.hid hJ
  have HJX := Lib.hid hJx
  clear hB he hb ha hchk hY h0 hO hOb hR hE hJ hJx hW
  gi_wp2_with (first
    | (refine ⟨trivial, ?_⟩; gi_at_call 101; refine (callsIn_wide.2 (right_yes _ _ hbd)).mono ?_; rintro e' w1 ⟨rfl, rfl⟩)
    | (refine ⟨trivial, ?_⟩; gi_at_call 102; refine (callsIn_wide.2 (HCHK.out _ ((Below.refl _ W).alloc (Nat.le_refl _) _))).mono ?_; rintro e' w1 ⟨rfl, hb1⟩
       have hB2 : Below W.heap.size W (w1.alloc (.cells #[.int .i64 0] 3)) := (((Below.refl _ W).alloc (Nat.le_refl _) _).trans (hb1.mono (by simp))).alloc (Nat.le_trans (by simp) hb1.size) _
       have k02 := cell_later hB2 k0
       have k12 := cell_later hB2 k1
       have k22 := cell_later hB2 k2
       have k32 := cell_later hB2 k3
       have k42 := cell_later hB2 k4
       have ks2 := cell_later hB2 ks)
    | (refine ⟨trivial, ?_⟩; gi_at_call 211; refine (callsIn_wide.2 (candidates_any start r v _)).mono ?_; rintro e' w2 ⟨rfl, rfl⟩))
  have hz1 : W.heap.size + 1 ≤ w1.heap.size := by simpa using hb1.size
  have cY1 := cell_later hb1 (cell_of (heap_new W (.cells #[.func (.yield l) #[] #[]] 107)) (i := 0) rfl)
  have hY1 : W.heap.size < w1.heap.size := by omega
  obtain ⟨W0, hW0⟩ : ∃ W0, ((w1.alloc (.cells #[.int .i64 0] 3)).alloc (.cells #[.int .i64 start] 3)).alloc (.cells #[.string r.fq, .int .i64 r.ev, v, .int .i64 r.ct, .int .i64 r.un] 32) = W0 := ⟨_, rfl⟩
  have hz : W0.heap.size = w1.heap.size + 3 := by rw [← hW0]; simp
  have hBw : Below w1.heap.size w1 W0 := by rw [← hW0]; exact (((Below.refl _ w1).alloc (Nat.le_refl _) _).alloc (by simp) _).alloc (by simp; omega) _
  have hB0 : Below W.heap.size W W0 := (((Below.refl _ W).alloc (Nat.le_refl _) (.cells #[.func (.yield l) #[] #[]] 107)).trans (hb1.mono (by simp))).trans (hBw.mono (by omega))
  have bN : Boxed W0 w1.heap.size 3 (.int .i64 0) := by rw [← hW0]; exact ((Boxed.new w1 _ _).alloc _).alloc _
  have hBX : Boxes W0 (w1.heap.size + 1 + 1) (w1.heap.size + 1) start r v := by
    rw [← hW0]
    have := boxes_new start r v (w1.alloc (.cells #[.int .i64 0] 3)) (HR.out.below hB2) 3 32
    rwa [World.size_alloc] at this
  have cY := cell_later hBw cY1
  have c3 := cell_later hB0 k3
  have c4 := cell_later hB0 k4
  have cE := cell_later hB0 HE.out.s1.1
  have hgl : 2 < W.heap.size := cell_lt HE.out.s1.1
  rw [hW0]
  clear hW0 hBw hB2 k02 k12 k22 k32 k42 ks2 k0 k1 k2 k3 k4 ks cY1 hb1
  have hyO : ¬ (O W.heap.size ∨ W.heap.size = w1.heap.size) := fun h => h.elim (fun h => by have := HOb.out _ h; omega) (fun h => by omega)
  have hrO : ¬ (O br ∨ br = w1.heap.size) := fun h => h.elim (fun h => HO.out.1 h) (fun h => by omega)
  have hHI : W.heap.size ≤ W0.heap.size := hB0.size
  refine Rng.range_law (n := Rng.dp + 1) (by decide) (gf := 248) (lb := lb (w1.heap.size + 1 + 1) (w1.heap.size + 1)) rfl (enters_of Tryz.func248 (by kernel_rfl) rfl)
    (cands_seq (2 + 1) (w1.heap.size + 1 + 1) (w1.heap.size + 1) start y m d r v (e 1) W0 hBX HBAD.out HA.out (by omega) cE)
    (Below.refl _ _) (fun _ => rfl) (fun b => O b ∨ b = w1.heap.size) (fun b hb => hb.elim (fun h => by have := HOb.out _ h; omega) (fun h => by omega)) ?hR
    (fun hi pre W' => (J hi pre W' ∧ Boxed W' w1.heap.size 3 (.int .i64 (pre.length : Int))) ∧ Rng.Stay (fun b => O b ∨ b = w1.heap.size) W0.heap.size W0 W' ∧ Goes r.ct r.un pre)
    (fun c hi pre W' => c = .ret ∧ ((∃ p x, pre = p ++ [x] ∧ J hi p W' ∧ Goes r.ct r.un p ∧ stopB r.ct r.un p.length x = true) ∨ Jx hi pre W' ∧ Goes r.ct r.un pre))
    ?hI ?hIx ?h0 (fun x => { tmps := #[.func (.yield l) #[] #[], .pointer (some ⟨bs, 0, none⟩), .pointer (some ⟨br, 0, none⟩), .pointer (some ⟨W.heap.size, 0, none⟩), .pointer (some ⟨w1.heap.size, 0, none⟩), .int .i64 x, .int .i64 start, .bool true, .bool false, .bool false, .agg #[.string r.fq, .int .i64 r.ev, v, .int .i64 r.ct, .int .i64 r.un], .nilIface, .bool false, .bool false, .int .i64 start, .agg #[.string r.fq, .int .i64 r.ev, v, .int .i64 r.ct, .int .i64 r.un], .func (.func 248) #[] (lb (w1.heap.size + 1 + 1) (w1.heap.size + 1)), .int .i64 x, undef, undef, undef, undef, undef, undef, undef, undef, undef, undef, undef, undef, undef, undef, undef, undef, undef, undef, undef, undef, undef, undef, undef, undef, undef, undef, undef, undef], defers := [] }) ?assign ?body ?done ?stop
  case hR =>
    refine ⟨fun h => h.elim (fun h => by have := HOb.out _ h; omega) (fun h => by omega), fun h => h.elim (fun h => by have := HOb.out _ h; omega) (fun h => by omega), ?_, ?_⟩
    · intro b o n c hv hn h
      have := reads_lt HR.out hv hn
      exact h.elim (fun h => HO.out.2.2.1 b o n c hv hn h) (fun h => by omega)
    · intro b h
      exact h.elim (fun h => by have := HO.out.2.2.2 b h; omega) (fun h => by omega)
  case hI =>
    exact rng_and (rng_and (HJ.out.mono hHI) (rng_boxed (by omega))) (rng_and (rng_stay _ _ _) (rng_const _))
  case hIx =>
    intro c hi s A B row hB hs hg hr
    obtain ⟨hc, (⟨p, x, e1, hj, g1, s1⟩ | ⟨hj, g1⟩)⟩ := hs
    · exact ⟨hc, .inl ⟨p, x, e1, (HJ.out.mono hHI) hi p A B row hB hj hg hr, g1, s1⟩⟩
    · exact ⟨hc, .inr ⟨(HJX.out.mono hHI) hi s A B row hB hj hg hr, g1⟩⟩
  case h0 =>
    intro W' hW'
    exact ⟨⟨HH.out W' (hB0.trans (hW'.mono hHI)), bN.kept (Rng.grownBy_of_below hW') (by simp)⟩, Rng.Stay.of_below hW', goes_nil _ _⟩
  case assign =>
    intro l2 x W' K hK
    gi_wp2
    exact hK
  case body =>
    rintro hi l2 pre x W' hhi ⟨⟨hj, bN'⟩, hst, hgo⟩ hlen
    have y1 := stay_cell hst cY hyO (cell_lt cY)
    have y3 := stay_cell hst c3 hrO (cell_lt c3)
    have y4 := stay_cell hst c4 hrO (cell_lt c4)
    have cN := bN'.cell
    have fN := bN'.frozen
    by_cases hs : stopB r.ct r.un pre.length x = true
    · have hcs := stop_cases hs
      have HS := Lib.hid hs
      have HJ1 := Lib.hid hj
      have HG := Lib.hid hgo
      clear hs hj hgo
      rcases hcs with ⟨h1, h2⟩ | ⟨h1, h2, h3, h4⟩ | ⟨h1, h3, h4⟩
      all_goals (
        gi_wp2
        refine ⟨fun _ h => (by cases h), ?_⟩
        gi_wp2
        exact ⟨rest_refl _ _, rfl, .inl ⟨pre, x, rfl, HJ1.out, HG.out, HS.out⟩⟩)
    · have hs' : stopB r.ct r.un pre.length x = false := by simpa using hs
      have hcs := go_cases hs'
      obtain ⟨f1, t1, a1, b1, hy1, hR1⟩ := HY.out hi pre x W' (by omega) hj hlen
      have HS := Lib.hid hs'
      have HJ1 := Lib.hid hj
      have HG := Lib.hid hgo
      have HST := Lib.hid hst
      clear hs hj hgo hs' hst
      have fin : ∀ (a0 : Act) W1, J hi (pre ++ [x]) W1 → Rng.Stay O hi W' W1 → Rng.Post W0.heap.size (fun b => O b ∨ b = w1.heap.size)
          (fun hi pre W' => (J hi pre W' ∧ Boxed W' w1.heap.size 3 (.int .i64 (pre.length : Int))) ∧ Rng.Stay (fun b => O b ∨ b = w1.heap.size) W0.heap.size W0 W' ∧ Goes r.ct r.un pre)
          (fun c hi pre W' => c = .ret ∧ ((∃ p x, pre = p ++ [x] ∧ J hi p W' ∧ Goes r.ct r.un p ∧ stopB r.ct r.un p.length x = true) ∨ Jx hi pre W' ∧ Goes r.ct r.un pre))
          hi (pre ++ [x]) W' .normal a0 (W1.setCell ⟨w1.heap.size, 0, none⟩ (.int .i64 ((pre.length : Int) + 1))) := by
        intro _ W1 hJ1 hk1
        have hbO : ¬ O w1.heap.size := fun h => by have := HOb.out _ h; omega
        have b1 : Boxed W1 w1.heap.size 3 (.int .i64 (pre.length : Int)) := hk1.same _ _ bN' (.inr ⟨hbO, by omega⟩)
        have hk2 := hk1.mono (O' := fun b => O b ∨ b = w1.heap.size) (hi' := hi) (fun b _ h => .inl h) (Nat.le_refl _)
        have hcl : ∀ o, W'.heap[w1.heap.size]? = some o → o.isCells = true := fun o ho => by
          have e : W'.heap[w1.heap.size]? = _ := bN'
          rw [e] at ho; cases ho; rfl
        have hcl0 : ∀ o, W0.heap[w1.heap.size]? = some o → o.isCells = true := fun o ho => by
          have e : W0.heap[w1.heap.size]? = _ := bN
          rw [e] at ho; cases ho; rfl
        refine ⟨hk2.setCell (.inl (.inr rfl)) hcl _, ⟨HJ.out hi _ W1 _ (some w1.heap.size) (by omega) hJ1 (grownBy_setCell' W1 w1.heap.size _) (fun r e => by cases e; exact ⟨by omega, by omega⟩), ?_⟩, (HST.out.trans (hk2.mono (fun _ _ h => h) (by omega))).setCell (.inl (.inr rfl)) hcl0 _, goes_snoc HG.out HS.out⟩
        have := b1.set (.int .i64 ((pre.length : Int) + 1))
        rw [List.length_append]
        simpa using this
      have FIN := Lib.hid fin
      clear fin
      have HLEN := Lib.hid hlen
      clear hlen
      have fz : ∀ W1, Rng.Stay O hi W' W1 → W1.cell? ⟨w1.heap.size, 0, none⟩ = some (.int .i64 (pre.length : Int)) ∧ W1.frozen? ⟨w1.heap.size, 0, none⟩ = false := fun W1 hk1 => by
        have b1 : Boxed W1 w1.heap.size 3 (.int .i64 (pre.length : Int)) := hk1.same _ _ bN' (.inr ⟨fun h => by have := HOb.out _ h; omega, by omega⟩)
        exact ⟨b1.cell, b1.frozen⟩
      have FZ := Lib.hid fz
      clear fz
      rcases hcs with ⟨⟨h1, h2⟩, h3⟩ | ⟨h1, h3⟩ | ⟨⟨h1, h2⟩, h3, h4⟩ | ⟨h1, h3, h4⟩
      all_goals (
        try (have h2' : ((pre.length : Int) == r.ct) = false := by simpa using h2)
        try (have h3' : (r.un != -1) = true := by simpa using h3)
        try (have h4' : decide (r.un < x) = false := by simpa using h4)
        gi_wp2
        refine (round_in hR1).mono ?_
        rintro e3 W1 (⟨rfl, hJ1, hk1⟩ | ⟨rfl, hx1, hr1⟩)
        · obtain ⟨cN1, fN1⟩ := FZ.out W1 hk1
          have hlen' : (pre.length : Int) < 100000 := by have := HLEN.out; omega
          have hq1 := Lib.hid hk1
          have hq2 := Lib.hid hJ1
          clear hk1 hJ1
          gi_wp2
          exact FIN.out _ W1 hq2.out hq1.out
        · gi_wp2
          exact ⟨fun b o hb hc hn => hr1 b o (by omega) hc hn, rfl, .inr ⟨hx1, goes_snoc HG.out HS.out⟩⟩)
  case done =>
    rintro D hi xs W' hD hDh rfl ⟨⟨hj, _⟩, _, hgo⟩ hK
    gi_wp2
    refine ⟨by simp, .inl ⟨_, _, rfl, run_takeDeferred hK, ?_⟩⟩
    refine ⟨_, results_none rfl _ _ _, ⟨_, rfl⟩, hi, by omega, .inl ⟨_, (days_done hgo).symm, HJ.out.putObj _ (by omega) hj (by omega) hDh⟩⟩
  case stop =>
    rintro D hi c pre W' hD hDh hpre ⟨rfl, hq⟩ hK
    gi_wp2
    refine ⟨by simp, .inl ⟨_, _, rfl, run_takeDeferred hK, ?_⟩⟩
    refine ⟨_, results_none rfl _ _ _, ⟨_, rfl⟩, hi, by omega, ?_⟩
    rcases hq with ⟨p, x, rfl, hj, g1, s1⟩ | ⟨hj, g1⟩
    · exact .inl ⟨p, (days_stop g1 hpre s1).symm, HJ.out.putObj _ (by omega) hj (by omega) hDh⟩
    · exact .inr ⟨pre, days_pre g1 hpre, HJX.out.putObj _ (by omega) hj (by omega) hDh⟩
end Cand
end Go.Proofs.YtenmeaoagepfnaaGreatDoor
end

section
/- What the iterator of all days gives, by name. -/
namespace Go.Proofs.YtenmeaoagepfnaaGreatDoor
open Go Go.RowKit Go.Shelf Lmd
attribute [local go_sem] Oper.semAt_some
namespace Cand
open Rul Day Er

/-- what the iterator of all days gives -/
def Gives (start : Int) (r : Ru) (v : Value) (l : List Int) (w : World) : Prop :=
  ∀ (W0 : World) (br bs : Nat), Below w.heap.size w W0 → Boxes W0 br bs start r v → Rng.Seq Tryz.prog 210 (la br bs) (fun x : Int => #[.int .i64 x]) (Apart (2 + 1) br bs v) (fun xs => xs = l) (fun pre => pre <+: l) 100000 W0

theorem gives_all (start y m d : Int) (r : Ru) (v : Value) (e : Nat → Addr) (w : World) (he : E4 w e) (hb : bad r = 0) (hl : r.ds.length < 50000) (ha : Cal.At start y m d) : Gives start r v (daysOf r.ct r.un (cands start y m d r)) w :=
  fun W0 br bs hW hB => all_seq (2 + 1) br bs start y m d r v e W0 hB (he.below hW) hb hl ha (by omega)
theorem Gives.below {start : Int} {r : Ru} {v : Value} {l : List Int} {w w' : World} (h : Gives start r v l w) (hb : Below w.heap.size w w') : Gives start r v l w' :=
  fun W0 br bs hW hB => h W0 br bs (hb.trans (hW.mono hb.size)) hB

end Cand
end Go.Proofs.YtenmeaoagepfnaaGreatDoor
end

section
/- Is, over what the iterator of all days gives. -/
namespace Go.Proofs.YtenmeaoagepfnaaGreatDoor
open Go Go.RowKit Go.Shelf Lmd
attribute [local go_sem] Oper.semAt_some
namespace Cand
open Rul Day Er

theorem isB_hit {l p : List Int} {x d : Int} (h : p ++ [x] <+: l) (hp : ∀ y ∈ p, y < d) (hx : d ≤ x) : isB l d = decide (x = d) := by
  obtain ⟨t, rfl⟩ := h
  unfold isB
  have h1 : List.find? (fun x => decide (d ≤ x)) (p ++ [x] ++ t) = some x := by
    rw [List.append_assoc, List.find?_append, List.find?_eq_none.2 (fun y hy => by have := hp y hy; simp; omega)]
    simp [hx]
  rw [h1]
theorem isB_miss {l : List Int} {d : Int} (hp : ∀ y ∈ l, y < d) : isB l d = false := by
  unfold isB
  rw [List.find?_eq_none.2 (fun y hy => by have := hp y hy; simp; omega)]

set_option maxRecDepth 100000 in
set_option maxHeartbeats 4000000 in
theorem is_any (start : Int) (r : Ru) (v : Value) (dd : Int) (l : List Int) (e : Nat → Addr) (w : World) (hG : Gives start r v l w) (he : E4 w e) (hr : Ints.Reads w v r.ds) :
    Calls Tryz.prog 159 #[.int .i64 start, r.val v, .int .i64 dd] w fun e' w' => e' = .returned (.bool (isB l dd)) ∧ Below w.heap.size w w' := by
  refine (callsIn_wide (n := Rng.dp + 1)).1 ?_
  refine callsIn_of_wp_marks Tryz.func159 rfl trivial ?_ rfl
  simp only [Tryz.ntmps159, Ru.val, List.size_toArray, List.length_cons, List.length_nil, Nat.reduceAdd, Nat.reduceSub, Array.replicate_succ, Array.replicate_zero, List.push_toArray, List.append_toArray, List.nil_append, List.cons_append]
  have HR := Lib.hid hr
  have HE := Lib.hid he
  have HG := Lib.hid hG
  clear hr he hG
  gi_wp2_with (refine ⟨trivial, ?_⟩; gi_at_call 157; refine (callsIn_wide.2 (all_any start r v _)).mono ?_; rintro e' w2 ⟨rfl, rfl⟩)
  obtain ⟨Wa, hWa⟩ : ∃ Wa, ((w.alloc (.cells #[.string r.fq, .int .i64 r.ev, v, .int .i64 r.ct, .int .i64 r.un] 32)).alloc (.cells #[.int .i64 dd] 3)).alloc (.cells #[.bool false] 4) = Wa := ⟨_, rfl⟩
  have hza : Wa.heap.size = w.heap.size + 1 + 1 + 1 := by rw [← hWa]; simp
  have hBa : Below w.heap.size w Wa := by
    rw [← hWa]
    exact (((Below.refl _ w).alloc (Nat.le_refl _) _).alloc (by simp) _).alloc (by simp; omega) _
  have bN : Boxed Wa (w.heap.size + 1) 3 (.int .i64 dd) := by
    have h := (Boxed.new (w.alloc (.cells #[.string r.fq, .int .i64 r.ev, v, .int .i64 r.ct, .int .i64 r.un] 32)) 3 (.int .i64 dd)).alloc (.cells #[.bool false] 4)
    rw [hWa] at h; simpa only [World.size_alloc] using h
  have b6 : Boxed Wa (w.heap.size + 1 + 1) 4 (.bool false) := by
    have h := Boxed.new ((w.alloc (.cells #[.string r.fq, .int .i64 r.ev, v, .int .i64 r.ct, .int .i64 r.un] 32)).alloc (.cells #[.int .i64 dd] 3)) 4 (.bool false)
    rw [hWa] at h; simpa only [World.size_alloc] using h
  rw [hWa]
  clear hWa
  have hBX := boxes_new start r v Wa (HR.out.below hBa) 3 32
  obtain ⟨W0, hW0⟩ : ∃ W0, (Wa.alloc (.cells #[.int .i64 start] 3)).alloc (.cells #[.string r.fq, .int .i64 r.ev, v, .int .i64 r.ct, .int .i64 r.un] 32) = W0 := ⟨_, rfl⟩
  rw [hW0] at hBX ⊢
  have hB0 : Below Wa.heap.size Wa W0 := by rw [← hW0]; exact ((Below.refl _ Wa).alloc (Nat.le_refl _) _).alloc (by simp) _
  have hz : W0.heap.size = w.heap.size + 5 := by rw [← hW0]; simp [hza]
  rw [hza] at hBX
  have bN0 := bN.kept (Rng.grownBy_of_below hB0) (by simp)
  have b60 := b6.kept (Rng.grownBy_of_below hB0) (by simp)
  have hBw : Below w.heap.size w W0 := hBa.trans (hB0.mono (by omega))
  have hgl : 2 < w.heap.size := cell_lt HE.out.s1.1
  clear hW0 bN b6 hBa hB0
  refine Rng.range_law (n := Rng.dp + 1) (by decide) (gf := 210) (lb := la (w.heap.size + 1 + 1 + 1 + 1) (w.heap.size + 1 + 1 + 1)) rfl (enters_of Tryz.func210 (by kernel_rfl) rfl)
    (HG.out W0 _ _ hBw hBX) (Below.refl _ _) (fun _ => rfl) (fun b => b = w.heap.size + 1 + 1) (fun b hb => by omega) ?hR
    (fun hi pre W' => (Boxed W' (w.heap.size + 1) 3 (.int .i64 dd) ∧ Boxed W' (w.heap.size + 1 + 1) 4 (.bool false)) ∧ Rng.Stay (fun b => b = w.heap.size + 1 + 1) W0.heap.size W0 W' ∧ ∀ y ∈ pre, y < dd)
    (fun c hi pre W' => c = .ret ∧ (∃ p x, pre = p ++ [x] ∧ (∀ y ∈ p, y < dd) ∧ dd ≤ x ∧ Boxed W' (w.heap.size + 1 + 1) 4 (.bool (decide (x = dd)))) ∧ Rng.Stay (fun b => b = w.heap.size + 1 + 1) W0.heap.size W0 W')
    ?hI ?hIx ?h0 (fun x => { tmps := #[.int .i64 start, .agg #[.string r.fq, .int .i64 r.ev, v, .int .i64 r.ct, .int .i64 r.un], .int .i64 dd, undef, .pointer (some ⟨w.heap.size, 0, none⟩), .pointer (some ⟨w.heap.size + 1, 0, none⟩), .pointer (some ⟨w.heap.size + 1 + 1, 0, none⟩), .int .i64 x, .int .i64 start, .agg #[.string r.fq, .int .i64 r.ev, v, .int .i64 r.ct, .int .i64 r.un], .func (.func 210) #[] (la (w.heap.size + 1 + 1 + 1 + 1) (w.heap.size + 1 + 1 + 1)), .int .i64 x, undef, undef, undef, undef, undef, undef], defers := [] }) ?assign ?body ?done ?stop
  case hR =>
    refine ⟨fun h => by omega, fun h => by omega, ?_, fun b h => by omega⟩
    intro b o m c hv hm h
    have := reads_lt HR.out hv hm
    omega
  case hI =>
    exact rng_and (rng_and (rng_boxed (f := fun _ => .int .i64 dd) (by omega)) (rng_boxed (f := fun _ => .bool false) (by omega))) (rng_and (rng_stay _ _ _) (rng_const _))
  case hIx =>
    intro c hi s A B row hB hs hg hr
    obtain ⟨hc, ⟨p, x, e1, hn, hx, g1⟩, hst⟩ := hs
    exact ⟨hc, ⟨p, x, e1, hn, hx, g1.kept hg (fun e => by have := (hr _ e.symm).1; omega)⟩, rng_stay _ _ _ hi s A B row hB hst hg hr⟩
  case h0 =>
    intro W' hW'
    exact ⟨⟨bN0.kept (Rng.grownBy_of_below hW') (by simp), b60.kept (Rng.grownBy_of_below hW') (by simp)⟩, Rng.Stay.of_below hW', by simp⟩
  case assign =>
    intro l2 x W' K hK
    gi_wp2
    exact hK
  case body =>
    rintro hi l2 pre x W' hhi ⟨⟨cn, c6⟩, hst, hno⟩ hlen
    have y1 := cn.cell
    have y2 := c6.cell
    have f2 := c6.frozen
    have HST := Lib.hid hst
    have HC6 := Lib.hid c6
    have HCN := Lib.hid cn
    have HNO := Lib.hid hno
    clear hst c6 cn hno hlen
    have cl : ∀ {b : Nat} {t : TypeId} {u : Value} {A : World}, Boxed A b t u → ∀ o, A.heap[b]? = some o → o.isCells = true := fun hb o ho => by
      rw [show _ = _ from hb] at ho; cases ho; rfl
    have CL0 := Lib.hid (cl b60)
    clear cl
    by_cases hn : dd ≤ x
    · by_cases hq : x = dd
      · have hq' : (x == dd) = true := by simpa using hq
        subst hq
        gi_wp2
        exact ⟨rest_set (rest_refl _ _) _ (by show w.heap.size + 1 + 1 < _; omega) _, rfl,
          ⟨pre, x, rfl, HNO.out, hn, by simpa using HC6.out.set (.bool true)⟩,
          HST.out.setCell (.inl rfl) CL0.out _⟩
      · have hq' : (x == dd) = false := by simpa using hq
        have hd : decide (x = dd) = false := decide_eq_false hq
        gi_wp2
        exact ⟨rest_set (rest_refl _ _) _ (by show w.heap.size + 1 + 1 < _; omega) _, rfl,
          ⟨pre, x, rfl, HNO.out, hn, by rw [hd]; first | exact HC6.out.set (.bool false) | (have := HC6.out.set (.bool (x == dd)); rwa [hq'] at this)⟩,
          HST.out.setCell (.inl rfl) CL0.out _⟩
    · gi_wp2
      exact ⟨Rng.Stay.refl _ _ _, ⟨HCN.out, HC6.out⟩, (by first | exact HST.out | (have h := HST.out; rwa [hz] at h)), fun y hy => by
        rcases List.mem_append.1 hy with hy | hy
        · exact HNO.out y hy
        · simp at hy; omega⟩
  case done =>
    rintro D hi xs W' hD hDh rfl ⟨⟨cn, c6⟩, hst, hno⟩ hK
    have y2 := c6.cell
    have f2 := c6.frozen
    have HST := Lib.hid hst
    have HK := Lib.hid hK
    clear hst hK
    gi_wp2
    have g1 : Boxed (W'.setCell ⟨w.heap.size + 1 + 1, 0, none⟩ (.bool false)) (w.heap.size + 1 + 1) 4 (.bool false) := c6.set _
    have hK : (W'.setCell ⟨w.heap.size + 1 + 1, 0, none⟩ (.bool false)).heap[D]? = some (.deferred (some [])) := by
      rw [Below.heap_setCell _ _ _ _ (by show D ≠ w.heap.size + 1 + 1; omega)]; exact HK.out
    have cl : ∀ {b : Nat} {t : TypeId} {u : Value} {A : World}, Boxed A b t u → ∀ o, A.heap[b]? = some o → o.isCells = true := fun hb o ho => by
      rw [show _ = _ from hb] at ho; cases ho; rfl
    have hst2 := HST.out.setCell (p := ⟨w.heap.size + 1 + 1, 0, none⟩) (.inl rfl) (cl b60) (.bool false)
    refine ⟨by simp, .inl ⟨_, _, rfl, run_takeDeferred hK, ?_⟩⟩
    have r1 := (g1.kept (grownBy_putObj' _ D (.deferred none)) (by simp; omega)).cell
    have hb := (stay_below hst2 (B := w.heap.size) (fun b h => by omega) (by omega) (by omega))
    refine ⟨.bool false, ?_, by rw [isB_miss hno], ?_⟩
    · simp [results, Tryz.f159, go_sem, r1]
    · exact (hBw.trans hb).trans (belowK_b (w := w) (Nat.le_refl _) _ D _ _ (by omega) hK rfl rfl)
  case stop =>
    rintro D hi c pre W' hD hDh hpre ⟨rfl, ⟨p, x, rfl, hn, hx, g1⟩, hst⟩ hK
    gi_wp2
    refine ⟨by simp, .inl ⟨_, _, rfl, run_takeDeferred hK, ?_⟩⟩
    have r1 := (g1.kept (grownBy_putObj' W' D (.deferred none)) (by simp; omega)).cell
    have hb := (stay_below hst (B := w.heap.size) (fun b h => by omega) (by omega) (by omega))
    refine ⟨.bool (decide (x = dd)), ?_, by rw [isB_hit hpre hn hx], ?_⟩
    · simp [results, Tryz.f159, go_sem, r1]
    · exact (hBw.trans hb).trans (belowK_b (w := w) (Nat.le_refl _) W' D _ _ (by omega) hK rfl rfl)
end Cand
end Go.Proofs.YtenmeaoagepfnaaGreatDoor
end
