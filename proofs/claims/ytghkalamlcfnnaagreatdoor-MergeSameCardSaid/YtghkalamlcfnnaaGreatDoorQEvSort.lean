/- slices.Sort and slices.Compact at numbers in a row of one's own, each in one statement; what they make, in plain Lean. -/
import Derived.Lib.SlicesCompact
import Derived.Test.YtghkalamlcfnnaaGreatDoorQA4
import Derived.Test.YtghkalamlcfnnaaGreatDoorQA5
import Derived.Test.YtghkalamlcfnnaaGreatDoorQEvLists
namespace Lmd.Cpt
open Go Go.Lib
theorem get_snoc {d : List Int} {m : Nat} (h : m < d.length) : d.take (m + 1) = d.take m ++ [d[m]] := by
  rw [List.take_add_one, List.getElem?_eq_getElem h]; rfl
theorem compact_upto {d : List Int} (h : d.Pairwise (· ≤ ·)) : ∀ m, m ≤ d.length → (compactUpTo d.toArray m).Pairwise (· < ·) ∧ (∀ x, x ∈ compactUpTo d.toArray m ↔ x ∈ d.take m)
  | 0, _ => by simp [compactUpTo]
  | m + 1, hm => by
    obtain ⟨h1, h2⟩ := compact_upto h m (by omega)
    have hlt : m < d.length := by omega
    rw [compactUpTo_succ, get_snoc hlt]
    have hg : d.toArray[m]! = d[m] := by simp [getElem!_pos, hlt]
    by_cases h0 : m = 0
    · subst h0
      have hk : keeps d.toArray 0 = true := by simp [keeps]
      rw [hk, hg]
      simp [compactUpTo]
    · have hl2 : m - 1 < d.length := by omega
      have hg2 : d.toArray[m - 1]! = d[m - 1] := by simp [getElem!_pos, hl2]
      have hle : ∀ x ∈ d.take m, x ≤ d[m - 1] := by
        intro x hx
        obtain ⟨i, hi, rfl⟩ := List.getElem_of_mem hx
        rw [List.length_take] at hi
        rw [List.getElem_take]
        by_cases e : i = m - 1
        · subst e; exact Int.le_refl _
        · exact List.pairwise_iff_getElem.1 h i (m - 1) (by omega) hl2 (by omega)
      have hmm : d[m - 1] ≤ d[m] := List.pairwise_iff_getElem.1 h (m - 1) m hl2 hlt (by omega)
      by_cases e : d[m] = d[m - 1]
      · have hk : keeps d.toArray m = false := keeps_neg (by omega) (by rw [hg, hg2]; exact e)
        rw [hk]
        simp only [Bool.false_eq_true, if_false, List.append_nil]
        refine ⟨h1, fun x => ?_⟩
        rw [h2 x, List.mem_append, List.mem_singleton]
        constructor
        · exact .inl
        · rintro (hx | rfl)
          · exact hx
          · rw [e]
            have : (d.take m)[m - 1]'(by rw [List.length_take]; omega) = d[m - 1] := List.getElem_take
            rw [← this]; exact List.getElem_mem _
      · have hk : keeps d.toArray m = true := keeps_pos (by rw [hg, hg2]; exact e)
        rw [hk, hg]
        simp only [if_true]
        refine ⟨?_, fun x => ?_⟩
        · rw [List.pairwise_append]
          refine ⟨h1, by simp, fun a ha b hb => ?_⟩
          simp at hb; subst hb
          have := hle a ((h2 a).1 ha)
          omega
        · rw [List.mem_append, List.mem_append, h2 x]
theorem compact_rise {d : List Int} (h : d.Pairwise (· ≤ ·)) : (compact d).Pairwise (· < ·) ∧ ∀ x, x ∈ compact d ↔ x ∈ d := by
  have := compact_upto h d.length (Nat.le_refl _)
  rw [List.take_length] at this
  exact this
theorem sort_rise (l : List Int) : (l.mergeSort fun x y => decide (x ≤ y)).Pairwise (· ≤ ·) := by
  have := List.pairwise_mergeSort (le := fun x y : Int => decide (x ≤ y)) (fun a b c h1 h2 => by simp at *; omega) (fun a b => by simp; omega) l
  exact this.imp (fun h => by simpa using h)
theorem sort_mem (l : List Int) (x : Int) : x ∈ (l.mergeSort fun x y => decide (x ≤ y)) ↔ x ∈ l := (List.mergeSort_perm l _).mem_iff
def uniq (l : List Int) : List Int := compact (l.mergeSort fun x y => decide (x ≤ y))
theorem uniq_rise (l : List Int) : (uniq l).Pairwise (· < ·) := (compact_rise (sort_rise l)).1
theorem uniq_mem (l : List Int) (x : Int) : x ∈ uniq l ↔ x ∈ l := ((compact_rise (sort_rise l)).2 x).trans (sort_mem l x)
theorem len_sub : ∀ {a b : List Int}, a.Pairwise (· < ·) → (∀ x ∈ a, x ∈ b) → a.length ≤ b.length
  | [], _, _, _ => Nat.zero_le _
  | x :: t, b, ha, h => by
    have hp := List.pairwise_cons.1 ha
    have hx := h x (by simp)
    have := len_sub (a := t) (b := b.erase x) hp.2 (fun y hy => by
      have : y ≠ x := by have := hp.1 y hy; omega
      exact (List.mem_erase_of_ne this).2 (h y (by simp [hy])))
    rw [List.length_erase_of_mem hx] at this
    have : 0 < b.length := List.length_pos_of_mem hx
    simp only [List.length_cons]; omega
end Lmd.Cpt
namespace Go.Proofs.YtghkalamlcfnnaaGreatDoor
open Go Go.RowKit Go.Shelf Lmd
namespace Evt
open Rul Day Cand
def RowI (w : World) (v : Value) (xs : List Int) : Prop :=
  (xs = [] ∧ v = .slice none 0 0) ∨ ∃ g off cap t cur, v = .slice (some ⟨g, off, none⟩) xs.length cap ∧ xs.length ≤ cap ∧ w.heap[g]? = some (.cells cur t (0, 0)) ∧ Sort.Holds (Value.int .i64) w g off xs.toArray
theorem arr_el (xs : List Int) (j : Nat) : (xs.toArray)[j]! = Ints.el xs j := by rw [← el_getD]; simp
theorem rowI_own {w : World} {base : Nat} {v : Value} {xs : List Int} (h : w.ownsRow base 3 1 v xs.length (cellsOf xs)) : RowI w v xs := by
  rcases h.2 with ⟨rfl, h0⟩ | ⟨g, cap, cur, rfl, hb, hh, h1, h2, h3, ht⟩
  · exact .inl ⟨List.length_eq_zero_iff.1 h0, rfl⟩
  · refine .inr ⟨g, 0, cap, _, cur, rfl, h1, hh, fun j hj => ?_⟩
    have hj' : j < xs.length := by simpa using hj
    have hc := cellsOf_get hj'
    rw [← ht, Nat.mul_one, List.getElem?_take_of_lt hj'] at hc
    refine ⟨?_, ?_⟩
    · rw [arr_el]
      simp only [World.cell?, hh, Nat.zero_add]
      simpa using hc
    · simp [World.frozen?, hh]
theorem RowI.reads {w : World} {v : Value} {xs : List Int} (h : RowI w v xs) : Ints.Reads w v xs := by
  rcases h with ⟨rfl, rfl⟩ | ⟨g, off, cap, t, cur, rfl, h1, hh, hH⟩
  · exact .inl ⟨rfl, _, _, rfl⟩
  · refine .inr ⟨g, off, cap, rfl, fun j hj => ?_⟩
    have := (hH j (by simpa using hj)).1
    rwa [arr_el] at this
theorem RowI.shape {w : World} {v : Value} {xs : List Int} (h : RowI w v xs) : ∃ a c, v = .slice a xs.length c := by
  rcases h with ⟨rfl, rfl⟩ | ⟨g, off, cap, t, cur, rfl, _⟩
  · exact ⟨_, _, rfl⟩
  · exact ⟨_, _, rfl⟩
theorem put_size (enc : Int → Value) (w : World) (g off : Nat) (d : Array Int) : (Sort.putRow enc w g off d).heap.size = w.heap.size := by
  simp [Sort.putRow, Sort.mapBlock]
theorem put_other (enc : Int → Value) (w : World) (g off : Nat) (d : Array Int) {k : Nat} (h : k ≠ g) : (Sort.putRow enc w g off d).heap[k]? = w.heap[k]? := by
  simp only [Sort.putRow, Sort.mapBlock, Array.getElem?_modify]
  rw [if_neg (Ne.symm h)]
theorem put_at (enc : Int → Value) (w : World) (g off : Nat) (d : Array Int) {cur : Array Value} {t : TypeId} {fr : Nat × Nat} (h : w.heap[g]? = some (.cells cur t fr)) : (Sort.putRow enc w g off d).heap[g]? = some (.cells (Sort.putCells enc off d cur) t fr) := by
  simp only [Sort.putRow, Sort.mapBlock, Array.getElem?_modify, h, if_true, Option.map_some]
  rfl
theorem grown_put (enc : Int → Value) (w : World) (n g off : Nat) (d : Array Int) (os : Array Obj) : w.grownBy (Sort.grow (Sort.putRow enc (Sort.ahead w n) g off d) os) (some g) := by
  refine ⟨rfl, rfl, rfl, ?_, fun k hk hne => ?_⟩
  · show w.heap.size ≤ ((Sort.putRow enc (Sort.ahead w n) g off d).heap ++ os).size
    rw [Array.size_append, put_size]; exact Nat.le_add_right _ _
  · have hk2 : k < (Sort.putRow enc (Sort.ahead w n) g off d).heap.size := by rw [put_size]; exact hk
    rw [grow_old hk2, put_other enc _ g off d (fun e => hne (by rw [e]))]
    rfl
theorem holds_grow {enc : Int → Value} {w : World} {g off : Nat} {d : Array Int} {os : Array Obj} (hg : g < w.heap.size) (h : Sort.Holds enc w g off d) : Sort.Holds enc (Sort.grow w os) g off d := fun j hj => by
  have := h j hj
  simp only [World.cell?, World.frozen?] at this ⊢
  rw [grow_old hg]; exact this
theorem sort_len (xs : List Int) : (xs.mergeSort fun x y => decide (x ≤ y)).length = xs.length := List.length_mergeSort xs
theorem sort_any (v : Value) (xs : List Int) (w : World) (h : RowI w v xs) (hl : xs.length ≤ 3000000) :
    Calls Tryz.prog 207 #[v] w fun e w' => e = .returned (.tuple #[]) ∧ RowI w' v (xs.mergeSort fun x y => decide (x ≤ y)) ∧ w.grownBy w' v.ownBlock := by
  rcases h with ⟨rfl, rfl⟩ | ⟨g, off, cap, t, cur, rfl, h1, hh, hH⟩
  · exact (Tryz.slices_Sort_int_none none 0 w).mono fun _ _ ⟨h1, h2⟩ => ⟨h1, .inl ⟨by simp, rfl⟩, by rw [h2]; exact World.grownBy.refl _ _⟩
  · have hg := row_lt hh
    refine (Tryz.slices_Sort_int g off cap xs w hH hg (by omega)).mono fun _ _ ⟨h2, n, os, h3⟩ => ⟨h2, .inr ⟨g, off, cap, t, Sort.putCells (Value.int .i64) off (xs.mergeSort fun x y => decide (x ≤ y)).toArray cur, by rw [sort_len], by rw [sort_len]; exact h1, ?_, ?_⟩, by rw [h3]; exact grown_put _ _ _ _ _ _ _⟩
    · rw [h3, grow_old (by rw [put_size]; exact hg)]
      exact put_at _ _ _ _ _ hh
    · rw [h3]
      refine holds_grow (by rw [put_size]; exact hg) ?_
      exact Sort.holds_putRow _ (Sort.ahead w n) g off xs.toArray _ hH (by simp)
theorem RowI.set {w : World} {v u : Value} {xs : List Int} {b : Nat} (h : RowI w v xs) (hb : some b ≠ v.ownBlock) : RowI (w.setCell ⟨b, 0, none⟩ u) v xs := by
  rcases h with ⟨rfl, rfl⟩ | ⟨g, off, cap, t, cur, rfl, h1, hh, hH⟩
  · exact .inl ⟨rfl, rfl⟩
  · have hne : g ≠ b := fun e => hb (by rw [e]; rfl)
    have hs : (w.setCell ⟨b, 0, none⟩ u).heap[g]? = w.heap[g]? := Below.heap_setCell _ _ _ _ hne
    refine .inr ⟨g, off, cap, t, cur, rfl, h1, hs.trans hh, fun j hj => ?_⟩
    have := hH j hj
    simp only [World.cell?, World.frozen?] at this ⊢
    rw [hs]; exact this
theorem compact_len (xs : List Int) : (Lib.compact xs).length ≤ xs.length := by
  unfold Lib.compact Lib.compactUpTo
  rw [List.length_map]
  exact Nat.le_trans (List.length_filter_le _ _) (by simp)
theorem compact_any (v : Value) (xs : List Int) (w : World) (h : RowI w v xs) (hl : xs.length ≤ 3000000) :
    Calls Tryz.prog 208 #[v] w fun e w' => ∃ v', e = .returned v' ∧ RowI w' v' (Lib.compact xs) ∧ v'.ownBlock = v.ownBlock ∧ w.grownBy w' v.ownBlock := by
  rcases h with ⟨rfl, rfl⟩ | ⟨g, off, cap, t, cur, rfl, h1, hh, hH⟩
  · exact (Tryz.slices_Compact_int_empty none 0 w).mono fun _ _ ⟨h1, h2⟩ => ⟨_, h1, .inl ⟨rfl, rfl⟩, rfl, by rw [h2]; exact World.grownBy.refl _ _⟩
  · have hg := row_lt hh
    have hcl := compact_len xs
    refine (Tryz.slices_Compact_int g off cap xs w hH (by omega) h1).mono fun _ _ ⟨h2, q, h3⟩ => ⟨_, h2, .inr ⟨g, off, cap, t, Sort.putCells (Value.int .i64) off (Lib.compact xs ++ List.replicate (xs.length - (Lib.compact xs).length) 0).toArray cur, rfl, by omega, ?_, ?_⟩, rfl, ?_⟩
    · rw [h3]; exact put_at _ _ _ _ _ hh
    · rw [h3]
      have := Sort.holds_putRow (Value.int .i64) (Sort.ahead w q) g off xs.toArray (Lib.compact xs ++ List.replicate (xs.length - (Lib.compact xs).length) 0).toArray hH (by simp; omega)
      intro j hj
      have hj' : j < (Lib.compact xs).length := by simpa using hj
      have h4 := this j (by simp; omega)
      rw [arr_el] at h4 ⊢
      have e : Ints.el (Lib.compact xs ++ List.replicate (xs.length - (Lib.compact xs).length) 0) j = Ints.el (Lib.compact xs) j := by
        unfold Ints.el
        rw [List.getElem?_append_left hj']
      rw [e] at h4
      exact h4
    · rw [h3]
      have := grown_put (Value.int .i64) w q g off (Lib.compact xs ++ List.replicate (xs.length - (Lib.compact xs).length) 0).toArray #[]
      rw [grow_nil] at this
      exact this
end Evt
end Go.Proofs.YtghkalamlcfnnaaGreatDoor
