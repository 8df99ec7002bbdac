/- DfL, DfW, TSort: texts joined. -/
import Derived.Test.YtghkalamlcfnnaaGreatDoorQC1
import Derived.Test.YtghkalamlcfnnaaGreatDoorQBkRef
import Derived.Laws.AppendOwnNone
import Derived.Deep.CutRange
import Derived.Test.YtghkalamlcfnnaaGreatDoorQA5
import Derived.Test.YtghkalamlcfnnaaGreatDoorQA14
import Derived.Shelf.Slices.CompactS
import Derived.Lib.SlicesCompact
section
namespace Go.Proofs.YtghkalamlcfnnaaGreatDoor
open Go Go.RowKit Lmd
namespace Df
open Evt Bk Rul Day Cand Er Tp
def evAt (k : List UInt8) (L : List Ev) : Option Ev := L.find? fun e => decide (key e = k)
theorem at_mem {k : List UInt8} {L : List Ev} (ha : Asc L) {e : Ev} : evAt k L = some e ↔ e ∈ L ∧ key e = k := by
  constructor
  · intro h
    exact ⟨List.mem_of_find?_eq_some h, by simpa using List.find?_some h⟩
  · rintro ⟨h1, rfl⟩
    cases hf : evAt (key e) L with
    | none => exact absurd (decide_eq_true rfl) (List.find?_eq_none.1 hf e h1)
    | some x =>
      have h2 := List.mem_of_find?_eq_some hf
      have h3 : key x = key e := by simpa using List.find?_some hf
      rw [key_one ha h2 h1 h3]
theorem at_none {k : List UInt8} {L : List Ev} : evAt k L = none ↔ hasK k L = false := by
  unfold evAt
  rw [List.find?_eq_none, hasK_false]
  simp
theorem at_found {k : List UInt8} {L : List Ev} (h : hasK k L = true) : evAt k L = some (foundE k L) := by
  unfold foundE
  change _ = some ((evAt k L).getD zV.e)
  cases hf : evAt k L with
  | none => rw [at_none] at hf; rw [hf] at h; cases h
  | some x => rfl
theorem at_ext {a b : List Ev} (ha : Asc a) (hb : Asc b) (h : ∀ k, evAt k a = evAt k b) : a = b := by
  refine asc_ext ha hb fun x => ?_
  constructor
  · intro hx
    have := (at_mem ha).2 ⟨hx, rfl⟩
    rw [h] at this
    exact ((at_mem hb).1 this).1
  · intro hx
    have := (at_mem hb).2 ⟨hx, rfl⟩
    rw [← h] at this
    exact ((at_mem ha).1 this).1
theorem at_with {k : List UInt8} {L : List Ev} (ha : Asc L) (e : Ev) : evAt k (withE e L) = if k = key e then some e else evAt k L := by
  refine Option.ext fun x => ?_
  rw [at_mem (asc_withE ha), mem_withE]
  split
  · rename_i hk
    subst hk
    constructor
    · rintro ⟨h | ⟨_, h⟩, h2⟩
      · rw [h]
      · exact absurd h2 h
    · intro h; cases h; exact ⟨.inl rfl, rfl⟩
  · rename_i hk
    rw [at_mem ha]
    constructor
    · rintro ⟨h | ⟨h, _⟩, h2⟩
      · exact absurd (by rw [← h2, h]) hk
      · exact ⟨h, h2⟩
    · rintro ⟨h, h2⟩; exact ⟨.inr ⟨h, fun e => hk (by rw [← h2, e])⟩, h2⟩
noncomputable instance decMem (f : ByteArray) (l : List ByteArray) : Decidable (f ∈ l) := Classical.propDecidable _
structure Chg where
  (id fi old new : ByteArray)
abbrev Chg.k (c : Chg) : List UInt8 := c.id.data.toList
def allB : ByteArray := ⟨#[97, 108, 108]⟩
def nilB : ByteArray := ⟨#[]⟩
noncomputable def chK (c : Chg) (L : List Ev) : Nat :=
  if c.fi = allB then
    (if decide (c.old = nilB) = decide (c.new = nilB) then 3
     else if c.new = nilB then (if hasK c.k L = false then 5 else if mk (textE (foundE c.k L)) ≠ c.old then 9 else 0)
     else if hasK c.k L = true then 6 else if readC c.new ≠ 0 then readC c.new else if (readE c.new).id ≠ c.id then 4 else putK (readE c.new) L)
  else if c.fi ∉ fieldL then 4
  else if hasK c.k L = false then 5
  else if getL (foundE c.k L) c.fi ≠ c.old then 9
  else if setC (foundE c.k L) c.fi c.new ≠ 0 then setC (foundE c.k L) c.fi c.new
  else putK (setE (foundE c.k L) c.fi c.new) L
noncomputable def chL (c : Chg) (L : List Ev) : List Ev :=
  if chK c L ≠ 0 then L else if c.fi = allB then (if c.new = nilB then without c.k L else withE (readE c.new) L) else withE (setE (foundE c.k L) c.fi c.new) L
noncomputable def apL : Nat → List Ev → List Chg → Nat × Nat × List Ev
  | i, L, [] => (0, i, L)
  | i, L, c :: t => if chK c L ≠ 0 then (chK c L, i, L) else apL (i + 1) (chL c L) t
theorem putK_zero {e : Ev} {L : List Ev} (h : putK e L = 0) : badE e = 0 ∧ (hasK (key e) L = true ∨ L.length < 60) := by
  unfold putK at h
  split at h
  · rename_i hb; exact absurd h hb
  · rename_i hb
    refine ⟨by simpa using hb, ?_⟩
    split at h
    · cases h
    · rename_i hf
      cases hh : hasK (key e) L with
      | true => exact .inl rfl
      | false => exact .inr (by rw [hh] at hf; simpa using hf)
structure Good (L : List Ev) : Prop where
  asc : Asc L
  good : ∀ e ∈ L, badE e = 0
  few : L.length ≤ 60
theorem Good.without {L : List Ev} (h : Good L) (k : List UInt8) : Good (without k L) :=
  ⟨asc_without h.asc k, fun e he => h.good e (mem_without.1 he).1, Nat.le_trans (length_without_le k L) h.few⟩
theorem Good.with {L : List Ev} (h : Good L) {e : Ev} (hp : putK e L = 0) : Good (withE e L) := by
  obtain ⟨h1, h2⟩ := putK_zero hp
  refine ⟨asc_withE h.asc, fun x hx => ?_, ?_⟩
  · rcases mem_withE.1 hx with rfl | ⟨hx, _⟩
    · exact h1
    · exact h.good x hx
  · have := h.few
    rw [length_withE h.asc]
    split
    · exact this
    · rename_i hn
      rcases h2 with h2 | h2
      · exact absurd h2 hn
      · omega
def Chg.back (c : Chg) : Chg := ⟨c.id, c.fi, c.new, c.old⟩
end Df
end Go.Proofs.YtghkalamlcfnnaaGreatDoor
end
section
namespace Go.Proofs.YtghkalamlcfnnaaGreatDoor
open Go Go.ChangeShapes Go.WideShapes Go.RowKit Go.Deep Lmd
attribute [local go_sem] Oper.semAt_some
namespace Df
open Evt Bk
def zC : Chg := ⟨⟨#[]⟩, ⟨#[]⟩, ⟨#[]⟩, ⟨#[]⟩⟩
def elc (xs : List Chg) (i : Nat) : Chg := xs[i]?.getD zC
abbrev Chg.cells (c : Chg) : Array Value := #[.string c.id, .string c.fi, .string c.old, .string c.new]
abbrev Chg.cs (c : Chg) : List Value := [.string c.id, .string c.fi, .string c.old, .string c.new]
structure At4 (W : World) (b o : Nat) (c : Chg) : Prop where
  k0 : W.cell? ⟨b, o, none⟩ = some (.string c.id)
  k1 : W.cell? ⟨b, o + 1, none⟩ = some (.string c.fi)
  k2 : W.cell? ⟨b, o + 2, none⟩ = some (.string c.old)
  k3 : W.cell? ⟨b, o + 3, none⟩ = some (.string c.new)
theorem At4.of {w : World} {b o : Nat} {c : Chg} (h : At4 w b o c) : ∀ i u, c.cs[i]? = some u → w.cell? ⟨b, o + i, none⟩ = some u := by
  intro i u hu
  match i, hu with
  | 0, hu => cases hu; exact h.k0
  | 1, hu => cases hu; exact h.k1
  | 2, hu => cases hu; exact h.k2
  | 3, hu => cases hu; exact h.k3
  | i + 4, hu => cases hu
def CReads (W : World) (v : Value) (xs : List Chg) : Prop :=
  (xs = [] ∧ ∃ a c, v = .slice a 0 c ∧ (a = none → c = 0)) ∨ ∃ b off c, v = .slice (some ⟨b, off, none⟩) xs.length c ∧ ∀ j, j < xs.length → At4 W b (off + j * 4) (elc xs j)
theorem CReads.at {w : World} {a : Option Addr} {n cap : Nat} {xs : List Chg} (h : CReads w (.slice a n cap) xs) (hx : xs ≠ []) :
    n = xs.length ∧ ∃ b off, a = some ⟨b, off, none⟩ ∧ ∀ j, j < xs.length → At4 w b (off + j * 4) (elc xs j) := by
  rcases h with ⟨rfl, _⟩ | ⟨b, off, cap', e, hc⟩
  · exact absurd rfl hx
  · cases e; exact ⟨rfl, b, off, rfl, hc⟩
end Df
end Go.Proofs.YtghkalamlcfnnaaGreatDoor
end
section
namespace Lmd.Cps
open Go Go.Lib
theorem get_snoc {d : List (List UInt8)} {m : Nat} (h : m < d.length) : d.take (m + 1) = d.take m ++ [d[m]] := by
  rw [List.take_add_one, List.getElem?_eq_getElem h]; rfl
theorem compact_upto {d : List (List UInt8)} (h : d.Pairwise (· ≤ ·)) : ∀ m, m ≤ d.length → (compactUpTo d.toArray m).Pairwise (· < ·) ∧ (∀ x, x ∈ compactUpTo d.toArray m ↔ x ∈ d.take m)
  | 0, _ => by simp [compactUpTo]
  | m + 1, hm => by
    obtain ⟨h1, h2⟩ := compact_upto h m (by omega)
    have hlt : m < d.length := by omega
    rw [compactUpTo_succ, get_snoc hlt]
    have hg : d.toArray[m]! = d[m] := by simp [getElem!_pos, hlt]
    by_cases h0 : m = 0
    · subst h0
      have hk : keeps d.toArray 0 = true := by simp [keeps]
      rw [hk, hg]
      simp [compactUpTo]
    · have hl2 : m - 1 < d.length := by omega
      have hg2 : d.toArray[m - 1]! = d[m - 1] := by simp [getElem!_pos, hl2]
      have hle : ∀ x ∈ d.take m, x ≤ d[m - 1] := by
        intro x hx
        obtain ⟨i, hi, rfl⟩ := List.getElem_of_mem hx
        rw [List.length_take] at hi
        rw [List.getElem_take]
        by_cases e : i = m - 1
        · subst e; exact List.le_refl _
        · exact List.pairwise_iff_getElem.1 h i (m - 1) (by omega) hl2 (by omega)
      have hmm : d[m - 1] ≤ d[m] := List.pairwise_iff_getElem.1 h (m - 1) m hl2 hlt (by omega)
      by_cases e : d[m] = d[m - 1]
      · have hk : keeps d.toArray m = false := keeps_neg (by omega) (by rw [hg, hg2]; exact e)
        rw [hk]
        simp only [Bool.false_eq_true, if_false, List.append_nil]
        refine ⟨h1, fun x => ?_⟩
        rw [h2 x, List.mem_append, List.mem_singleton]
        constructor
        · exact .inl
        · rintro (hx | rfl)
          · exact hx
          · rw [e]
            have : (d.take m)[m - 1]'(by rw [List.length_take]; omega) = d[m - 1] := List.getElem_take
            rw [← this]; exact List.getElem_mem _
      · have hk : keeps d.toArray m = true := keeps_pos (by rw [hg, hg2]; exact e)
        rw [hk, hg]
        simp only [if_true]
        refine ⟨?_, fun x => ?_⟩
        · rw [List.pairwise_append]
          refine ⟨h1, by simp, fun a ha b hb => ?_⟩
          simp at hb; subst hb
          have h3 := hle a ((h2 a).1 ha)
          have h4 := List.le_trans h3 hmm
          by_cases h5 : a < d[m]
          · exact h5
          · exfalso
            have h6 : a = d[m] := List.le_antisymm h4 (List.not_lt.1 h5)
            rw [h6] at h3
            exact e (List.le_antisymm h3 hmm)
        · rw [List.mem_append, List.mem_append, h2 x]
theorem compact_rise {d : List (List UInt8)} (h : d.Pairwise (· ≤ ·)) : (compact d).Pairwise (· < ·) ∧ ∀ x, x ∈ compact d ↔ x ∈ d := by
  have := compact_upto h d.length (Nat.le_refl _)
  rw [List.take_length] at this
  exact this
theorem sort_rise (l : List (List UInt8)) : (l.mergeSort fun x y => decide (x ≤ y)).Pairwise (· ≤ ·) := by
  have := List.pairwise_mergeSort (le := fun x y : List UInt8 => decide (x ≤ y)) (fun a b c h1 h2 => decide_eq_true (List.le_trans (of_decide_eq_true h1) (of_decide_eq_true h2))) (fun a b => by rw [Bool.or_eq_true, decide_eq_true_eq, decide_eq_true_eq]; exact List.le_total a b) l
  exact this.imp (fun h => of_decide_eq_true h)
theorem sort_mem (l : List (List UInt8)) (x : List UInt8) : x ∈ (l.mergeSort fun x y => decide (x ≤ y)) ↔ x ∈ l := (List.mergeSort_perm l _).mem_iff
def uniq (l : List (List UInt8)) : List (List UInt8) := compact (l.mergeSort fun x y => decide (x ≤ y))
theorem uniq_rise (l : List (List UInt8)) : (uniq l).Pairwise (· < ·) := (compact_rise (sort_rise l)).1
theorem uniq_mem (l : List (List UInt8)) (x : List UInt8) : x ∈ uniq l ↔ x ∈ l := ((compact_rise (sort_rise l)).2 x).trans (sort_mem l x)
end Lmd.Cps
namespace Go.Proofs.YtghkalamlcfnnaaGreatDoor
open Go Go.RowKit Go.Shelf Lmd
open Go.Proofs (encStr)
namespace Txs
open Rul Day Cand Evt
def els (xs : List (List UInt8)) (j : Nat) : List UInt8 := xs[j]?.getD []
theorem els_lt {xs : List (List UInt8)} {i : Nat} (h : i < xs.length) : els xs i = xs[i] := by simp [els, h]
theorem arr_els (xs : List (List UInt8)) (j : Nat) : (xs.toArray)[j]! = els xs j := by
  unfold els
  rw [Array.getElem!_eq_getD, Array.getD_eq_getD_getElem?]
  simp
  rfl
def RowS (w : World) (v : Value) (xs : List (List UInt8)) : Prop :=
  (xs = [] ∧ v = .slice none 0 0) ∨ ∃ g off cap t cur, v = .slice (some ⟨g, off, none⟩) xs.length cap ∧ xs.length ≤ cap ∧ w.heap[g]? = some (.cells cur t (0, 0)) ∧ Sort.Holds encStr w g off xs.toArray
theorem rowS_own {w : World} {base : Nat} {v : Value} {xs : List (List UInt8)} (h : w.ownsRow base 9 1 v xs.length (xs.map encStr)) : RowS w v xs := by
  rcases h.2 with ⟨rfl, h0⟩ | ⟨g, cap, cur, rfl, hb, hh, h1, h2, h3, ht⟩
  · exact .inl ⟨List.length_eq_zero_iff.1 h0, rfl⟩
  · refine .inr ⟨g, 0, cap, _, cur, rfl, h1, hh, fun j hj => ?_⟩
    have hj' : j < xs.length := by simpa using hj
    have hc : (xs.map encStr)[j]? = some (encStr (els xs j)) := by rw [List.getElem?_map, List.getElem?_eq_getElem hj', els_lt hj']; rfl
    rw [← ht, Nat.mul_one, List.getElem?_take_of_lt hj'] at hc
    refine ⟨?_, ?_⟩
    · rw [arr_els]
      simp only [World.cell?, hh, Nat.zero_add]
      simpa using hc
    · simp [World.frozen?, hh]
theorem RowS.cells {w : World} {v : Value} {xs : List (List UInt8)} (h : RowS w v xs) : (xs = [] ∧ v = .slice none 0 0) ∨ ∃ g off cap, v = .slice (some ⟨g, off, none⟩) xs.length cap ∧ ∀ j, j < xs.length → w.cell? ⟨g, off + j, none⟩ = some (.string (mk (els xs j))) := by
  rcases h with h | ⟨g, off, cap, t, cur, rfl, h1, hh, hH⟩
  · exact .inl h
  · refine .inr ⟨g, off, cap, rfl, fun j hj => ?_⟩
    have := (hH j (by simpa using hj)).1
    rwa [arr_els] at this
theorem RowS.shape {w : World} {v : Value} {xs : List (List UInt8)} (h : RowS w v xs) : ∃ a c, v = .slice a xs.length c := by
  rcases h with ⟨rfl, rfl⟩ | ⟨g, off, cap, t, cur, rfl, _⟩
  · exact ⟨_, _, rfl⟩
  · exact ⟨_, _, rfl⟩
theorem put_size (enc : List UInt8 → Value) (w : World) (g off : Nat) (d : Array (List UInt8)) : (Sort.putRow enc w g off d).heap.size = w.heap.size := by
  simp [Sort.putRow, Sort.mapBlock]
theorem put_other (enc : List UInt8 → Value) (w : World) (g off : Nat) (d : Array (List UInt8)) {k : Nat} (h : k ≠ g) : (Sort.putRow enc w g off d).heap[k]? = w.heap[k]? := by
  simp only [Sort.putRow, Sort.mapBlock, Array.getElem?_modify]
  rw [if_neg (Ne.symm h)]
theorem put_at (enc : List UInt8 → Value) (w : World) (g off : Nat) (d : Array (List UInt8)) {cur : Array Value} {t : TypeId} {fr : Nat × Nat} (h : w.heap[g]? = some (.cells cur t fr)) : (Sort.putRow enc w g off d).heap[g]? = some (.cells (Sort.putCells enc off d cur) t fr) := by
  simp only [Sort.putRow, Sort.mapBlock, Array.getElem?_modify, h, if_true, Option.map_some]
  rfl
theorem grown_put (enc : List UInt8 → Value) (w : World) (n g off : Nat) (d : Array (List UInt8)) (os : Array Obj) : w.grownBy (Sort.grow (Sort.putRow enc (Sort.ahead w n) g off d) os) (some g) := by
  refine ⟨rfl, rfl, rfl, ?_, fun k hk hne => ?_⟩
  · show w.heap.size ≤ ((Sort.putRow enc (Sort.ahead w n) g off d).heap ++ os).size
    rw [Array.size_append, put_size]; exact Nat.le_add_right _ _
  · have hk2 : k < (Sort.putRow enc (Sort.ahead w n) g off d).heap.size := by rw [put_size]; exact hk
    rw [grow_old hk2, put_other enc _ g off d (fun e => hne (by rw [e]))]
    rfl
theorem holds_grow {enc : List UInt8 → Value} {w : World} {g off : Nat} {d : Array (List UInt8)} {os : Array Obj} (hg : g < w.heap.size) (h : Sort.Holds enc w g off d) : Sort.Holds enc (Sort.grow w os) g off d := fun j hj => by
  have := h j hj
  simp only [World.cell?, World.frozen?] at this ⊢
  rw [grow_old hg]; exact this
theorem sort_len (xs : List (List UInt8)) : (xs.mergeSort fun x y => decide (x ≤ y)).length = xs.length := List.length_mergeSort xs
theorem sort_any (v : Value) (xs : List (List UInt8)) (w : World) (h : RowS w v xs) (hl : xs.length ≤ 3000000) :
    Calls Tryz.prog 38 #[v] w fun e w' => e = .returned (.tuple #[]) ∧ RowS w' v (xs.mergeSort fun x y => decide (x ≤ y)) ∧ w.grownBy w' v.ownBlock := by
  rcases h with ⟨rfl, rfl⟩ | ⟨g, off, cap, t, cur, rfl, h1, hh, hH⟩
  · exact (AnyM.slices_Sort_string_none Tryz.sortSm none 0 w).mono fun _ _ ⟨h1, h2⟩ => ⟨h1, .inl ⟨by simp, rfl⟩, by rw [h2]; exact World.grownBy.refl _ _⟩
  · have hg := row_lt hh
    refine (AnyM.slices_Sort_string Tryz.sortSm g off cap xs w hH hg (by omega)).mono fun _ _ ⟨h2, n, os, h3⟩ => ⟨h2, .inr ⟨g, off, cap, t, Sort.putCells encStr off (xs.mergeSort fun x y => decide (x ≤ y)).toArray cur, by rw [sort_len], by rw [sort_len]; exact h1, ?_, ?_⟩, by rw [h3]; exact grown_put _ _ _ _ _ _ _⟩
    · rw [h3, grow_old (by rw [put_size]; exact hg)]
      exact put_at _ _ _ _ _ hh
    · rw [h3]
      refine holds_grow (by rw [put_size]; exact hg) ?_
      exact Sort.holds_putRow _ (Sort.ahead w n) g off xs.toArray _ hH (by simp)
theorem compact_len (xs : List (List UInt8)) : (Lib.compact xs).length ≤ xs.length := by
  unfold Lib.compact Lib.compactUpTo
  rw [List.length_map]
  exact Nat.le_trans (List.length_filter_le _ _) (by simp)
theorem compact_any (v : Value) (xs : List (List UInt8)) (w : World) (h : RowS w v xs) (hl : xs.length ≤ 3000000) :
    Calls Tryz.prog 39 #[v] w fun e w' => ∃ v', e = .returned v' ∧ RowS w' v' (Lib.compact xs) ∧ v'.ownBlock = v.ownBlock ∧ w.grownBy w' v.ownBlock := by
  rcases h with ⟨rfl, rfl⟩ | ⟨g, off, cap, t, cur, rfl, h1, hh, hH⟩
  · exact (Tryz.slices_Compact_string_empty none 0 w).mono fun _ _ ⟨h1, h2⟩ => ⟨_, h1, .inl ⟨rfl, rfl⟩, rfl, by rw [h2]; exact World.grownBy.refl _ _⟩
  · have hg := row_lt hh
    have hcl := compact_len xs
    refine (Tryz.slices_Compact_string g off cap xs w hH (by omega) h1).mono fun _ _ ⟨h2, q, h3⟩ => ⟨_, h2, .inr ⟨g, off, cap, t, Sort.putCells encStr off (Lib.compact xs ++ List.replicate (xs.length - (Lib.compact xs).length) []).toArray cur, rfl, by omega, ?_, ?_⟩, rfl, ?_⟩
    · rw [h3]; exact put_at _ _ _ _ _ hh
    · rw [h3]
      have := Sort.holds_putRow encStr (Sort.ahead w q) g off xs.toArray (Lib.compact xs ++ List.replicate (xs.length - (Lib.compact xs).length) []).toArray hH (by simp; omega)
      intro j hj
      have hj' : j < (Lib.compact xs).length := by simpa using hj
      have h4 := this j (by simp; omega)
      rw [arr_els] at h4 ⊢
      have e : els (Lib.compact xs ++ List.replicate (xs.length - (Lib.compact xs).length) []) j = els (Lib.compact xs) j := by
        unfold els
        rw [List.getElem?_append_left hj']
      rw [e] at h4
      exact h4
    · rw [h3]
      have := grown_put encStr w q g off (Lib.compact xs ++ List.replicate (xs.length - (Lib.compact xs).length) []).toArray #[]
      rw [grow_nil] at this
      exact this
def kids (L : List Ev) : List (List UInt8) := L.map Bk.key
theorem cells_kids (L : List Ev) : cellsS (Bk.idsB L) = (kids L).map encStr := by simp [cellsS, Bk.idsB, kids, encStr, Bk.key]
theorem uniq_nodup (l : List (List UInt8)) : (Lmd.Cps.uniq l).Nodup := (Lmd.Cps.uniq_rise l).imp fun {a b} (h : a < b) (e : a = b) => List.lt_irrefl b (by rw [e] at h; exact h)
end Txs
end Go.Proofs.YtghkalamlcfnnaaGreatDoor
end
