/- A pool and its model, side by side. -/
import Derived.Test.YtmlndamkcipebaaGreatDoorRefPool
namespace Go.Proofs.YtmlndamkcipebaaGreatDoor
open Go Go.RowKit Lmd
namespace Rp
open Rul Day Cand Tp Pl Pk

/-- texts put one behind the other -/
def putAll (L : List (List UInt8)) : List (List UInt8) := L.foldl putL []
theorem putAll_snoc (L : List (List UInt8)) (s : List UInt8) : putAll (L ++ [s]) = putL (putAll L) s := by simp [putAll, List.foldl_append]
theorem putL_sub {xs : List (List UInt8)} {s t : List UInt8} (h : t ∈ putL xs s) : t ∈ xs ∨ t = s := by
  unfold putL at h
  split at h
  · exact .inl h
  · split at h
    · exact .inl h
    · split at h
      · exact .inl h
      · simpa using h
theorem putL_le (xs : List (List UInt8)) (s : List UInt8) : (putL xs s).length ≤ xs.length + 1 := by
  unfold putL
  split
  · omega
  · split
    · omega
    · split
      · omega
      · simp
theorem fold_sub : ∀ (L xs : List (List UInt8)), (∀ t ∈ L.foldl putL xs, t ∈ xs ∨ t ∈ L) ∧ (L.foldl putL xs).length ≤ xs.length + L.length
  | [], xs => ⟨fun t h => .inl h, by simp⟩
  | s :: L, xs => by
    obtain ⟨h1, h2⟩ := fold_sub L (putL xs s)
    refine ⟨fun t ht => ?_, ?_⟩
    · rcases h1 t ht with h | h
      · rcases putL_sub h with h | h
        · exact .inl h
        · exact .inr (by rw [h]; simp)
      · exact .inr (by simp [h])
    · have := putL_le xs s
      rw [List.length_cons]
      simp only [List.foldl_cons]
      omega
theorem putAll_fit (L : List (List UInt8)) : (∀ t ∈ putAll L, t ∈ L) ∧ (putAll L).length ≤ L.length := by
  obtain ⟨h1, h2⟩ := fold_sub L []
  exact ⟨fun t ht => by rcases h1 t ht with h | h; · simp at h
                        · exact h, by simpa [putAll] using h2⟩
theorem Is.far {w w' : World} {base p m : Nat} {v : Value} {xs : List (List UInt8)} {S : Nat → Prop} (h : Pl.Is w base p v m xs) (hf : Far S w w') (h1 : ¬ S p) (h2 : ¬ S m) (h3 : ∀ g, v.ownBlock = some g → ¬ S g) : Pl.Is w' base p v m xs := by
  obtain ⟨D, ⟨es, clock, hb, hr⟩, hD⟩ := h.map
  refine ⟨?_, own_far2 h.own hf (fun g hg _ => h3 g hg), ⟨D, ⟨es, clock, ?_, hr⟩, hD⟩, h.ge, h.few, h.small, h.once⟩
  · rw [hf.block p (Array.getElem?_eq_some_iff.1 h.row).1 h1]; exact h.row
  · rw [hf.block m (Array.getElem?_eq_some_iff.1 hb).1 h2]; exact hb
theorem rows_ne {w : World} {p q : Nat} {c d : Array Value} {f g : Nat × Nat} (h1 : w.heap[p]? = some (.cells c 70 f)) (h2 : w.heap[q]? = some (.cells d 28 g)) : p ≠ q := by
  rintro rfl
  rw [h1] at h2
  have ht : 70 = 28 := by injection h2 with e1; injection e1
  revert ht; decide
/-- a pool and its model lie apart -/
def Apart (v v2 : Value) : Prop := ∀ g, v.ownBlock = some g → v2.ownBlock ≠ some g
/-- the state of the loop of poolOf -/
structure PoAt (L : List (List UInt8)) (w : World) (p m p2 k : Nat) (v v2 : Value) (W : World) : Prop where
  pl : Pl.Is W w.heap.size p v m (putAll (L.take k))
  rl : RIs W w.heap.size p2 v2 (putAll (L.take k))
  low : Below w.heap.size w W
  ap : Apart v v2
  le : k ≤ L.length
/-- what lies behind poolOf -/
def PoPost (L : List (List UInt8)) (w : World) (er : Ending) (w' : World) : Prop :=
  ∃ p v m p2 v2, er = .returned (.tuple #[.pointer (some ⟨p, 0, none⟩), .pointer (some ⟨p2, 0, none⟩)]) ∧ Pl.Is w' w.heap.size p v m (putAll L) ∧ RIs w' w.heap.size p2 v2 (putAll L) ∧ Below w.heap.size w w'
end Rp
end Go.Proofs.YtmlndamkcipebaaGreatDoor
