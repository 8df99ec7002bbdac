/- The document's calendars: Find, Without, With, Put. -/
import Derived.Test.YtghkalamlcfnnaaGreatDoorQA6
import Derived.Test.YtghkalamlcfnnaaGreatDoorQA12
import Derived.Deep.RegionLaw
namespace Go.Proofs.YtghkalamlcfnnaaGreatDoor
open Go Go.RowKit Go.Shelf Lmd
attribute [local go_sem] Oper.semAt_some
namespace Bk
open Evt Tp Rul Day Cand Er

abbrev B2 := 27
theorem cell1r {w : World} {b : Nat} {v : Value} {t : TypeId} (h : w.heap[b]? = some (.cells #[v] t (0, 0))) : w.cell? ⟨b, 0, none⟩ = some v ∧ w.frozen? ⟨b, 0, none⟩ = false := by simp [World.cell?, World.frozen?, h]
abbrev keyV (x : EvV) : List UInt8 := key x.e
/-- where an event is found -/
def FoundAt (xs : List EvV) (k : List UInt8) (n : Int) : Prop := (n = -1 ∧ ∀ j, j < xs.length → keyV (el xs j) ≠ k) ∨ ∃ j : Nat, j < xs.length ∧ n = (j : Int) ∧ keyV (el xs j) = k
theorem mem_elV {xs : List EvV} {x : EvV} : x ∈ xs ↔ ∃ i, i < xs.length ∧ el xs i = x := by
  rw [List.mem_iff_getElem]
  constructor
  · rintro ⟨i, h, e⟩; exact ⟨i, h, by rw [el_lt h]; exact e⟩
  · rintro ⟨i, h, e⟩; exact ⟨i, h, by rw [← el_lt h]; exact e⟩
theorem FoundAt.has {xs : List EvV} {k : List UInt8} {n : Int} (h : FoundAt xs k n) : hasK k (xs.map (·.e)) = decide (0 ≤ n) := by
  rcases h with ⟨rfl, h⟩ | ⟨j, hj, rfl, h⟩
  · rw [decide_eq_false (by omega), hasK_false]
    intro e he
    obtain ⟨x, hx, rfl⟩ := List.mem_map.1 he
    obtain ⟨i, hi, rfl⟩ := mem_elV.1 hx
    exact h i hi
  · rw [decide_eq_true (by omega), hasK_iff]
    exact ⟨_, List.mem_map.2 ⟨_, el_mem hj, rfl⟩, h⟩
theorem el_take_succ {xs : List EvV} {k : Nat} (h : k < xs.length) : xs.take (k + 1) = xs.take k ++ [el xs k] := by
  rw [List.take_succ_eq_append_getElem h, el_lt h]

theorem own_set11 {w : World} {base n p : Nat} {v u : Value} {xs : List Value} (h : w.ownsRow base 40 11 v n xs) (hp : p < base) : (w.setCell ⟨p, 0, none⟩ u).ownsRow base 40 11 v n xs := by
  rcases h with ⟨h1, h2 | ⟨g, cap, cur, rfl, h3, h4, h5⟩⟩
  · exact ⟨h1, .inl h2⟩
  · exact ⟨h1, .inr ⟨g, cap, cur, rfl, h3, by rw [row_far (by show g ≠ p; omega)]; exact h4, h5⟩⟩
/-- a box that holds events of one's own -/
structure Lay (w wr : World) (p : Nat) (ys : List EvV) (a : Option Addr) (c : Nat) : Prop where
  low : Below p w wr
  box : wr.heap[p]? = some (.cells #[.slice a ys.length c] 27)
  own : wr.ownsRow (p + 1) 40 11 (.slice a ys.length c) ys.length (cellsV ys)
theorem Lay.lt {w wr : World} {p : Nat} {ys : List EvV} {a : Option Addr} {c : Nat} (h : Lay w wr p ys a c) : p + 1 ≤ wr.heap.size := (Array.getElem?_eq_some_iff.1 h.box).1
theorem Lay.start {w : World} {p : Nat} (h : w.heap[p]? = some (.cells #[.slice none 0 0] 27)) : Lay w w p [] none 0 := ⟨Below.refl _ _, h, ⟨rfl, .inl ⟨rfl, rfl⟩⟩⟩
theorem Lay.below {w wr wb : World} {p : Nat} {ys : List EvV} {a : Option Addr} {c : Nat} (h : Lay w wr p ys a c) (hb : Below wr.heap.size wr wb) : Lay w wb p ys a c :=
  ⟨h.low.trans (hb.mono (by have := h.lt; omega)), row_below h.box hb, Evt.own_below h.own hb⟩
theorem Lay.step {w wr wb : World} {p : Nat} {ys : List EvV} {x : EvV} {a a2 : Option Addr} {c c2 : Nat} (h : Lay w wr p ys a c) (hb : Below (p + 1) wr wb)
    (hown : wb.ownsRow (p + 1) 40 11 (.slice a2 (ys.length + 1) c2) (ys ++ [x]).length (cellsV (ys ++ [x]))) : Lay w (wb.setCell ⟨p, 0, none⟩ (.slice a2 (ys.length + 1) c2)) p (ys ++ [x]) a2 c2 := by
  have hl : (ys ++ [x]).length = ys.length + 1 := by simp
  have hrow : wb.heap[p]? = some (.cells #[.slice a ys.length c] 27) := by rw [hb.block _ (Nat.lt_succ_self p)]; exact h.box
  refine ⟨(h.low.trans (hb.mono (Nat.le_succ p))).setCell (p := ⟨p, 0, none⟩) (Nat.le_refl _) _, ?_, ?_⟩
  · rw [row_set hrow 0 _, hl]; rfl
  · rw [hl] at hown ⊢
    exact own_set11 hown (Nat.lt_succ_self p)
theorem EReads.rv {w : World} {v : Value} {xs : List EvV} (h : EReads w v xs) : ∀ x ∈ xs, x.rv w := by
  intro x hx
  obtain ⟨i, hi, rfl⟩ := mem_elV.1 hx
  rcases h with ⟨rfl, _⟩ | ⟨b, off, c, rfl, hc⟩
  · exact absurd hi (Nat.not_lt_zero _)
  · exact (hc i hi).2

end Bk
end Go.Proofs.YtghkalamlcfnnaaGreatDoor
