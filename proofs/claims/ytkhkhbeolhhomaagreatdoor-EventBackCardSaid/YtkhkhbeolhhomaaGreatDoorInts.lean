/- Slices of numbers that are only read; the reference's SameInts. -/
import Derived.Test.YtkhkhbeolhhomaaGreatDoorRows
import Derived.WalkKit
import Derived.WalkSpells
import Derived.WalkLawsBesides
import Derived.Lib.Hide
import Derived.Deep.QuietTactic
import Derived.BigQuiet
namespace Go.Proofs.YtkhkhbeolhhomaaGreatDoor
open Go.RowKit
namespace Ints

/-- an element, behind a name that the walk does not open -/
def el (xs : List Int) (i : Nat) : Int := xs[i]?.getD 0
theorem el_lt {xs : List Int} {i : Nat} (h : i < xs.length) : el xs i = xs[i] := by simp [el, h]
/-- a slice value that reads as a list of numbers -/
def Reads (w : World) (v : Value) (xs : List Int) : Prop :=
  (xs = [] ∧ ∃ a cap, v = .slice a 0 cap) ∨ ∃ b off cap, v = .slice (some ⟨b, off, none⟩) xs.length cap ∧ ∀ i, i < xs.length → w.cell? ⟨b, off + i, none⟩ = some (.int .i64 (el xs i))

theorem Reads.shape {w : World} {v : Value} {xs : List Int} (h : Reads w v xs) : ∃ a cap, v = .slice a xs.length cap := by
  rcases h with ⟨rfl, a, cap, rfl⟩ | ⟨b, off, cap, rfl, _⟩
  · exact ⟨a, cap, rfl⟩
  · exact ⟨_, cap, rfl⟩
theorem Reads.at {w : World} {a : Option Addr} {n cap : Nat} {xs : List Int} (h : Reads w (.slice a n cap) xs) (hx : xs ≠ []) : n = xs.length ∧ ∃ b off, a = some ⟨b, off, none⟩ ∧ ∀ i, i < xs.length → w.cell? ⟨b, off + i, none⟩ = some (.int .i64 (el xs i)) := by
  rcases h with ⟨rfl, _⟩ | ⟨b, off, cap', e, hc⟩
  · exact absurd rfl hx
  · cases e; exact ⟨rfl, b, off, rfl, hc⟩
theorem Reads.below {w w' : World} {v : Value} {xs : List Int} (h : Reads w v xs) (hb : Below w.heap.size w w') : Reads w' v xs := by
  rcases h with h | ⟨b, off, cap, rfl, hc⟩
  · exact Or.inl h
  · exact Or.inr ⟨b, off, cap, rfl, fun i hi => cell_later hb (hc i hi)⟩

theorem eq_of_getD : ∀ (xs ys : List Int), xs.length = ys.length → (∀ i, i < xs.length → el xs i = el ys i) → xs = ys
  | [], [], _, _ => rfl
  | [], _ :: _, h, _ => by cases h
  | _ :: _, [], h, _ => by cases h
  | x :: xs, y :: ys, h, hc => by
    have h0 := hc 0 (by simp)
    have ht := eq_of_getD xs ys (by simpa using h) (fun i hi => by have := hc (i + 1) (by simpa using hi); simpa [el] using this)
    simp [el] at h0
    rw [h0, ht]

theorem drewN_add (w : World) (a b : Nat) : (w.drewN a).drewN b = w.drewN (a + b) := by simp [World.drewN, Nat.add_assoc]
theorem ret_bool' {a b : Bool} (h : a = b) : Ending.returned (.bool a) = .returned (.bool b) := by rw [h]
end Ints
end Go.Proofs.YtkhkhbeolhhomaaGreatDoor
