/- strings.Builder: a text is written, and is read. -/
import Derived.Test.YtmlndamkcipebaaDoorShelf
import Derived.Test.YtmlndamkcipebaaDoorGen
namespace Go.Proofs.YtmlndamkcipebaaDoor
open Go Go.RowKit Go.Shelf Lmd
namespace Bd

/-- a builder that holds bytes -/
abbrev Is (B b : Nat) (l : List UInt8) (w : World) : Prop := Lib.IsBuilder 98 5 B b (Lib.byteCells l) w
theorem write_any (B b : Nat) (l : List UInt8) (s : ByteArray) (w : World) (h : Is B b l w) (hl : l.length + s.size ≤ 1000000000) (hB : B ≤ w.heap.size) :
    Calls Tryd.prog 56 #[.pointer (some ⟨b, 0, none⟩), .string s] w fun e w' => e = .returned (.tuple #[.int .i64 s.size, .nilIface]) ∧ Is B b (l ++ s.data.toList) w' ∧ Below B w w' := by
  refine (Any.Builder_WriteString { Tryd.lays156 with } Tryd.Builder_Extra_156 B b (Lib.byteCells l) s w h (by rw [Lib.byteCells_length]; omega) hB).mono ?_
  rintro e w' ⟨rfl, h1, h2⟩
  refine ⟨rfl, ?_, h2⟩
  have e : Lib.byteCells (l ++ s.data.toList) = Lib.byteCells l ++ Lib.strCells s := by rw [Lib.byteCells_append]; rfl
  unfold Is
  rw [e]
  exact .inr h1
theorem len_any (B b : Nat) (l : List UInt8) (w : World) (h : Is B b l w) :
    Calls Tryd.prog 55 #[.pointer (some ⟨b, 0, none⟩)] w fun e w' => e = .returned (.int .i64 (l.length : Int)) ∧ w' = w := by
  have h1 := Tryd.Builder_Len B b (Lib.byteCells l) w h
  rw [Lib.byteCells_length] at h1
  exact h1
theorem string_any (B b : Nat) (l : List UInt8) (w : World) (h : Is B b l w) (hB : B ≤ w.heap.size) :
    Calls Tryd.prog 57 #[.pointer (some ⟨b, 0, none⟩)] w fun e w' => e = .returned (.string ⟨l.toArray⟩) ∧ Below B w w' :=
  Tryd.Builder_String_any B b l w h hB
theorem new_is (w : World) : Is w.heap.size w.heap.size [] (w.alloc (.cells #[.pointer none, .slice none 0 0] 98)) := by
  refine .inl ⟨Nat.le_refl _, .slice none 0 0, Rul.heap_new w _, ⟨rfl, .inl ⟨rfl, rfl⟩⟩, by simp [Value.ownBlock]⟩
theorem Is.below {B b : Nat} {l : List UInt8} {w w' : World} (h : Is B b l w) (hb : Below w.heap.size w w') : Is B b l w' := by
  have hk : ∀ p, Lib.BuilderAt 98 5 B b p (Lib.byteCells l) w → Lib.BuilderAt 98 5 B b p (Lib.byteCells l) w' := by
    rintro p ⟨h1, v, h2, h3, h4⟩
    refine ⟨h1, v, by rw [hb.block b (Array.getElem?_eq_some_iff.1 h2).1]; exact h2, ?_, h4⟩
    refine h3.kept (row := none) ⟨hb.os, hb.tape, hb.output, hb.size, fun k hk _ => hb.block k hk⟩ ?_
    cases hv : v.ownBlock with
    | none => exact .inl rfl
    | some k => exact .inr (by simp)
  rcases h with h | h
  · exact .inl (hk _ h)
  · exact .inr (hk _ h)
theorem Is.lt {B b : Nat} {l : List UInt8} {w : World} (h : Is B b l w) : b < w.heap.size := by
  rcases h with ⟨_, v, h2, _⟩ | ⟨_, v, h2, _⟩ <;> exact (Array.getElem?_eq_some_iff.1 h2).1
end Bd
end Go.Proofs.YtmlndamkcipebaaDoor
