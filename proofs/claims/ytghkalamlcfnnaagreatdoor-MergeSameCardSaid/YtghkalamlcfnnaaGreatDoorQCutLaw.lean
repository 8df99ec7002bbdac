/- A text cut at a byte: plain laws. -/
import Derived.Test.YtghkalamlcfnnaaGreatDoorQNumPlain
import Derived.Lib.IndexMore
import Derived.Test.YtghkalamlcfnnaaGreatDoorQA6
namespace Go.Proofs.YtghkalamlcfnnaaGreatDoor
open Go Go.RowKit Go.Shelf Lmd
namespace Tp
open Rul
theorem cut_hit {c : UInt8} {a r : List UInt8} (h : c ∉ a) : Lib.cut (a ++ c :: r) [c] = (a, r, true) := by
  have hx : Lib.index (a ++ c :: r) [c] = (a.length : Int) := (Lib.index_one _ c).trans (ix_some h)
  simp [Lib.cut, hx]
theorem split_at {c : UInt8} : ∀ {l : List UInt8}, c ∈ l → ∃ a r, l = a ++ c :: r ∧ c ∉ a
  | b :: l, h => by
    by_cases hb : b = c
    · exact ⟨[], l, by rw [hb]; rfl, by simp⟩
    · have h1 : c ∈ l := by
        rcases List.mem_cons.1 h with e | e
        · exact absurd e.symm hb
        · exact e
      obtain ⟨a, r, e, h2⟩ := split_at h1
      exact ⟨b :: a, r, by rw [e]; rfl, by simp [h2, Ne.symm hb]⟩
end Tp
end Go.Proofs.YtghkalamlcfnnaaGreatDoor
