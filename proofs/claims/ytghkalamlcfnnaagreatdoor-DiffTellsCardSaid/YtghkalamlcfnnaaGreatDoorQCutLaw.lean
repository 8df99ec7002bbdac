/- A text cut at a byte: plain laws. -/
import Derived.Test.YtghkalamlcfnnaaGreatDoorQNumPlain
import Derived.Lib.IndexMore
import Derived.Test.YtghkalamlcfnnaaGreatDoorQA6
namespace Go.Proofs.YtghkalamlcfnnaaGreatDoor
open Go Go.RowKit Go.Shelf Lmd
namespace Tp
open Rul
theorem cut_miss {c : UInt8} {l : List UInt8} (h : c ∉ l) : Lib.cut l [c] = (l, [], false) := by
  have hx : Lib.index l [c] = -1 := (Lib.index_one l c).trans (ix_none h)
  simp [Lib.cut, hx]
theorem cut_hit {c : UInt8} {a r : List UInt8} (h : c ∉ a) : Lib.cut (a ++ c :: r) [c] = (a, r, true) := by
  have hx : Lib.index (a ++ c :: r) [c] = (a.length : Int) := (Lib.index_one _ c).trans (ix_some h)
  simp [Lib.cut, hx]
theorem split_at {c : UInt8} : ∀ {l : List UInt8}, c ∈ l → ∃ a r, l = a ++ c :: r ∧ c ∉ a
  | b :: l, h => by
    by_cases hb : b = c
    · exact ⟨[], l, by rw [hb]; rfl, by simp⟩
    · have h1 : c ∈ l := by
        rcases List.mem_cons.1 h with e | e
        · exact absurd e.symm hb
        · exact e
      obtain ⟨a, r, e, h2⟩ := split_at h1
      exact ⟨b :: a, r, by rw [e]; rfl, by simp [h2, Ne.symm hb]⟩
def lenR (c : UInt8) (l : List UInt8) : List UInt8 := (Lib.cut l [c]).2.1
theorem num_of {l : List UInt8} (h : numOk l = true) : 0 ≤ numIs l ∧ numIs l < 1000000000 ∧ Lib.itoa (numIs l) = l := by
  unfold numOk numIs at *
  split at h
  · rename_i v hv
    simp only [Bool.and_eq_true, decide_eq_true_eq] at h
    obtain ⟨⟨h1, h2⟩, h3⟩ := h
    refine ⟨h2, ?_, h3⟩
    obtain ⟨u, rfl⟩ : ∃ u : Nat, v = (u : Int) := ⟨v.toNat, by omega⟩
    have h4 : (Lib.decDigits u).length ≤ 9 := by rw [← Lib.itoa_nonneg, h3]; exact h1
    have := dec_len_ge 9 u h4
    omega
  · cases h
end Tp
end Go.Proofs.YtghkalamlcfnnaaGreatDoor
