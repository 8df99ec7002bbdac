/- A slice of texts as an argument, opened. -/
import Derived.Test.YtmlndamkcipebaaGreatDoorTexts
import Derived.SliceStrings
import Derived.DataShut
namespace Go.Proofs.YtmlndamkcipebaaGreatDoor
open Go Go.ChangeShapes Go.WideShapes Go.RowKit Lmd
namespace Tx
theorem rd_of {w : World} {a : Addr} {len cap : Nat} {ss : List ByteArray} (hl : len ≤ ss.length) (h : ∀ i, i < ss.length → w.cell? (a.add i) = some (.string (ss.getD i ByteArray.empty))) : Rd w (.slice (some a) len cap) (ss.take len) := by
  by_cases h0 : len = 0
  · subst h0
    exact .inl ⟨by simp, _, _, rfl⟩
  · have hlen : (ss.take len).length = len := by simp; omega
    obtain ⟨b, o, s⟩ := a
    have hs : s = none := by
      have := h 0 (by omega)
      unfold Addr.add World.cell? at this
      simp only [if_true] at this
      split at this
      · split at this
        · cases this
        · rename_i hh; simpa using hh
      · cases this
    subst hs
    refine .inr ⟨b, o, cap, by rw [hlen], fun i x hx => ?_⟩
    have hi : i < len := by have := (List.getElem?_eq_some_iff.1 hx).1; omega
    have := h i (by omega)
    have he : ss.getD i ByteArray.empty = x := by
      rw [List.getElem?_take_of_lt hi] at hx
      rw [List.getD_eq_getElem?_getD, hx]; rfl
    rw [he] at this
    unfold Addr.add at this
    split at this
    · rename_i hi0; subst hi0; simpa using this
    · exact this
set_option maxRecDepth 100000 in
theorem open_texts {H : Type} {enc : TypeId × Value → H} {W : World} {base : Nat} {v : Value} {d : DataW H} {p : List MemPlace} {r : Reach} {b0 : Nat}
    (hv : Value.okWide Tryz.prog W r b0 22 v) (h : DataW.Trod enc Tryz.prog W base (fun _ => true) true 22 v d p) :
    ∃ xs : List ByteArray, Rd W v xs ∧ xs.length ≤ 9223372036854775807 ∧ ∀ x ∈ xs, x.size ≤ 9223372036854775807 := by
  obtain ⟨a0, l0, c0, rfl⟩ := okWide_slice Tryz.underlying22 hv
  obtain ⟨fuel, hf⟩ := h
  have hm : maxLen ≤ 9223372036854775807 := Nat.le_refl _
  rcases open_strings Tryz.underlying22 Tryz.underlying9 (by kernel_rfl) hf with ⟨hcs, _⟩ | ⟨a, len, cap, ss, hcs, _, hl, hc, hz, _, hcell, hsz⟩
  · simp [Value.cells] at hcs
    obtain ⟨rfl, rfl, rfl⟩ := hcs
    exact ⟨[], .inl ⟨rfl, _, _, rfl⟩, by simp, by simp⟩
  · simp [Value.cells] at hcs
    obtain ⟨rfl, rfl, rfl⟩ := hcs
    simp only [if_true] at hz
    exact ⟨ss.take l0, rd_of (by omega) hcell, by simp; omega, fun x hx => Nat.le_trans (hsz x (List.mem_of_mem_take hx)) hm⟩
theorem wf_le {n : Int} (h : (Lit.int .i64 n).wf = true) : n ≤ 9223372036854775807 := ((Lit.wf_int_iff .i64 n).1 h).2
end Tx
end Go.Proofs.YtmlndamkcipebaaGreatDoor
