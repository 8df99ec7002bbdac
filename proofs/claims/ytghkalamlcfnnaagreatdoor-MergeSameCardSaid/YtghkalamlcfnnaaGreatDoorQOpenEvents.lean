/- A slice of events as an argument, opened. -/
import Derived.Test.YtghkalamlcfnnaaGreatDoorQA6
namespace Go.Proofs.YtghkalamlcfnnaaGreatDoor
open Go Go.ChangeShapes Go.WideShapes Go.RowKit Go.Deep Lmd
namespace Bk
open Evt
variable {H : Type} {enc : TypeId × Value → H} {W : World} {base : Nat}
set_option maxRecDepth 100000 in
theorem open_events {v : Value} {d : DataW H} {p : List MemPlace} {r : Reach} {b0 : Nat} (hv : Value.okWide Tryz.prog W r b0 22 v) (h : DataW.Trod enc Tryz.prog W base (fun _ => true) true 22 v d p) :
    ∃ xs : List EvV, EReads W v xs ∧ xs.length ≤ 9223372036854775807 ∧ ∀ x ∈ xs, Fin64 x.e := by
  obtain ⟨a0, l0, c0, rfl⟩ := okWide_slice Tryz.underlying22 hv
  obtain ⟨fuel, hf⟩ := h
  have hC : Tryz.prog.cellsOf 40 = 11 := by kernel_rfl
  have hm : maxLen ≤ 9223372036854775807 := Nat.le_refl _
  rcases open_slice Tryz.underlying22 hf with ⟨hcs, _⟩ | ⟨a, len, cap, m, n, D, Pl, hcs, _, hl, hc, hmm, _, hi⟩
  · simp [Value.cells] at hcs
    obtain ⟨rfl, rfl, rfl⟩ := hcs
    exact ⟨[], .inl ⟨rfl, _, _, rfl⟩, by simp, by simp⟩
  · simp [Value.cells] at hcs
    obtain ⟨rfl, rfl, rfl⟩ := hcs
    simp only [if_true] at hmm
    have hex : ∀ i, i < l0 → ∃ y : EvV, (∀ j u, y.cs[j]? = some u → W.cell? (a.add (i * 11 + j)) = some u) ∧ y.rv W ∧ Fin64 y.e := by
      intro i hil
      obtain ⟨cs', h1, h2⟩ := hi i (by omega)
      rw [hC] at h1
      obtain ⟨e, vd, vs, vm, rfl, hrv, hfn⟩ := trod_event h2
      obtain ⟨_, _, h3⟩ := World.cells?_some h1
      refine ⟨⟨e, vd, vs, vm⟩, fun j u hu => ?_, hrv, hfn⟩
      have hj : j < 11 := (List.getElem?_eq_some_iff.1 hu).1
      have := h3 j (by omega)
      rw [add_add] at this
      rw [this]; exact hu
    by_cases h0 : l0 = 0
    · subst h0
      exact ⟨[], .inl ⟨rfl, _, _, rfl⟩, by simp, by simp⟩
    · obtain ⟨b, o, sn⟩ := a
      have hs : sn = none := by
        obtain ⟨y, hy, _⟩ := hex 0 (by omega)
        have h1 := hy 0 _ rfl
        unfold Addr.add World.cell? at h1
        simp only [Nat.zero_mul, Nat.add_zero, if_true] at h1
        split at h1
        · split at h1
          · cases h1
          · rename_i hh; simpa using hh
        · cases h1
      subst hs
      simp only [Evt.add_plain] at hex
      have hch : ∃ f : Nat → EvV, ∀ i, i < l0 → (∀ j u, (f i).cs[j]? = some u → W.cell? ⟨b, o + (i * 11 + j), none⟩ = some u) ∧ (f i).rv W ∧ Fin64 (f i).e :=
        ⟨fun i => if h : i < l0 then Classical.choose (hex i h) else zV, fun i h => by
          simp only [dif_pos h]; exact Classical.choose_spec (hex i h)⟩
      obtain ⟨f, hf'⟩ := hch
      have hel : ∀ j, j < l0 → el ((List.range l0).map f) j = f j := fun j hj => by
        rw [el_lt (by simpa using hj)]; simp
      refine ⟨(List.range l0).map f, .inr ⟨b, o, c0, by simp, fun j hj => ?_⟩, by simp; omega, fun x hx => ?_⟩
      · have hj' : j < l0 := by simpa using hj
        rw [hel j hj']
        refine ⟨at11_of fun i u hu => ?_, (hf' j hj').2.1⟩
        rw [Nat.add_assoc]; exact (hf' j hj').1 i u hu
      · obtain ⟨i, hi2, rfl⟩ := List.mem_map.1 hx
        exact (hf' i (by simpa using hi2)).2.2
end Bk
end Go.Proofs.YtghkalamlcfnnaaGreatDoor
