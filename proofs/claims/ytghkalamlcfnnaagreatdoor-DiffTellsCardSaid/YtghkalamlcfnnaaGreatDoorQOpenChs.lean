/- Changes as an argument, opened. -/
import Derived.Test.YtghkalamlcfnnaaGreatDoorQC2
import Derived.Test.YtghkalamlcfnnaaGreatDoorQOpenEvents
namespace Go.Proofs.YtghkalamlcfnnaaGreatDoor
open Go Go.ChangeShapes Go.WideShapes Go.RowKit Go.Deep Lmd
attribute [local go_sem] Oper.semAt_some
namespace Df
open Evt Bk
section
variable {H : Type} {enc : TypeId × Value → H} {W : World} {base : Nat}
set_option maxRecDepth 100000 in
theorem trod_chg {fuel : Nat} {cs : List Value} {x : DataW H × List MemPlace} (h : DataW.trod enc Tryz.prog W base (fun _ => true) true fuel 55 cs = some x) :
    ∃ y : Chg, cs = y.cs ∧ y.id.size ≤ 9223372036854775807 ∧ y.fi.size ≤ 9223372036854775807 ∧ y.old.size ≤ 9223372036854775807 ∧ y.new.size ≤ 9223372036854775807 := by
  obtain ⟨xs, n, _, _, hl, hlen, hf⟩ := DataW.trod_struct Tryz.underlying55 h
  have hC : Tryz.prog.cellsOf 55 = 4 := by kernel_rfl
  rw [hC] at hl
  have cS : Tryz.prog.cellsOf 9 = 1 := by kernel_rfl
  have h0 := hf 0 _ rfl
  have h1 := hf 1 _ rfl
  have h2 := hf 2 _ rfl
  have h3 := hf 3 _ rfl
  change DataW.trod enc _ W base _ _ n 9 (List.take (Tryz.prog.cellsOf 9) (List.drop 0 cs)) = xs[0]? at h0
  change DataW.trod enc _ W base _ _ n 9 (List.take (Tryz.prog.cellsOf 9) (List.drop 1 cs)) = xs[1]? at h1
  change DataW.trod enc _ W base _ _ n 9 (List.take (Tryz.prog.cellsOf 9) (List.drop 2 cs)) = xs[2]? at h2
  change DataW.trod enc _ W base _ _ n 9 (List.take (Tryz.prog.cellsOf 9) (List.drop 3 cs)) = xs[3]? at h3
  rw [cS] at h0 h1 h2 h3
  match cs, hl with
  | [a0, a1, a2, a3], _ =>
    match xs, hlen with
    | [y0, y1, y2, y3], _ =>
      simp only [List.drop_zero, List.drop_succ_cons, List.take_succ_cons, List.take_zero, List.getElem?_cons_zero, List.getElem?_cons_succ] at h0 h1 h2 h3
      obtain ⟨s0, e0, _, z0⟩ := DataW.trod_string Tryz.underlying9 h0
      obtain ⟨s1, e1, _, z1⟩ := DataW.trod_string Tryz.underlying9 h1
      obtain ⟨s2, e2, _, z2⟩ := DataW.trod_string Tryz.underlying9 h2
      obtain ⟨s3, e3, _, z3⟩ := DataW.trod_string Tryz.underlying9 h3
      simp only [List.cons.injEq, and_true] at e0 e1 e2 e3
      subst e0 e1 e2 e3
      exact ⟨⟨s0, s1, s2, s3⟩, rfl, Nat.le_trans z0 (Nat.le_refl _), Nat.le_trans z1 (Nat.le_refl _), Nat.le_trans z2 (Nat.le_refl _), Nat.le_trans z3 (Nat.le_refl _)⟩
set_option maxRecDepth 100000 in
theorem open_chs {v : Value} {d : DataW H} {p : List MemPlace} {r : Reach} {b0 : Nat} (hv : Value.okWide Tryz.prog W r b0 53 v) (h : DataW.Trod enc Tryz.prog W base (fun _ => true) true 53 v d p) :
    ∃ xs : List Chg, CReads W v xs ∧ xs.length ≤ 9223372036854775807 ∧ ∀ x ∈ xs, x.id.size ≤ 9223372036854775807 ∧ x.fi.size ≤ 9223372036854775807 ∧ x.old.size ≤ 9223372036854775807 ∧ x.new.size ≤ 9223372036854775807 := by
  obtain ⟨a0, l0, c0, rfl⟩ := okWide_slice Tryz.underlying53 hv
  obtain ⟨fuel, hf⟩ := h
  have hC : Tryz.prog.cellsOf 55 = 4 := by kernel_rfl
  have hm : maxLen ≤ 9223372036854775807 := Nat.le_refl _
  rcases open_slice Tryz.underlying53 hf with ⟨hcs, _⟩ | ⟨a, len, cap, m, n, D, Pl, hcs, _, hl, hc, hmm, _, hi⟩
  · simp [Value.cells] at hcs
    obtain ⟨rfl, rfl, rfl⟩ := hcs
    exact ⟨[], .inl ⟨rfl, _, _, rfl, fun _ => rfl⟩, by simp, by simp⟩
  · simp [Value.cells] at hcs
    obtain ⟨rfl, rfl, rfl⟩ := hcs
    simp only [if_true] at hmm
    have hex : ∀ i, i < l0 → ∃ y : Chg, (∀ j u, y.cs[j]? = some u → W.cell? (a.add (i * 4 + j)) = some u) ∧ y.id.size ≤ 9223372036854775807 ∧ y.fi.size ≤ 9223372036854775807 ∧ y.old.size ≤ 9223372036854775807 ∧ y.new.size ≤ 9223372036854775807 := by
      intro i hil
      obtain ⟨cs', h1, h2⟩ := hi i (by omega)
      rw [hC] at h1
      obtain ⟨y, rfl, hz⟩ := trod_chg h2
      obtain ⟨_, _, h3⟩ := World.cells?_some h1
      refine ⟨y, fun j u hu => ?_, hz⟩
      have hj : j < 4 := (List.getElem?_eq_some_iff.1 hu).1
      have := h3 j (by omega)
      rw [add_add] at this
      rw [this]; exact hu
    by_cases h0 : l0 = 0
    · subst h0
      exact ⟨[], .inl ⟨rfl, _, _, rfl, fun e => by cases e⟩, by simp, by simp⟩
    · obtain ⟨b, o, sn⟩ := a
      have hs : sn = none := by
        obtain ⟨y, hy, _⟩ := hex 0 (by omega)
        have h1 := hy 0 _ rfl
        unfold Addr.add World.cell? at h1
        simp only [Nat.zero_mul, Nat.add_zero, if_true] at h1
        split at h1
        · split at h1
          · cases h1
          · rename_i hh; simpa using hh
        · cases h1
      subst hs
      simp only [Evt.add_plain] at hex
      have hch : ∃ f : Nat → Chg, ∀ i, i < l0 → (∀ j u, (f i).cs[j]? = some u → W.cell? ⟨b, o + (i * 4 + j), none⟩ = some u) ∧ (f i).id.size ≤ 9223372036854775807 ∧ (f i).fi.size ≤ 9223372036854775807 ∧ (f i).old.size ≤ 9223372036854775807 ∧ (f i).new.size ≤ 9223372036854775807 :=
        ⟨fun i => if h : i < l0 then Classical.choose (hex i h) else zC, fun i h => by
          simp only [dif_pos h]; exact Classical.choose_spec (hex i h)⟩
      obtain ⟨f, hf'⟩ := hch
      have hel : ∀ j, j < l0 → elc ((List.range l0).map f) j = f j := fun j hj => by
        rw [elc_lt (by simpa using hj)]; simp
      refine ⟨(List.range l0).map f, .inr ⟨b, o, c0, by simp, fun j hj => ?_⟩, by simp; omega, fun x hx => ?_⟩
      · have hj' : j < l0 := by simpa using hj
        rw [hel j hj']
        refine at4_of fun i u hu => ?_
        rw [Nat.add_assoc]; exact (hf' j hj').1 i u hu
      · obtain ⟨i, hi2, rfl⟩ := List.mem_map.1 hx
        exact (hf' i (by simpa using hi2)).2
end
end Df
end Go.Proofs.YtghkalamlcfnnaaGreatDoor
