/- A slice of writes on a tape as an argument, opened. -/
import Derived.Test.YtmlndamkcipebaaDoorTexts
import Derived.Deep.Slices
import Derived.Deep.Fields
import Derived.ChangeSame
import Derived.DataShut
namespace Go.Proofs.YtmlndamkcipebaaDoor
open Go Go.ChangeShapes Go.WideShapes Go.RowKit Go.Deep Lmd
namespace Wrt
/-- a write on a tape -/
structure Wr where
  kind : ByteArray
  s : ByteArray
  n : Int
/-- a slice of writes -/
def Rd (w : World) (v : Value) (xs : List Wr) : Prop :=
  (xs = [] ∧ ∃ a c, v = .slice a 0 c) ∨ ∃ b off c, v = .slice (some ⟨b, off, none⟩) xs.length c ∧ ∀ (j : Nat) x, xs[j]? = some x → w.cell? ⟨b, off + j * 3, none⟩ = some (.string x.kind) ∧ w.cell? ⟨b, off + j * 3 + 1, none⟩ = some (.string x.s) ∧ w.cell? ⟨b, off + j * 3 + 2, none⟩ = some (.int .i64 x.n)
theorem Rd.shape {w : World} {v : Value} {xs : List Wr} (h : Rd w v xs) : ∃ a c, v = .slice a xs.length c := by
  rcases h with ⟨rfl, a, c, rfl⟩ | ⟨b, off, c, rfl, _⟩
  · exact ⟨a, c, rfl⟩
  · exact ⟨_, c, rfl⟩
theorem Rd.at {w : World} {v : Value} {xs : List Wr} (h : Rd w v xs) (hx : xs ≠ []) : ∃ b off c, v = .slice (some ⟨b, off, none⟩) xs.length c ∧ ∀ (j : Nat) x, xs[j]? = some x → w.cell? ⟨b, off + j * 3, none⟩ = some (.string x.kind) ∧ w.cell? ⟨b, off + j * 3 + 1, none⟩ = some (.string x.s) ∧ w.cell? ⟨b, off + j * 3 + 2, none⟩ = some (.int .i64 x.n) :=
  h.resolve_left (fun h => hx h.1)
theorem Rd.below {w w' : World} {v : Value} {xs : List Wr} (h : Rd w v xs) (hb : Below w.heap.size w w') : Rd w' v xs := by
  rcases h with h | ⟨b, off, c, rfl, hc⟩
  · exact .inl h
  · exact .inr ⟨b, off, c, rfl, fun j x hx => ⟨cell_later hb (hc j x hx).1, cell_later hb (hc j x hx).2.1, cell_later hb (hc j x hx).2.2⟩⟩
section
variable {H : Type} {enc : TypeId × Value → H} {W : World} {base : Nat} {sp : Nat → Bool} {held : Bool}
set_option maxRecDepth 100000 in
theorem trod_write {fuel : Nat} {cs : List Value} {x : DataW H × List MemPlace} (h : DataW.trod enc Tryd.prog W base sp held fuel 80 cs = some x) :
    ∃ (y : Wr), cs = [.string y.kind, .string y.s, .int .i64 y.n] ∧ y.s.size ≤ maxLen ∧ -9223372036854775808 ≤ y.n ∧ y.n ≤ 9223372036854775807 := by
  obtain ⟨xs, n, _, _, hl, hlen, hf⟩ := DataW.trod_struct Tryd.underlying80 h
  have hC : Tryd.prog.cellsOf 80 = 3 := by kernel_rfl
  rw [hC] at hl
  have c9 : Tryd.prog.cellsOf 9 = 1 := by kernel_rfl
  have c3 : Tryd.prog.cellsOf 3 = 1 := by kernel_rfl
  have h0 := hf 0 _ rfl
  have h1 := hf 1 _ rfl
  have h2 := hf 2 _ rfl
  change DataW.trod enc _ W base sp held n 9 (List.take (Tryd.prog.cellsOf 9) (List.drop 0 cs)) = xs[0]? at h0
  change DataW.trod enc _ W base sp held n 9 (List.take (Tryd.prog.cellsOf 9) (List.drop 1 cs)) = xs[1]? at h1
  change DataW.trod enc _ W base sp held n 3 (List.take (Tryd.prog.cellsOf 3) (List.drop 2 cs)) = xs[2]? at h2
  rw [c9] at h0 h1
  rw [c3] at h2
  match cs, hl with
  | [a, b, c], _ =>
    match xs, hlen with
    | [y0, y1, y2], _ =>
      simp only [List.drop_zero, List.drop_succ_cons, List.take_succ_cons, List.take_zero, List.getElem?_cons_zero, List.getElem?_cons_succ] at h0 h1 h2
      obtain ⟨s0, e0, _, _⟩ := DataW.trod_string Tryd.underlying9 h0
      obtain ⟨s1, e1, _, z1⟩ := DataW.trod_string Tryd.underlying9 h1
      obtain ⟨m, e2, _, z2⟩ := DataW.trod_int Tryd.underlying3 h2
      obtain ⟨z3, z4⟩ := (Lit.wf_int_iff .i64 m).1 z2
      simp only [List.cons.injEq, and_true] at e0 e1 e2
      subst e0 e1 e2
      exact ⟨⟨s0, s1, m⟩, rfl, z1, z3, z4⟩
set_option maxRecDepth 100000 in
theorem open_writes {v : Value} {d : DataW H} {p : List MemPlace} {r : Reach} {b0 : Nat} (hv : Value.okWide Tryd.prog W r b0 75 v) (h : DataW.Trod enc Tryd.prog W base (fun _ => true) true 75 v d p) :
    ∃ xs : List Wr, Rd W v xs ∧ xs.length ≤ 9223372036854775807 ∧ ∀ x ∈ xs, x.s.size ≤ 9223372036854775807 ∧ -9223372036854775808 ≤ x.n ∧ x.n ≤ 9223372036854775807 := by
  obtain ⟨a0, l0, c0, rfl⟩ := okWide_slice Tryd.underlying75 hv
  obtain ⟨fuel, hf⟩ := h
  have hC : Tryd.prog.cellsOf 80 = 3 := by kernel_rfl
  have hm : maxLen ≤ 9223372036854775807 := Nat.le_refl _
  rcases open_slice Tryd.underlying75 hf with ⟨hcs, _⟩ | ⟨a, len, cap, m, n, D, Pl, hcs, _, hl, hc, hmm, _, hi⟩
  · simp [Value.cells] at hcs
    obtain ⟨rfl, rfl, rfl⟩ := hcs
    exact ⟨[], .inl ⟨rfl, _, _, rfl⟩, by simp, by simp⟩
  · simp [Value.cells] at hcs
    obtain ⟨rfl, rfl, rfl⟩ := hcs
    simp only [if_true] at hmm
    have hex : ∀ i, i < l0 → ∃ y : Wr, (W.cell? (a.add (i * 3)) = some (.string y.kind) ∧ W.cell? (a.add (i * 3 + 1)) = some (.string y.s) ∧ W.cell? (a.add (i * 3 + 2)) = some (.int .i64 y.n)) ∧ y.s.size ≤ maxLen ∧ -9223372036854775808 ≤ y.n ∧ y.n ≤ 9223372036854775807 := by
      intro i hil
      obtain ⟨cs', h1, h2⟩ := hi i (by omega)
      rw [hC] at h1
      obtain ⟨y, rfl, hy⟩ := trod_write h2
      obtain ⟨_, _, h3⟩ := World.cells?_some h1
      refine ⟨y, ⟨?_, ?_, ?_⟩, hy⟩
      · have := h3 0 (by omega); rw [add_add] at this; exact this
      · have := h3 1 (by omega); rw [add_add] at this; exact this
      · have := h3 2 (by omega); rw [add_add] at this; exact this
    by_cases h0 : l0 = 0
    · subst h0
      exact ⟨[], .inl ⟨rfl, _, _, rfl⟩, by simp, by simp⟩
    · obtain ⟨b, o, sn⟩ := a
      have hs : sn = none := by
        obtain ⟨y, ⟨h1, _⟩, _⟩ := hex 0 (by omega)
        unfold Addr.add World.cell? at h1
        simp only [Nat.zero_mul, if_true] at h1
        split at h1
        · split at h1
          · cases h1
          · rename_i hh; simpa using hh
        · cases h1
      subst hs
      have hadd : ∀ k, Addr.add ⟨b, o, none⟩ k = ⟨b, o + k, none⟩ := by
        intro k
        unfold Addr.add
        split
        · rename_i h; subst h; rfl
        · rfl
      simp only [hadd] at hex
      refine ⟨(List.range l0).map fun i => if h : i < l0 then Classical.choose (hex i h) else ⟨⟨#[]⟩, ⟨#[]⟩, 0⟩, .inr ⟨b, o, c0, by simp, fun j x hx => ?_⟩, by simp; omega, fun x hx => ?_⟩
      · have hj : j < l0 := by have := (List.getElem?_eq_some_iff.1 hx).1; simpa using this
        rw [List.getElem?_map, List.getElem?_range hj] at hx
        simp only [Option.map_some, Option.some.injEq, dif_pos hj] at hx
        subst hx
        have h := (Classical.choose_spec (hex j hj)).1
        exact ⟨h.1, by rw [Nat.add_assoc]; exact h.2.1, by rw [Nat.add_assoc]; exact h.2.2⟩
      · obtain ⟨i, hi2, rfl⟩ := List.mem_map.1 hx
        have hil : i < l0 := by simpa using hi2
        rw [dif_pos hil]
        have h := (Classical.choose_spec (hex i hil)).2
        exact ⟨Nat.le_trans h.1 hm, h.2⟩
end
end Wrt
end Go.Proofs.YtmlndamkcipebaaDoor
