/- A rule as an argument, opened. The first theorem is the guide's block to copy. -/
import Derived.Test.YtkhkhbeolhhomaaGreatDoorRuleText
import Derived.Lib.SmallJoins
import Derived.ChangeSlices
namespace Go.Proofs.YtkhkhbeolhhomaaGreatDoor
open Go Go.Joins Go.ChangeShapes Go.WideShapes Go.RowKit Go.Deep Lmd
namespace Rul
section
variable {H : Type} {enc : TypeId × Value → H} {P : Program} {w : World} {base : Nat} {spare : Nat → Bool} {held : Bool}
theorem open_agg5 {r : Reach} {b0 : Nat} {t : TypeId} {f0 f1 f2 f3 f4 : Field} {v : Value} {d : DataW H} {p : List MemPlace} (hs : P.underlying t = some (.struct #[f0, f1, f2, f3, f4])) (hone : oneCellFields P #[f0, f1, f2, f3, f4] = true) (hC : P.cellsOf t = 5)
    (hv : Value.okWide P w r b0 t v) (h : DataW.Trod enc P w base spare held t v d p) :
    ∃ (v0 v1 v2 v3 v4 : Value) (y0 y1 y2 y3 y4 : DataW H × List MemPlace) (n : Nat), v = .agg #[v0, v1, v2, v3, v4] ∧ d = .agg [y0.1, y1.1, y2.1, y3.1, y4.1] ∧ p = y0.2 ++ (y1.2 ++ (y2.2 ++ (y3.2 ++ y4.2))) ∧
      DataW.trod enc P w base spare held n f0.type [v0] = some y0 ∧ DataW.trod enc P w base spare held n f1.type [v1] = some y1 ∧ DataW.trod enc P w base spare held n f2.type [v2] = some y2 ∧ DataW.trod enc P w base spare held n f3.type [v3] = some y3 ∧ DataW.trod enc P w base spare held n f4.type [v4] = some y4 := by
  obtain ⟨cs, rfl, hsz⟩ := okWide_struct hs hv
  obtain ⟨l⟩ := cs
  match l, hsz.trans hC with
  | [c0, c1, c2, c3, c4], _ =>
    obtain ⟨fuel, hf⟩ := h
    obtain ⟨xs, n, _, hx, _, hlen, hg⟩ := DataW.trod_struct hs hf
    obtain ⟨o0, k0⟩ := hone_of hone 0 f0 rfl
    obtain ⟨o1, k1⟩ := hone_of hone 1 f1 rfl
    obtain ⟨o2, k2⟩ := hone_of hone 2 f2 rfl
    obtain ⟨o3, k3⟩ := hone_of hone 3 f3 rfl
    obtain ⟨o4, k4⟩ := hone_of hone 4 f4 rfl
    match xs, hlen with
    | [y0, y1, y2, y3, y4], _ =>
      simp only [Prod.mk.injEq] at hx
      exact ⟨c0, c1, c2, c3, c4, y0, y1, y2, y3, y4, n, rfl, by simpa using hx.1, by simpa using hx.2, by simpa [Value.cells, o0, k0] using hg 0 f0 rfl, by simpa [Value.cells, o1, k1] using hg 1 f1 rfl, by simpa [Value.cells, o2, k2] using hg 2 f2 rfl, by simpa [Value.cells, o3, k3] using hg 3 f3 rfl, by simpa [Value.cells, o4, k4] using hg 4 f4 rfl⟩
end

theorem reads_of {w : World} {a : Addr} {len cap : Nat} {zs : List Int} (hl : len ≤ zs.length) (h : ∀ i, i < zs.length → w.cell? (a.add i) = some (.int .i64 (zs.getD i 0))) : Ints.Reads w (.slice (some a) len cap) (zs.take len) := by
  by_cases h0 : len = 0
  · subst h0
    exact .inl ⟨by simp, _, _, rfl⟩
  · have hlen : (zs.take len).length = len := by simp; omega
    obtain ⟨b, o, s⟩ := a
    have hs : s = none := by
      have := h 0 (by omega)
      unfold Addr.add World.cell? at this
      simp only [if_true] at this
      split at this
      · split at this
        · cases this
        · rename_i hh; simpa using hh
      · cases this
    subst hs
    refine .inr ⟨b, o, cap, by rw [hlen], fun i hi => ?_⟩
    rw [hlen] at hi
    have := h i (by omega)
    have he : Ints.el (zs.take len) i = zs.getD i 0 := by
      rw [Ints.el_lt (by omega), List.getElem_take, List.getD_eq_getElem?_getD, List.getElem?_eq_getElem (by omega)]; rfl
    rw [he]
    unfold Addr.add at this
    split at this
    · rename_i hi0; subst hi0; simpa using this
    · exact this

set_option maxRecDepth 100000 in
theorem open_rule {H : Type} {enc : TypeId × Value → H} {W : World} {base : Nat} {v : Value} {d : DataW H} {p : List MemPlace} {r : Reach} {b0 : Nat}
    (hv : Value.okWide Tryz.prog W r b0 35 v) (h : DataW.Trod enc Tryz.prog W base (fun _ => true) true 35 v d p) :
    ∃ (r : Ru) (sl : Value), v = r.val sl ∧ Ints.Reads W sl r.ds ∧ r.fq.size ≤ 9223372036854775807 ∧ r.ds.length ≤ 9223372036854775807 := by
  obtain ⟨v0, v1, v2, v3, v4, y0, y1, y2, y3, y4, n, rfl, _, _, h0, h1, h2, h3, h4⟩ := open_agg5 Tryz.underlying35 (by kernel_rfl) (by kernel_rfl) hv h
  obtain ⟨s, e0, _, hs⟩ := DataW.trod_string Tryz.underlying9 h0
  obtain ⟨ev, e1, _, _⟩ := DataW.trod_int Tryz.underlying3 h1
  obtain ⟨ct, e3, _, _⟩ := DataW.trod_int Tryz.underlying3 h3
  obtain ⟨un, e4, _, _⟩ := DataW.trod_int Tryz.underlying3 h4
  cases e0; cases e1; cases e3; cases e4
  have hm : maxLen ≤ 9223372036854775807 := Nat.le_refl _
  rcases open_ints Tryz.underlying33 Tryz.underlying3 (by kernel_rfl) h2 with ⟨e2, _⟩ | ⟨a, len, cap, zs, e2, _, hl, hc, hz, _, hcell, _⟩
  · cases e2
    exact ⟨⟨s, ev, ct, un, []⟩, .slice none 0 0, rfl, .inl ⟨rfl, _, _, rfl⟩, Nat.le_trans hs hm, by simp⟩
  · cases e2
    simp only [if_true] at hz
    exact ⟨⟨s, ev, ct, un, zs.take len⟩, .slice (some a) len cap, rfl, reads_of (by omega) hcell, Nat.le_trans hs hm, by show (zs.take len).length ≤ _; simp; omega⟩
end Rul
end Go.Proofs.YtkhkhbeolhhomaaGreatDoor
