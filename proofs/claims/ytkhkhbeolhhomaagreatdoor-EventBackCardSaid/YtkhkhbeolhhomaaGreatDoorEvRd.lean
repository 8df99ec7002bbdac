/- Events as values: what one reads, a slice of moves; an event as an argument, opened; slices of them. -/
import Derived.Test.YtkhkhbeolhhomaaGreatDoorEvPlain
import Derived.Test.YtkhkhbeolhhomaaGreatDoorOpenRule
import Derived.Deep.Slices
import Derived.Deep.Fields
import Derived.ChangeSame
import Derived.DataShut
namespace Go.Proofs.YtkhkhbeolhhomaaGreatDoor
open Go Go.ChangeShapes Go.WideShapes Go.RowKit Go.Deep Lmd
namespace Evt
open Rul

/-- a move of a list, behind a name that the walk does not open -/
def ml (xs : List (Int × Int)) (i : Nat) : Int × Int := xs[i]?.getD (0, 0)
theorem ml_lt {xs : List (Int × Int)} {i : Nat} (h : i < xs.length) : ml xs i = xs[i] := by simp [ml, h]
/-- a slice of moves -/
def MReads (w : World) (v : Value) (xs : List (Int × Int)) : Prop :=
  (xs = [] ∧ ∃ a c, v = .slice a 0 c) ∨ ∃ b off c, v = .slice (some ⟨b, off, none⟩) xs.length c ∧ ∀ j, j < xs.length → w.cell? ⟨b, off + j * 2, none⟩ = some (.int .i64 (ml xs j).1) ∧ w.cell? ⟨b, off + j * 2 + 1, none⟩ = some (.int .i64 (ml xs j).2)
theorem MReads.shape {w : World} {v : Value} {xs : List (Int × Int)} (h : MReads w v xs) : ∃ a c, v = .slice a xs.length c := by
  rcases h with ⟨rfl, a, c, rfl⟩ | ⟨b, off, c, rfl, _⟩
  · exact ⟨a, c, rfl⟩
  · exact ⟨_, c, rfl⟩
theorem MReads.at {w : World} {a : Option Addr} {n cap : Nat} {xs : List (Int × Int)} (h : MReads w (.slice a n cap) xs) (hx : xs ≠ []) : n = xs.length ∧ ∃ b off, a = some ⟨b, off, none⟩ ∧ ∀ j, j < xs.length → w.cell? ⟨b, off + j * 2, none⟩ = some (.int .i64 (ml xs j).1) ∧ w.cell? ⟨b, off + j * 2 + 1, none⟩ = some (.int .i64 (ml xs j).2) := by
  rcases h with ⟨rfl, _⟩ | ⟨b, off, cap', e, hc⟩
  · exact absurd rfl hx
  · cases e; exact ⟨rfl, b, off, rfl, hc⟩
theorem MReads.below {w w' : World} {v : Value} {xs : List (Int × Int)} (h : MReads w v xs) (hb : Below w.heap.size w w') : MReads w' v xs := by
  rcases h with h | ⟨b, off, c, rfl, hc⟩
  · exact .inl h
  · exact .inr ⟨b, off, c, rfl, fun j hj => ⟨cell_later hb (hc j hj).1, cell_later hb (hc j hj).2⟩⟩

/-- an event's cells, its slices apart -/
def Ev.val (e : Ev) (vd vs vm : Value) : Value :=
  .agg #[.string e.id, .string e.ti, .int .i64 e.st, .int .i64 e.lg, .string e.ru.fq, .int .i64 e.ru.ev, vd, .int .i64 e.ru.ct, .int .i64 e.ru.un, vs, vm]
structure Rv (w : World) (e : Ev) (vd vs vm : Value) : Prop where
  d : Ints.Reads w vd e.ru.ds
  s : Ints.Reads w vs e.sk
  m : MReads w vm e.mv
theorem Rv.below {w w' : World} {e : Ev} {vd vs vm : Value} (h : Rv w e vd vs vm) (hb : Below w.heap.size w w') : Rv w' e vd vs vm := ⟨h.d.below hb, h.s.below hb, h.m.below hb⟩
/-- no part of an event is beyond what a machine holds -/
structure Fin64 (e : Ev) : Prop where
  id : e.id.size ≤ 9223372036854775807
  ti : e.ti.size ≤ 9223372036854775807
  fq : e.ru.fq.size ≤ 9223372036854775807
  ds : e.ru.ds.length ≤ 9223372036854775807
  sk : e.sk.length ≤ 9223372036854775807
  mv : e.mv.length ≤ 9223372036854775807

section
variable {H : Type} {enc : TypeId × Value → H} {W : World} {base : Nat}
theorem ints_of {n : Nat} {v : Value} {y : DataW H × List MemPlace} (h : DataW.trod enc Tryz.prog W base (fun _ => true) true n 33 [v] = some y) : ∃ xs : List Int, Ints.Reads W v xs ∧ xs.length ≤ 9223372036854775807 := by
  rcases open_ints Tryz.underlying33 Tryz.underlying3 (by kernel_rfl) h with ⟨e2, _⟩ | ⟨a, len, cap, zs, e2, _, hl, hc, hz, _, hcell, _⟩
  · cases e2
    exact ⟨[], .inl ⟨rfl, _, _, rfl⟩, by simp⟩
  · cases e2
    simp only [if_true] at hz
    have hm : maxLen ≤ 9223372036854775807 := Nat.le_refl _
    exact ⟨zs.take len, reads_of (by omega) hcell, by show (zs.take len).length ≤ _; simp; omega⟩
set_option maxRecDepth 100000 in
theorem trod_rule {fuel : Nat} {cs : List Value} {x : DataW H × List MemPlace} (h : DataW.trod enc Tryz.prog W base (fun _ => true) true fuel 35 cs = some x) :
    ∃ (r : Ru) (sl : Value), cs = [.string r.fq, .int .i64 r.ev, sl, .int .i64 r.ct, .int .i64 r.un] ∧ Ints.Reads W sl r.ds ∧ r.fq.size ≤ 9223372036854775807 ∧ r.ds.length ≤ 9223372036854775807 := by
  obtain ⟨xs, n, _, _, hl, hlen, hf⟩ := DataW.trod_struct Tryz.underlying35 h
  have hC : Tryz.prog.cellsOf 35 = 5 := by kernel_rfl
  rw [hC] at hl
  have cS : Tryz.prog.cellsOf 9 = 1 := by kernel_rfl
  have cI : Tryz.prog.cellsOf 3 = 1 := by kernel_rfl
  have cL : Tryz.prog.cellsOf 33 = 1 := by kernel_rfl
  have h0 := hf 0 _ rfl
  have h1 := hf 1 _ rfl
  have h2 := hf 2 _ rfl
  have h3 := hf 3 _ rfl
  have h4 := hf 4 _ rfl
  change DataW.trod enc _ W base _ _ n 9 (List.take (Tryz.prog.cellsOf 9) (List.drop 0 cs)) = xs[0]? at h0
  change DataW.trod enc _ W base _ _ n 3 (List.take (Tryz.prog.cellsOf 3) (List.drop 1 cs)) = xs[1]? at h1
  change DataW.trod enc _ W base _ _ n 33 (List.take (Tryz.prog.cellsOf 33) (List.drop 2 cs)) = xs[2]? at h2
  change DataW.trod enc _ W base _ _ n 3 (List.take (Tryz.prog.cellsOf 3) (List.drop 3 cs)) = xs[3]? at h3
  change DataW.trod enc _ W base _ _ n 3 (List.take (Tryz.prog.cellsOf 3) (List.drop 4 cs)) = xs[4]? at h4
  rw [cS] at h0
  rw [cI] at h1 h3 h4
  rw [cL] at h2
  match cs, hl with
  | [a, b, c, d, e], _ =>
    match xs, hlen with
    | [y0, y1, y2, y3, y4], _ =>
      simp only [List.drop_zero, List.drop_succ_cons, List.take_succ_cons, List.take_zero, List.getElem?_cons_zero, List.getElem?_cons_succ] at h0 h1 h2 h3 h4
      obtain ⟨s0, e0, _, z0⟩ := DataW.trod_string Tryz.underlying9 h0
      obtain ⟨m1, e1, _, _⟩ := DataW.trod_int Tryz.underlying3 h1
      obtain ⟨m3, e3, _, _⟩ := DataW.trod_int Tryz.underlying3 h3
      obtain ⟨m4, e4, _, _⟩ := DataW.trod_int Tryz.underlying3 h4
      obtain ⟨l2, hr, hz⟩ := ints_of h2
      simp only [List.cons.injEq, and_true] at e0 e1 e3 e4
      subst e0 e1 e3 e4
      exact ⟨⟨s0, m1, m3, m4, l2⟩, c, rfl, hr, Nat.le_trans z0 (Nat.le_refl _), hz⟩
set_option maxRecDepth 100000 in
theorem trod_move {fuel : Nat} {cs : List Value} {x : DataW H × List MemPlace} (h : DataW.trod enc Tryz.prog W base (fun _ => true) true fuel 54 cs = some x) :
    ∃ y : Int × Int, cs = [.int .i64 y.1, .int .i64 y.2] := by
  obtain ⟨xs, n, _, _, hl, hlen, hf⟩ := DataW.trod_struct Tryz.underlying54 h
  have hC : Tryz.prog.cellsOf 54 = 2 := by kernel_rfl
  rw [hC] at hl
  have cI : Tryz.prog.cellsOf 3 = 1 := by kernel_rfl
  have h0 := hf 0 _ rfl
  have h1 := hf 1 _ rfl
  change DataW.trod enc _ W base _ _ n 3 (List.take (Tryz.prog.cellsOf 3) (List.drop 0 cs)) = xs[0]? at h0
  change DataW.trod enc _ W base _ _ n 3 (List.take (Tryz.prog.cellsOf 3) (List.drop 1 cs)) = xs[1]? at h1
  rw [cI] at h0 h1
  match cs, hl with
  | [a, b], _ =>
    match xs, hlen with
    | [y0, y1], _ =>
      simp only [List.drop_zero, List.drop_succ_cons, List.take_succ_cons, List.take_zero, List.getElem?_cons_zero, List.getElem?_cons_succ] at h0 h1
      obtain ⟨m0, e0, _, _⟩ := DataW.trod_int Tryz.underlying3 h0
      obtain ⟨m1, e1, _, _⟩ := DataW.trod_int Tryz.underlying3 h1
      simp only [List.cons.injEq, and_true] at e0 e1
      subst e0 e1
      exact ⟨(m0, m1), rfl⟩
theorem add_plain (b o k : Nat) : Addr.add ⟨b, o, none⟩ k = ⟨b, o + k, none⟩ := by
  unfold Addr.add
  split
  · rename_i h; subst h; rfl
  · rfl
theorem plain_addr {b o : Nat} {sn : Option Nat} {u : Value} (h : W.cell? (Addr.add ⟨b, o, sn⟩ 0) = some u) : sn = none := by
  unfold Addr.add World.cell? at h
  simp only [if_true] at h
  split at h
  · split at h
    · cases h
    · rename_i hh; simpa using hh
  · cases h
set_option maxRecDepth 100000 in
theorem moves_of {n : Nat} {v : Value} {y : DataW H × List MemPlace} (h : DataW.trod enc Tryz.prog W base (fun _ => true) true n 36 [v] = some y) : ∃ xs : List (Int × Int), MReads W v xs ∧ xs.length ≤ 9223372036854775807 := by
  have hC : Tryz.prog.cellsOf 54 = 2 := by kernel_rfl
  have hm : maxLen ≤ 9223372036854775807 := Nat.le_refl _
  rcases open_slice Tryz.underlying36 h with ⟨hcs, _⟩ | ⟨a, len, cap, m, n, D, Pl, hcs, _, hl, hc, hmm, _, hi⟩
  · simp at hcs
    subst hcs
    exact ⟨[], .inl ⟨rfl, _, _, rfl⟩, by simp⟩
  · simp at hcs
    subst hcs
    simp only [if_true] at hmm
    have hex : ∀ i, i < len → ∃ y : Int × Int, W.cell? (a.add (i * 2)) = some (.int .i64 y.1) ∧ W.cell? (a.add (i * 2 + 1)) = some (.int .i64 y.2) := by
      intro i hil
      obtain ⟨cs', h1, h2⟩ := hi i (by omega)
      rw [hC] at h1
      obtain ⟨y, rfl⟩ := trod_move h2
      obtain ⟨_, _, h3⟩ := World.cells?_some h1
      refine ⟨y, ?_, ?_⟩
      · have := h3 0 (by omega); rw [add_add] at this; exact this
      · have := h3 1 (by omega); rw [add_add] at this; exact this
    by_cases h0 : len = 0
    · subst h0
      exact ⟨[], .inl ⟨rfl, _, _, rfl⟩, by simp⟩
    · obtain ⟨b, o, sn⟩ := a
      obtain rfl : sn = none := by
        obtain ⟨y, h1, _⟩ := hex 0 (by omega)
        rw [Nat.zero_mul] at h1
        exact plain_addr h1
      simp only [add_plain] at hex
      refine ⟨(List.range len).map fun i => if h : i < len then Classical.choose (hex i h) else (0, 0), .inr ⟨b, o, cap, by simp, fun j hj => ?_⟩, by simp; omega⟩
      have hj : j < len := by simpa using hj
      have hml : ml ((List.range len).map fun i => if h : i < len then Classical.choose (hex i h) else (0, 0)) j = Classical.choose (hex j hj) := by
        simp [ml, hj]
      rw [hml]
      have h := Classical.choose_spec (hex j hj)
      exact ⟨h.1, by rw [Nat.add_assoc]; exact h.2⟩
set_option maxRecDepth 100000 in
theorem trod_event {fuel : Nat} {cs : List Value} {x : DataW H × List MemPlace} (h : DataW.trod enc Tryz.prog W base (fun _ => true) true fuel 38 cs = some x) :
    ∃ (e : Ev) (vd vs vm : Value), cs = [.string e.id, .string e.ti, .int .i64 e.st, .int .i64 e.lg, .string e.ru.fq, .int .i64 e.ru.ev, vd, .int .i64 e.ru.ct, .int .i64 e.ru.un, vs, vm] ∧ Rv W e vd vs vm ∧ Fin64 e := by
  obtain ⟨xs, n, _, _, hl, hlen, hf⟩ := DataW.trod_struct Tryz.underlying38 h
  have hC : Tryz.prog.cellsOf 38 = 11 := by kernel_rfl
  rw [hC] at hl
  have cS : Tryz.prog.cellsOf 9 = 1 := by kernel_rfl
  have cI : Tryz.prog.cellsOf 3 = 1 := by kernel_rfl
  have cL : Tryz.prog.cellsOf 33 = 1 := by kernel_rfl
  have cR : Tryz.prog.cellsOf 35 = 5 := by kernel_rfl
  have cM : Tryz.prog.cellsOf 36 = 1 := by kernel_rfl
  have h0 := hf 0 _ rfl
  have h1 := hf 1 _ rfl
  have h2 := hf 2 _ rfl
  have h3 := hf 3 _ rfl
  have h4 := hf 4 _ rfl
  have h5 := hf 5 _ rfl
  have h6 := hf 6 _ rfl
  change DataW.trod enc _ W base _ _ n 9 (List.take (Tryz.prog.cellsOf 9) (List.drop 0 cs)) = xs[0]? at h0
  change DataW.trod enc _ W base _ _ n 9 (List.take (Tryz.prog.cellsOf 9) (List.drop 1 cs)) = xs[1]? at h1
  change DataW.trod enc _ W base _ _ n 3 (List.take (Tryz.prog.cellsOf 3) (List.drop 2 cs)) = xs[2]? at h2
  change DataW.trod enc _ W base _ _ n 3 (List.take (Tryz.prog.cellsOf 3) (List.drop 3 cs)) = xs[3]? at h3
  change DataW.trod enc _ W base _ _ n 35 (List.take (Tryz.prog.cellsOf 35) (List.drop 4 cs)) = xs[4]? at h4
  change DataW.trod enc _ W base _ _ n 33 (List.take (Tryz.prog.cellsOf 33) (List.drop 9 cs)) = xs[5]? at h5
  change DataW.trod enc _ W base _ _ n 36 (List.take (Tryz.prog.cellsOf 36) (List.drop 10 cs)) = xs[6]? at h6
  rw [cS] at h0 h1
  rw [cI] at h2 h3
  rw [cR] at h4
  rw [cL] at h5
  rw [cM] at h6
  match cs, hl with
  | [c0, c1, c2, c3, c4, c5, c6, c7, c8, c9, c10], _ =>
    match xs, hlen with
    | [y0, y1, y2, y3, y4, y5, y6], _ =>
      simp only [List.drop_zero, List.drop_succ_cons, List.take_succ_cons, List.take_zero, List.getElem?_cons_zero, List.getElem?_cons_succ] at h0 h1 h2 h3 h4 h5 h6
      obtain ⟨s0, e0, _, z0⟩ := DataW.trod_string Tryz.underlying9 h0
      obtain ⟨s1, e1, _, z1⟩ := DataW.trod_string Tryz.underlying9 h1
      obtain ⟨m2, e2, _, _⟩ := DataW.trod_int Tryz.underlying3 h2
      obtain ⟨m3, e3, _, _⟩ := DataW.trod_int Tryz.underlying3 h3
      obtain ⟨r, sl, e4, hr, zf, zd⟩ := trod_rule h4
      obtain ⟨l5, hs, zs⟩ := ints_of h5
      obtain ⟨l6, hm, zm⟩ := moves_of h6
      simp only [List.cons.injEq, and_true] at e0 e1 e2 e3 e4
      obtain ⟨rfl, rfl, rfl, rfl, rfl⟩ := e4
      subst e0 e1 e2 e3
      exact ⟨⟨s0, s1, m2, m3, r, l5, l6⟩, c6, c9, c10, rfl, ⟨hr, hs, hm⟩, ⟨Nat.le_trans z0 (Nat.le_refl _), Nat.le_trans z1 (Nat.le_refl _), zf, zd, zs, zm⟩⟩
set_option maxRecDepth 100000 in
theorem open_event {v : Value} {d : DataW H} {p : List MemPlace} {r : Reach} {b0 : Nat}
    (hv : Value.okWide Tryz.prog W r b0 38 v) (h : DataW.Trod enc Tryz.prog W base (fun _ => true) true 38 v d p) :
    ∃ (e : Ev) (vd vs vm : Value), v = e.val vd vs vm ∧ Rv W e vd vs vm ∧ Fin64 e := by
  obtain ⟨cs, rfl, hsz⟩ := okWide_struct Tryz.underlying38 hv
  obtain ⟨fuel, hf⟩ := h
  obtain ⟨e, vd, vs, vm, hcs, hr, hz⟩ := trod_event hf
  refine ⟨e, vd, vs, vm, ?_, hr, hz⟩
  simp only [Value.cells] at hcs
  unfold Ev.val
  congr 1
  exact Array.ext' (by simpa using hcs)
end
end Evt
end Go.Proofs.YtkhkhbeolhhomaaGreatDoor
