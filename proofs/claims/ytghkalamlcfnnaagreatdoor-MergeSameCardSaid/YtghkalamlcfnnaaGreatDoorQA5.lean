/- EvRd, EvLaws, EvCheck: texts joined. -/
import Derived.Test.YtghkalamlcfnnaaGreatDoorQA4
import Derived.Deep.Slices
import Derived.Deep.Fields
import Derived.ChangeSame
import Derived.DataShut
import Derived.Shelf.SlicesE.IndexFunc
import Derived.Shelf.SlicesQ.IndexFunc
import Derived.Lib.SliceRun
import Derived.OwnWalk
import Derived.Shelf.Strings.SlTrimAscii
import Derived.Shelf.GgClosure.StringsIndexFuncTop
section
namespace Go.Proofs.YtghkalamlcfnnaaGreatDoor
open Go Go.ChangeShapes Go.WideShapes Go.RowKit Go.Deep Lmd
namespace Evt
open Rul
def ml (xs : List (Int × Int)) (i : Nat) : Int × Int := xs[i]?.getD (0, 0)
theorem ml_lt {xs : List (Int × Int)} {i : Nat} (h : i < xs.length) : ml xs i = xs[i] := by simp [ml, h]
def MReads (w : World) (v : Value) (xs : List (Int × Int)) : Prop :=
  (xs = [] ∧ ∃ a c, v = .slice a 0 c) ∨ ∃ b off c, v = .slice (some ⟨b, off, none⟩) xs.length c ∧ ∀ j, j < xs.length → w.cell? ⟨b, off + j * 2, none⟩ = some (.int .i64 (ml xs j).1) ∧ w.cell? ⟨b, off + j * 2 + 1, none⟩ = some (.int .i64 (ml xs j).2)
theorem MReads.shape {w : World} {v : Value} {xs : List (Int × Int)} (h : MReads w v xs) : ∃ a c, v = .slice a xs.length c := by
  rcases h with ⟨rfl, a, c, rfl⟩ | ⟨b, off, c, rfl, _⟩
  · exact ⟨a, c, rfl⟩
  · exact ⟨_, c, rfl⟩
theorem MReads.at {w : World} {a : Option Addr} {n cap : Nat} {xs : List (Int × Int)} (h : MReads w (.slice a n cap) xs) (hx : xs ≠ []) : n = xs.length ∧ ∃ b off, a = some ⟨b, off, none⟩ ∧ ∀ j, j < xs.length → w.cell? ⟨b, off + j * 2, none⟩ = some (.int .i64 (ml xs j).1) ∧ w.cell? ⟨b, off + j * 2 + 1, none⟩ = some (.int .i64 (ml xs j).2) := by
  rcases h with ⟨rfl, _⟩ | ⟨b, off, cap', e, hc⟩
  · exact absurd rfl hx
  · cases e; exact ⟨rfl, b, off, rfl, hc⟩
theorem MReads.below {w w' : World} {v : Value} {xs : List (Int × Int)} (h : MReads w v xs) (hb : Below w.heap.size w w') : MReads w' v xs := by
  rcases h with h | ⟨b, off, c, rfl, hc⟩
  · exact .inl h
  · exact .inr ⟨b, off, c, rfl, fun j hj => ⟨cell_later hb (hc j hj).1, cell_later hb (hc j hj).2⟩⟩
structure Rv (w : World) (e : Ev) (vd vs vm : Value) : Prop where
  d : Ints.Reads w vd e.ru.ds
  s : Ints.Reads w vs e.sk
  m : MReads w vm e.mv
theorem Rv.below {w w' : World} {e : Ev} {vd vs vm : Value} (h : Rv w e vd vs vm) (hb : Below w.heap.size w w') : Rv w' e vd vs vm := ⟨h.d.below hb, h.s.below hb, h.m.below hb⟩
structure Fin64 (e : Ev) : Prop where
  id : e.id.size ≤ 9223372036854775807
  ti : e.ti.size ≤ 9223372036854775807
  fq : e.ru.fq.size ≤ 9223372036854775807
  ds : e.ru.ds.length ≤ 9223372036854775807
  sk : e.sk.length ≤ 9223372036854775807
  mv : e.mv.length ≤ 9223372036854775807
section
variable {H : Type} {enc : TypeId × Value → H} {W : World} {base : Nat}
theorem ints_of {n : Nat} {v : Value} {y : DataW H × List MemPlace} (h : DataW.trod enc Tryz.prog W base (fun _ => true) true n 35 [v] = some y) : ∃ xs : List Int, Ints.Reads W v xs ∧ xs.length ≤ 9223372036854775807 := by
  rcases open_ints Tryz.underlying35 Tryz.underlying3 (by kernel_rfl) h with ⟨e2, _⟩ | ⟨a, len, cap, zs, e2, _, hl, hc, hz, _, hcell, _⟩
  · cases e2
    exact ⟨[], .inl ⟨rfl, _, _, rfl⟩, by simp⟩
  · cases e2
    simp only [if_true] at hz
    have hm : maxLen ≤ 9223372036854775807 := Nat.le_refl _
    exact ⟨zs.take len, reads_of (by omega) hcell, by show (zs.take len).length ≤ _; simp; omega⟩
set_option maxRecDepth 100000 in
theorem trod_rule {fuel : Nat} {cs : List Value} {x : DataW H × List MemPlace} (h : DataW.trod enc Tryz.prog W base (fun _ => true) true fuel 37 cs = some x) :
    ∃ (r : Ru) (sl : Value), cs = [.string r.fq, .int .i64 r.ev, sl, .int .i64 r.ct, .int .i64 r.un] ∧ Ints.Reads W sl r.ds ∧ r.fq.size ≤ 9223372036854775807 ∧ r.ds.length ≤ 9223372036854775807 := by
  obtain ⟨xs, n, _, _, hl, hlen, hf⟩ := DataW.trod_struct Tryz.underlying37 h
  have hC : Tryz.prog.cellsOf 37 = 5 := by kernel_rfl
  rw [hC] at hl
  have cS : Tryz.prog.cellsOf 9 = 1 := by kernel_rfl
  have cI : Tryz.prog.cellsOf 3 = 1 := by kernel_rfl
  have cL : Tryz.prog.cellsOf 35 = 1 := by kernel_rfl
  have h0 := hf 0 _ rfl
  have h1 := hf 1 _ rfl
  have h2 := hf 2 _ rfl
  have h3 := hf 3 _ rfl
  have h4 := hf 4 _ rfl
  change DataW.trod enc _ W base _ _ n 9 (List.take (Tryz.prog.cellsOf 9) (List.drop 0 cs)) = xs[0]? at h0
  change DataW.trod enc _ W base _ _ n 3 (List.take (Tryz.prog.cellsOf 3) (List.drop 1 cs)) = xs[1]? at h1
  change DataW.trod enc _ W base _ _ n 35 (List.take (Tryz.prog.cellsOf 35) (List.drop 2 cs)) = xs[2]? at h2
  change DataW.trod enc _ W base _ _ n 3 (List.take (Tryz.prog.cellsOf 3) (List.drop 3 cs)) = xs[3]? at h3
  change DataW.trod enc _ W base _ _ n 3 (List.take (Tryz.prog.cellsOf 3) (List.drop 4 cs)) = xs[4]? at h4
  rw [cS] at h0
  rw [cI] at h1 h3 h4
  rw [cL] at h2
  match cs, hl with
  | [a, b, c, d, e], _ =>
    match xs, hlen with
    | [y0, y1, y2, y3, y4], _ =>
      simp only [List.drop_zero, List.drop_succ_cons, List.take_succ_cons, List.take_zero, List.getElem?_cons_zero, List.getElem?_cons_succ] at h0 h1 h2 h3 h4
      obtain ⟨s0, e0, _, z0⟩ := DataW.trod_string Tryz.underlying9 h0
      obtain ⟨m1, e1, _, _⟩ := DataW.trod_int Tryz.underlying3 h1
      obtain ⟨m3, e3, _, _⟩ := DataW.trod_int Tryz.underlying3 h3
      obtain ⟨m4, e4, _, _⟩ := DataW.trod_int Tryz.underlying3 h4
      obtain ⟨l2, hr, hz⟩ := ints_of h2
      simp only [List.cons.injEq, and_true] at e0 e1 e3 e4
      subst e0 e1 e3 e4
      exact ⟨⟨s0, m1, m3, m4, l2⟩, c, rfl, hr, Nat.le_trans z0 (Nat.le_refl _), hz⟩
set_option maxRecDepth 100000 in
theorem trod_move {fuel : Nat} {cs : List Value} {x : DataW H × List MemPlace} (h : DataW.trod enc Tryz.prog W base (fun _ => true) true fuel 95 cs = some x) :
    ∃ y : Int × Int, cs = [.int .i64 y.1, .int .i64 y.2] := by
  obtain ⟨xs, n, _, _, hl, hlen, hf⟩ := DataW.trod_struct Tryz.underlying95 h
  have hC : Tryz.prog.cellsOf 95 = 2 := by kernel_rfl
  rw [hC] at hl
  have cI : Tryz.prog.cellsOf 3 = 1 := by kernel_rfl
  have h0 := hf 0 _ rfl
  have h1 := hf 1 _ rfl
  change DataW.trod enc _ W base _ _ n 3 (List.take (Tryz.prog.cellsOf 3) (List.drop 0 cs)) = xs[0]? at h0
  change DataW.trod enc _ W base _ _ n 3 (List.take (Tryz.prog.cellsOf 3) (List.drop 1 cs)) = xs[1]? at h1
  rw [cI] at h0 h1
  match cs, hl with
  | [a, b], _ =>
    match xs, hlen with
    | [y0, y1], _ =>
      simp only [List.drop_zero, List.drop_succ_cons, List.take_succ_cons, List.take_zero, List.getElem?_cons_zero, List.getElem?_cons_succ] at h0 h1
      obtain ⟨m0, e0, _, _⟩ := DataW.trod_int Tryz.underlying3 h0
      obtain ⟨m1, e1, _, _⟩ := DataW.trod_int Tryz.underlying3 h1
      simp only [List.cons.injEq, and_true] at e0 e1
      subst e0 e1
      exact ⟨(m0, m1), rfl⟩
theorem add_plain (b o k : Nat) : Addr.add ⟨b, o, none⟩ k = ⟨b, o + k, none⟩ := by
  unfold Addr.add
  split
  · rename_i h; subst h; rfl
  · rfl
theorem plain_addr {b o : Nat} {sn : Option Nat} {u : Value} (h : W.cell? (Addr.add ⟨b, o, sn⟩ 0) = some u) : sn = none := by
  unfold Addr.add World.cell? at h
  simp only [if_true] at h
  split at h
  · split at h
    · cases h
    · rename_i hh; simpa using hh
  · cases h
set_option maxRecDepth 100000 in
theorem moves_of {n : Nat} {v : Value} {y : DataW H × List MemPlace} (h : DataW.trod enc Tryz.prog W base (fun _ => true) true n 38 [v] = some y) : ∃ xs : List (Int × Int), MReads W v xs ∧ xs.length ≤ 9223372036854775807 := by
  have hC : Tryz.prog.cellsOf 95 = 2 := by kernel_rfl
  have hm : maxLen ≤ 9223372036854775807 := Nat.le_refl _
  rcases open_slice Tryz.underlying38 h with ⟨hcs, _⟩ | ⟨a, len, cap, m, n, D, Pl, hcs, _, hl, hc, hmm, _, hi⟩
  · simp at hcs
    subst hcs
    exact ⟨[], .inl ⟨rfl, _, _, rfl⟩, by simp⟩
  · simp at hcs
    subst hcs
    simp only [if_true] at hmm
    have hex : ∀ i, i < len → ∃ y : Int × Int, W.cell? (a.add (i * 2)) = some (.int .i64 y.1) ∧ W.cell? (a.add (i * 2 + 1)) = some (.int .i64 y.2) := by
      intro i hil
      obtain ⟨cs', h1, h2⟩ := hi i (by omega)
      rw [hC] at h1
      obtain ⟨y, rfl⟩ := trod_move h2
      obtain ⟨_, _, h3⟩ := World.cells?_some h1
      refine ⟨y, ?_, ?_⟩
      · have := h3 0 (by omega); rw [add_add] at this; exact this
      · have := h3 1 (by omega); rw [add_add] at this; exact this
    by_cases h0 : len = 0
    · subst h0
      exact ⟨[], .inl ⟨rfl, _, _, rfl⟩, by simp⟩
    · obtain ⟨b, o, sn⟩ := a
      obtain rfl : sn = none := by
        obtain ⟨y, h1, _⟩ := hex 0 (by omega)
        rw [Nat.zero_mul] at h1
        exact plain_addr h1
      simp only [add_plain] at hex
      refine ⟨(List.range len).map fun i => if h : i < len then Classical.choose (hex i h) else (0, 0), .inr ⟨b, o, cap, by simp, fun j hj => ?_⟩, by simp; omega⟩
      have hj : j < len := by simpa using hj
      have hml : ml ((List.range len).map fun i => if h : i < len then Classical.choose (hex i h) else (0, 0)) j = Classical.choose (hex j hj) := by
        simp [ml, hj]
      rw [hml]
      have h := Classical.choose_spec (hex j hj)
      exact ⟨h.1, by rw [Nat.add_assoc]; exact h.2⟩
set_option maxRecDepth 100000 in
theorem trod_event {fuel : Nat} {cs : List Value} {x : DataW H × List MemPlace} (h : DataW.trod enc Tryz.prog W base (fun _ => true) true fuel 40 cs = some x) :
    ∃ (e : Ev) (vd vs vm : Value), cs = [.string e.id, .string e.ti, .int .i64 e.st, .int .i64 e.lg, .string e.ru.fq, .int .i64 e.ru.ev, vd, .int .i64 e.ru.ct, .int .i64 e.ru.un, vs, vm] ∧ Rv W e vd vs vm ∧ Fin64 e := by
  obtain ⟨xs, n, _, _, hl, hlen, hf⟩ := DataW.trod_struct Tryz.underlying40 h
  have hC : Tryz.prog.cellsOf 40 = 11 := by kernel_rfl
  rw [hC] at hl
  have cS : Tryz.prog.cellsOf 9 = 1 := by kernel_rfl
  have cI : Tryz.prog.cellsOf 3 = 1 := by kernel_rfl
  have cL : Tryz.prog.cellsOf 35 = 1 := by kernel_rfl
  have cR : Tryz.prog.cellsOf 37 = 5 := by kernel_rfl
  have cM : Tryz.prog.cellsOf 38 = 1 := by kernel_rfl
  have h0 := hf 0 _ rfl
  have h1 := hf 1 _ rfl
  have h2 := hf 2 _ rfl
  have h3 := hf 3 _ rfl
  have h4 := hf 4 _ rfl
  have h5 := hf 5 _ rfl
  have h6 := hf 6 _ rfl
  change DataW.trod enc _ W base _ _ n 9 (List.take (Tryz.prog.cellsOf 9) (List.drop 0 cs)) = xs[0]? at h0
  change DataW.trod enc _ W base _ _ n 9 (List.take (Tryz.prog.cellsOf 9) (List.drop 1 cs)) = xs[1]? at h1
  change DataW.trod enc _ W base _ _ n 3 (List.take (Tryz.prog.cellsOf 3) (List.drop 2 cs)) = xs[2]? at h2
  change DataW.trod enc _ W base _ _ n 3 (List.take (Tryz.prog.cellsOf 3) (List.drop 3 cs)) = xs[3]? at h3
  change DataW.trod enc _ W base _ _ n 37 (List.take (Tryz.prog.cellsOf 37) (List.drop 4 cs)) = xs[4]? at h4
  change DataW.trod enc _ W base _ _ n 35 (List.take (Tryz.prog.cellsOf 35) (List.drop 9 cs)) = xs[5]? at h5
  change DataW.trod enc _ W base _ _ n 38 (List.take (Tryz.prog.cellsOf 38) (List.drop 10 cs)) = xs[6]? at h6
  rw [cS] at h0 h1
  rw [cI] at h2 h3
  rw [cR] at h4
  rw [cL] at h5
  rw [cM] at h6
  match cs, hl with
  | [c0, c1, c2, c3, c4, c5, c6, c7, c8, c9, c10], _ =>
    match xs, hlen with
    | [y0, y1, y2, y3, y4, y5, y6], _ =>
      simp only [List.drop_zero, List.drop_succ_cons, List.take_succ_cons, List.take_zero, List.getElem?_cons_zero, List.getElem?_cons_succ] at h0 h1 h2 h3 h4 h5 h6
      obtain ⟨s0, e0, _, z0⟩ := DataW.trod_string Tryz.underlying9 h0
      obtain ⟨s1, e1, _, z1⟩ := DataW.trod_string Tryz.underlying9 h1
      obtain ⟨m2, e2, _, _⟩ := DataW.trod_int Tryz.underlying3 h2
      obtain ⟨m3, e3, _, _⟩ := DataW.trod_int Tryz.underlying3 h3
      obtain ⟨r, sl, e4, hr, zf, zd⟩ := trod_rule h4
      obtain ⟨l5, hs, zs⟩ := ints_of h5
      obtain ⟨l6, hm, zm⟩ := moves_of h6
      simp only [List.cons.injEq, and_true] at e0 e1 e2 e3 e4
      obtain ⟨rfl, rfl, rfl, rfl, rfl⟩ := e4
      subst e0 e1 e2 e3
      exact ⟨⟨s0, s1, m2, m3, r, l5, l6⟩, c6, c9, c10, rfl, ⟨hr, hs, hm⟩, ⟨Nat.le_trans z0 (Nat.le_refl _), Nat.le_trans z1 (Nat.le_refl _), zf, zd, zs, zm⟩⟩
end
end Evt
end Go.Proofs.YtghkalamlcfnnaaGreatDoor
end
section
namespace Go.Proofs.YtghkalamlcfnnaaGreatDoor
open Go Go.RowKit Go.Shelf Lmd
namespace Evt
open Rul Day Cand
theorem move_info : (Tryz.prog.info? 95).map (fun i => (i.zero, i.size, i.bytes)) = some (some (.agg #[.int .i64 0, .int .i64 0]), 2, 16) := by kernel_rfl
theorem own_at {w : World} {base size : Nat} {e : TypeId} {v : Value} {n : Nat} {xs : List Value} (h : w.ownsRow base e size v n xs) : ∃ a c, v = .slice a n c := by
  rcases h.2 with ⟨rfl, h0⟩ | ⟨g, cap, cur, rfl, _⟩
  · exact ⟨none, 0, by rw [h0]⟩
  · exact ⟨_, _, rfl⟩
theorem own_ge {w : World} {base size : Nat} {e : TypeId} {v : Value} {n : Nat} {xs : List Value} (h : w.ownsRow base e size v n xs) {j : Nat} (hj : v.ownBlock = some j) : base ≤ j := by
  rcases h.2 with ⟨rfl, _⟩ | ⟨g, cap, cur, rfl, hb, _⟩
  · simp [Value.ownBlock] at hj
  · obtain rfl : g = j := by simpa [Value.ownBlock] using hj
    exact hb
theorem own_below {w w' : World} {base size : Nat} {e : TypeId} {v : Value} {n : Nat} {xs : List Value} (h : w.ownsRow base e size v n xs) (hb : Below w.heap.size w w') : w'.ownsRow base e size v n xs := by
  refine h.kept (Rng.grownBy_of_below hb) ?_
  cases hv : v.ownBlock with
  | none => exact .inl rfl
  | some g => exact .inr (fun e => by cases e)
theorem append_int {w : World} {ops : Array Oper} {rest : List Oper} {o : Oper} {a : Act} {Q : Exit → Act → World → Prop} (hgd : o.guard = none) (s x : Operand)
    (ho : o.op = .call { callee := .builtin .append, args := #[s, x], argTypes := #[35, 35] })
    (base : Nat) (v : Value) (xs : List Int) (hs : a.eval s = v) (hown : w.ownsRow base 3 1 v xs.length (cellsOf xs)) (g : Nat) (y : Int) (hx : a.eval x = .slice (some ⟨g, 0, none⟩) 1 1) (hg : w.cell? ⟨g, 0, none⟩ = some (.int .i64 y))
    (hb : xs.length ≤ 3000000) (hbase : base ≤ w.heap.size)
    (h : ∀ a' c' w', w'.ownsRow base 3 1 (.slice a' (xs.length + 1) c') (xs ++ [y]).length (cellsOf (xs ++ [y])) → Below base w w' → wpList Tryz.prog ops Q rest (a.put o.dst (.slice a' (xs.length + 1) c')) w') : wpList Tryz.prog ops Q (o :: rest) a w := by
  obtain ⟨i0, hi0, hz0, hz1, hz2⟩ := info_parts int_info
  refine wpList_append_own _ hgd s x 35 ho base 3 i0 _ 1 8 Tryz.underlying35 hi0 hz0 hz1 hz2 rfl (by omega) v xs.length (cellsOf xs) hs hown ⟨g, 0, none⟩ 1 1 [.int .i64 y] hx rfl
    (fun j u hu => by
      cases j with
      | zero => simp at hu; subst hu; exact hg
      | succ j => simp at hu) (fun u hu => by simp at hu; subst hu; rfl) (by simp only [maxLen]; omega) (by omega) hbase ?_
  intro v' w' h1 h2 _
  obtain ⟨a1, c1, rfl⟩ := own_at h1
  refine h a1 c1 w' ?_ ((Below.refl base w).grown h2 hbase (fun j ej => own_ge hown ej))
  rw [cellsOf_snoc, List.length_append]; exact h1
theorem append_str {w : World} {ops : Array Oper} {rest : List Oper} {o : Oper} {a : Act} {Q : Exit → Act → World → Prop} (hgd : o.guard = none) (s x : Operand)
    (ho : o.op = .call { callee := .builtin .append, args := #[s, x], argTypes := #[33, 33] })
    (base : Nat) (v : Value) (xs : List ByteArray) (hs : a.eval s = v) (hown : w.ownsRow base 9 1 v xs.length (cellsS xs)) (g : Nat) (y : ByteArray) (hx : a.eval x = .slice (some ⟨g, 0, none⟩) 1 1) (hg : w.cell? ⟨g, 0, none⟩ = some (.string y))
    (hb : xs.length ≤ 3000000) (hbase : base ≤ w.heap.size)
    (h : ∀ a' c' w', w'.ownsRow base 9 1 (.slice a' (xs.length + 1) c') (xs ++ [y]).length (cellsS (xs ++ [y])) → Below base w w' → wpList Tryz.prog ops Q rest (a.put o.dst (.slice a' (xs.length + 1) c')) w') : wpList Tryz.prog ops Q (o :: rest) a w := by
  obtain ⟨i0, hi0, hz0, hz1, hz2⟩ := info_parts string_info
  refine wpList_append_own _ hgd s x 33 ho base 9 i0 _ 1 16 Tryz.underlying33 hi0 hz0 hz1 hz2 rfl (by omega) v xs.length (cellsS xs) hs hown ⟨g, 0, none⟩ 1 1 [.string y] hx rfl
    (fun j u hu => by
      cases j with
      | zero => simp at hu; subst hu; exact hg
      | succ j => simp at hu) (fun u hu => by simp at hu; subst hu; rfl) (by simp only [maxLen]; omega) (by omega) hbase ?_
  intro v' w' h1 h2 _
  obtain ⟨a1, c1, rfl⟩ := own_at h1
  refine h a1 c1 w' ?_ ((Below.refl base w).grown h2 hbase (fun j ej => own_ge hown ej))
  have hS : cellsS (xs ++ [y]) = cellsS xs ++ [.string y] := by simp [cellsS]
  rw [hS, List.length_append]; exact h1
def cellsM (xs : List (Int × Int)) : List Value := xs.flatMap fun m => [.int .i64 m.1, .int .i64 m.2]
theorem cellsM_snoc (xs : List (Int × Int)) (m : Int × Int) : cellsM (xs ++ [m]) = cellsM xs ++ [.int .i64 m.1, .int .i64 m.2] := by simp [cellsM]
theorem cellsM_len (xs : List (Int × Int)) : (cellsM xs).length = xs.length * 2 := by
  induction xs with
  | nil => rfl
  | cons m t ih => simp only [cellsM, List.flatMap_cons, List.length_append, List.length_cons, List.length_nil] at ih ⊢; omega
theorem cellsM_at : ∀ {xs : List (Int × Int)} {j : Nat}, j < xs.length → (cellsM xs)[j * 2]? = some (.int .i64 (ml xs j).1) ∧ (cellsM xs)[j * 2 + 1]? = some (.int .i64 (ml xs j).2)
  | [], j, h => absurd h (Nat.not_lt_zero _)
  | m :: t, 0, _ => ⟨rfl, rfl⟩
  | m :: t, j + 1, h => by
    have := cellsM_at (xs := t) (j := j) (by simpa using h)
    have e1 : (j + 1) * 2 = j * 2 + 2 := by omega
    rw [e1]
    exact this
theorem mreads_own {w : World} {base n : Nat} {v : Value} {xs : List (Int × Int)} (h : w.ownsRow base 95 2 v n (cellsM xs)) (hn : n = xs.length) : MReads w v xs := by
  subst hn
  rcases h.2 with ⟨rfl, h0⟩ | ⟨g, cap, cur, rfl, _, hh, _, _, _, ht⟩
  · exact .inl ⟨List.length_eq_zero_iff.1 h0, none, 0, rfl⟩
  · refine .inr ⟨g, 0, cap, rfl, fun j hj => ?_⟩
    have h1 := cellsM_at hj
    rw [← ht, List.getElem?_take_of_lt (by omega), List.getElem?_take_of_lt (by omega)] at h1
    simp only [World.cell?, hh, Nat.zero_add]
    exact ⟨by simpa using h1.1, by simpa using h1.2⟩
theorem append_move {w : World} {ops : Array Oper} {rest : List Oper} {o : Oper} {a : Act} {Q : Exit → Act → World → Prop} (hgd : o.guard = none) (s x : Operand)
    (ho : o.op = .call { callee := .builtin .append, args := #[s, x], argTypes := #[38, 38] })
    (base : Nat) (v : Value) (xs : List (Int × Int)) (hs : a.eval s = v) (hown : w.ownsRow base 95 2 v xs.length (cellsM xs)) (g : Nat) (y : Int × Int) (hx : a.eval x = .slice (some ⟨g, 0, none⟩) 1 1)
    (hg : w.cell? ⟨g, 0, none⟩ = some (.int .i64 y.1) ∧ w.cell? ⟨g, 1, none⟩ = some (.int .i64 y.2)) (hb : xs.length ≤ 3000000) (hbase : base ≤ w.heap.size)
    (h : ∀ a' c' w', w'.ownsRow base 95 2 (.slice a' (xs.length + 1) c') (xs ++ [y]).length (cellsM (xs ++ [y])) → Below base w w' → wpList Tryz.prog ops Q rest (a.put o.dst (.slice a' (xs.length + 1) c')) w') : wpList Tryz.prog ops Q (o :: rest) a w := by
  obtain ⟨i0, hi0, hz0, hz1, hz2⟩ := info_parts move_info
  refine wpList_append_own _ hgd s x 38 ho base 95 i0 _ 2 16 Tryz.underlying38 hi0 hz0 hz1 hz2 rfl (by omega) v xs.length (cellsM xs) hs hown ⟨g, 0, none⟩ 1 1 [.int .i64 y.1, .int .i64 y.2] hx rfl
    (fun j u hu => by
      rw [add_plain, Nat.zero_add]
      match j, hu with
      | 0, hu => cases hu; exact hg.1
      | 1, hu => cases hu; exact hg.2
      | j + 2, hu => cases hu) (fun u hu => by simp at hu; rcases hu with rfl | rfl <;> rfl) (by simp only [maxLen]; omega) (by omega) hbase ?_
  intro v' w' h1 h2 _
  obtain ⟨a1, c1, rfl⟩ := own_at h1
  refine h a1 c1 w' ?_ ((Below.refl base w).grown h2 hbase (fun j ej => own_ge hown ej))
  rw [cellsM_snoc, List.length_append]; exact h1
theorem el_getD (xs : List Int) (j : Nat) : xs[j]! = Ints.el xs j := by simp [Ints.el, List.getElem!_eq_getElem?_getD]
theorem hasInt_any (xs : List Int) (v : Value) (x : Int) (w : World) (hr : Ints.Reads w v xs) (hl : xs.length ≤ 1000000) :
    Calls Tryz.prog 177 #[v, .int .i64 x] w fun e w' => e = .returned (.bool (xs.contains x)) ∧ w' = w := by
  rcases hr with ⟨rfl, a, c, rfl⟩ | ⟨b, off, c, rfl, hc⟩
  · exact (Tryz.slices_Contains_int_empty a c x w).mono fun _ _ ⟨h1, h2⟩ => ⟨by rw [h1]; rfl, h2⟩
  · refine (Tryz.slices_Contains_int b off xs.length c xs x w (Nat.le_refl _) (by omega) (fun j hj => ?_)).mono fun _ _ ⟨h1, h2⟩ => ⟨by rw [h1, List.take_length], h2⟩
    have := hc j hj
    simp only [Ints.el] at this
    rw [List.getD_eq_getElem?_getD]; exact this
theorem anyInts_any (xs : List Int) (v : Value) (p : Int → Bool) (g : Nat) (lb : Array Value) (eg : ∀ args w, (callFunc g args).run Tryz.prog w = .ok (.enter g args) w) (w : World) (hr : Ints.Reads w v xs) (hl : xs.length ≤ 1000000) (hp : PredAt Tryz.prog g lb (fun x => Value.int .i64 x) p w) :
    Calls Tryz.prog 173 #[v, .func (.func g) #[] lb] w fun e w' => e = .returned (.bool (xs.any p)) ∧ Below w.heap.size w w' := by
  rcases hr with ⟨rfl, a, c, rfl⟩ | ⟨b, off, c, rfl, hc⟩
  · exact (Tryz.slices_ContainsFunc_empty (α := Int) a c _ w).mono fun _ _ ⟨h1, h2⟩ => ⟨by rw [h1]; rfl, by rw [h2]; exact Below.refl _ _⟩
  · refine (Tryz.slices_ContainsFunc (fun x : Int => Value.int .i64 x) p g lb eg b off xs.length c xs w hp (Nat.le_refl _) (by omega) (fun j hj => by rw [el_getD]; exact hc j hj)).mono fun _ _ ⟨h1, q, h2⟩ => ⟨by rw [h1, List.take_length], by rw [h2]; exact below_draw (Below.refl _ _) q⟩
def encM (m : Int × Int) : List Value := [.int .i64 m.1, .int .i64 m.2]
theorem ml_get (xs : List (Int × Int)) (j : Nat) : xs[j]! = ml xs j := by
  unfold ml
  rw [List.getElem!_eq_getElem?_getD]
  rfl
theorem indexMoves_none (a : Option Addr) (c : Nat) (fv : Value) (w : World) :
    Calls Tryz.prog 223 #[.slice a 0 c, fv] w fun e w' => e = .returned (.int .i64 (-1)) ∧ w' = w := by
  go_enter Tryz.func223, Tryz.ntmps223
  go_wp2
  refine wp_loop_rounds 1 ?_
  rw [rounds_succ]
  go_wp2
  go_ret
  exact ⟨rfl, rfl⟩
theorem anyMoves_none (a : Option Addr) (c : Nat) (fv : Value) (w : World) :
    Calls Tryz.prog 174 #[.slice a 0 c, fv] w fun e w' => e = .returned (.bool false) ∧ w' = w := by
  go_enter Tryz.func174, Tryz.ntmps174
  go_wp2_with (go_at_call 223; refine (indexMoves_none a c fv _).mono ?_; rintro e w' ⟨rfl, rfl⟩)
  go_ret
  exact ⟨rfl, rfl⟩
theorem anyMoves_any (xs : List (Int × Int)) (v : Value) (p : Int × Int → Bool) (g : Nat) (lb : Array Value) (eg : ∀ args w, (callFunc g args).run Tryz.prog w = .ok (.enter g args) w) (w : World) (hr : MReads w v xs) (hl : xs.length ≤ 1000000)
    (hp : PredBelow Tryz.prog g lb (fun x => .agg (encM x).toArray) p w) :
    Calls Tryz.prog 174 #[v, .func (.func g) #[] lb] w fun e w' => e = .returned (.bool (xs.any p)) ∧ Below w.heap.size w w' := by
  by_cases hx : xs = []
  · subst hx
    obtain ⟨a, c, rfl⟩ := hr.shape
    exact (anyMoves_none a c _ w).mono fun _ _ ⟨h1, h2⟩ => ⟨by rw [h1]; rfl, by rw [h2]; exact Below.refl _ _⟩
  · obtain ⟨a, c, rfl⟩ := hr.shape
    obtain ⟨_, b, off, rfl, hc⟩ := hr.at hx
    have hb : b < w.heap.size := cell_lt (hc 0 (List.length_pos_iff.2 hx)).1
    have := AnyQ.slices_ContainsFunc Tryz.laysMv8 2 Tryz.isAgg95 Tryz.sizeOf95 encM (fun _ => rfl) p g lb eg b off xs.length c xs w hp (Nat.le_refl _) (by omega) hb (fun j hj i v hi => by
      have h1 := hc j hj
      rw [ml_get] at hi
      match i, hi with
      | 0, hi => simp [encM] at hi; rw [← hi]; exact h1.1
      | 1, hi => simp [encM] at hi; rw [← hi]; exact h1.2
      | i + 2, hi => simp [encM] at hi)
    rw [List.take_length] at this
    exact this
end Evt
end Go.Proofs.YtghkalamlcfnnaaGreatDoor
end
section
namespace Go.Proofs.YtghkalamlcfnnaaGreatDoor
open Go Go.RowKit Go.Shelf Go.Lib Lmd
attribute [local go_sem] Oper.semAt_some
namespace Evt
open Rul Day Cand Er
abbrev azS : ByteArray := ⟨#[97, 98, 99, 100, 101, 102, 103, 104, 105, 106, 107, 108, 109, 110, 111, 112, 113, 114, 115, 116, 117, 118, 119, 120, 121, 122, 48, 49, 50, 51, 52, 53, 54, 55, 56, 57]⟩
theorem trim_az (s : ByteArray) : (Lib.trimS s.data.toList az).isEmpty = s.data.toList.all (az.contains ·) := by
  rw [Bool.eq_iff_iff, List.isEmpty_iff, trim_nil, List.all_eq_true]
set_option maxHeartbeats 1000000 in
theorem name_any (s : ByteArray) (w : World) (hs : s.size ≤ 9223372036854775807) :
    Calls Tryz.prog 111 #[.string s] w fun e w' => e = .returned (.bool (nameB s)) ∧ Below w.heap.size w w' := by
  have hT := fun W => Any.strings_Trim_laid Tryz.lays160 (by kernel_rfl) s azS W hs (by decide) (ascii_of_all (by decide))
  change ∀ W, Calls Tryz.prog 164 _ W _ at hT
  obtain ⟨T, hTT⟩ : ∃ T, Lib.trimS s.data.toList azS.data.toList = T := ⟨_, rfl⟩
  rw [hTT] at hT
  have hq : nameB s = (decide (s.size ≠ 0) && decide (s.size ≤ 12) && T.isEmpty) := by
    unfold nameB
    rw [← trim_az, ← hTT]; rfl
  obtain ⟨q, hq1⟩ : ∃ q, nameB s = q := ⟨_, rfl⟩
  rw [hq1] at hq ⊢
  have HQ := Lib.hid hq
  have HT := Lib.hid hT
  clear hq hq1 hT hTT
  have he : s.toList.isEmpty = decide (s.size = 0) := by
    rw [ByteArray.toList_eq, Bool.eq_iff_iff, List.isEmpty_iff, decide_eq_true_eq]
    constructor
    · intro h
      show s.data.size = 0
      rw [← Array.length_toList, h]; rfl
    · intro h
      exact List.length_eq_zero_iff.1 (by rw [Array.length_toList]; exact h)
  have HE := Lib.hid he
  clear he
  cases h1 : s.toList.isEmpty with
  | true =>
    have h0 : s.size = 0 := by have := HE.out; rw [h1] at this; exact of_decide_eq_true this.symm
    go_enter Tryz.func111, Tryz.ntmps111
    go_wp2_with fail
    go_ret
    exact ⟨by rw [HQ.out, h0]; simp, Below.refl _ _⟩
  | false =>
    have h0 : ¬ s.size = 0 := by have := HE.out; rw [h1] at this; exact of_decide_eq_false this.symm
    by_cases h2 : (s.size : Int) ≤ 12
    · go_enter Tryz.func111, Tryz.ntmps111
      go_wp2_with (go_at_call 164; refine (HT.out _).mono ?_; rintro e w' ⟨rfl, hb'⟩)
      go_ret
      exact ⟨by rw [HQ.out, decide_eq_true h0, decide_eq_true (show s.size ≤ 12 by omega)]; simp, hb'⟩
    · go_enter Tryz.func111, Tryz.ntmps111
      go_wp2_with fail
      go_ret
      exact ⟨by rw [HQ.out, decide_eq_false (show ¬ s.size ≤ 12 by omega)]; simp, Below.refl _ _⟩
theorem bad_pred (w : World) : PredAt Tryz.prog 166 #[] encR badR w := fun W r _ => by
  unfold FnGives
  obtain ⟨q, hq⟩ : ∃ q, badR r = q := ⟨_, rfl⟩
  rw [hq]
  have HQ := Lib.hid hq
  clear hq
  by_cases h1 : r < 32 <;> by_cases h2 : 126 < r <;> by_cases h3 : r = 124
  all_goals
    have z1 : (r : Int) < 32 ↔ r < 32 := by omega
    have z2 : (126 : Int) < (r : Int) ↔ 126 < r := by omega
    have z3 : (r : Int) = 124 ↔ r = 124 := by omega
    go_enter Tryz.func166, Tryz.ntmps166
    go_wp2
    all_goals first | (exfalso; omega) | (go_ret; exact ⟨by rw [← HQ.out]; simp [badR, h1, h2, h3] <;> omega, 0, rfl⟩)
set_option maxHeartbeats 1000000 in
theorem title_any (s : ByteArray) (w : World) (hs : s.size ≤ 9223372036854775807) :
    Calls Tryz.prog 112 #[.string s] w fun e w' => e = .returned (.bool (titleB s)) ∧ Below w.heap.size w w' := by
  have hT := Any.strings_ContainsFunc Tryz.laysGw17 166 #[] (enters_of Tryz.func166 (by kernel_rfl) rfl) badR s w (bad_pred w)
  change Calls Tryz.prog 165 _ w _ at hT
  rw [title_iff] at hT
  obtain ⟨b, hb⟩ : ∃ b, s.data.toList.all okC = b := ⟨_, rfl⟩
  rw [hb] at hT
  have hq : titleB s = (decide (s.size ≤ 40) && b) := by rw [← hb]; rfl
  obtain ⟨q, hq1⟩ : ∃ q, titleB s = q := ⟨_, rfl⟩
  rw [hq1] at hq ⊢
  have HQ := Lib.hid hq
  have HT := Lib.hid hT
  clear hq hq1 hT hb
  by_cases h1 : (s.size : Int) ≤ 40
  · go_enter Tryz.func112, Tryz.ntmps112
    go_wp2_with (go_at_call 165; refine HT.out.mono ?_; rintro e w' ⟨rfl, hb'⟩)
    go_ret
    exact ⟨by rw [HQ.out, decide_eq_true (show s.size ≤ 40 by omega)]; simp, hb'⟩
  · go_enter Tryz.func112, Tryz.ntmps112
    go_wp2_with fail
    go_ret
    exact ⟨by rw [HQ.out, decide_eq_false (show ¬ s.size ≤ 40 by omega)]; simp, Below.refl _ _⟩
set_option maxRecDepth 100000 in
set_option maxHeartbeats 2000000 in
theorem rising_any (xs : List Int) (v : Value) (w : World) (hr : Ints.Reads w v xs) (hl : xs.length ≤ 1000000) :
    Calls Tryz.prog 172 #[v] w fun e w' => e = .returned (.bool (riseB xs)) ∧ Below w.heap.size w w' := by
  obtain ⟨a, cap, rfl⟩ := hr.shape
  have HR := Lib.hid hr
  clear hr
  go_enter Tryz.func172, Tryz.ntmps172
  go_wp2_with fail
  go_loopw [3] (fun i wr => ∃ (k m : Nat), (k = 0 ∨ k < xs.length) ∧ i = .int .i64 ((k : Int) + 1) ∧ wr = w.drewN m ∧ ∀ j, j < k → Ints.el xs j < Ints.el xs (j + 1)) (fun i _ => xs.length + 1 - (intOf i).toNat)
  case atStart => exact ⟨0, 0, Or.inl rfl, rfl, rfl, fun _ h => absurd h (Nat.not_lt_zero _)⟩
  case round =>
    obtain ⟨k, m, hk, rfl, rfl, hs⟩ := hrel
    have HSo := Lib.hid hs
    clear hs
    by_cases hlt : k + 1 < xs.length
    · obtain ⟨_, b, o, ha, hc⟩ := HR.out.at (by rintro rfl; exact absurd hlt (Nat.not_lt_zero _))
      subst ha
      have c1 : (w.drewN m).cell? ⟨b, o + (k + 1), none⟩ = some (.int .i64 (Ints.el xs (k + 1))) := by exact hc (k + 1) hlt
      have c2 : (w.drewN m).cell? ⟨b, o + k, none⟩ = some (.int .i64 (Ints.el xs k)) := by exact hc k (by omega)
      have hi1 : (k : Int) + 1 < (xs.length : Int) := by omega
      by_cases hq : Ints.el xs (k + 1) ≤ Ints.el xs k
      · have hb := decide_eq_true hq
        have HQ1 := Lib.hid hq
        clear hq
        go_wp2
        go_quiet (fail)
        go_wp2
        go_ret
        exact ⟨by rw [rise_no hlt HQ1.out]; rfl, below_draw (below_drewN (Below.refl _ _) m) _⟩
      · have hb := decide_eq_false hq
        have HQ1 := Lib.hid hq
        clear hq
        go_wp2
        go_quiet (fail)
        go_wp2
        go_roundw
        case rel => exact ⟨k + 1, _, Or.inr hlt, by go_num, rfl, fun j hj => by
          by_cases ej : j = k
          · subst ej; exact HQ1.out
          · exact HSo.out j (by omega)⟩
        case measure => simp [intOf]; omega
    · have hi1 : (xs.length : Int) ≤ (k : Int) + 1 := by omega
      go_wp2
      go_ret
      exact ⟨by rw [rise_yes (show xs.length ≤ k + 1 by omega) HSo.out]; rfl, below_drewN (Below.refl _ _) m⟩
end Evt
end Go.Proofs.YtghkalamlcfnnaaGreatDoor
end
section
namespace Go.Proofs.YtghkalamlcfnnaaGreatDoor
open Go Go.RowKit Go.Shelf Lmd
namespace Cand
open Rul Day Er
theorem rise_pairwise {xs : List Int} (h : riseB xs = true) : xs.Pairwise (· < ·) := by
  unfold riseB at h
  rw [List.all_eq_true] at h
  have hk : ∀ i, i + 1 < xs.length → Ints.el xs i < Ints.el xs (i + 1) := fun i hi => by
    have := h i (List.mem_range.2 (by omega))
    simpa using this
  clear h
  have hd : ∀ j i, i < j → j < xs.length → Ints.el xs i < Ints.el xs j := by
    intro j
    induction j with
    | zero => intro i h; omega
    | succ j ih =>
      intro i h hj
      by_cases e : i = j
      · subst e; exact hk i hj
      · exact Int.lt_trans (ih i (by omega) (by omega)) (hk j hj)
  rw [List.pairwise_iff_getElem]
  intro i j hi hj hij
  have := hd j i hij hj
  simpa [Ints.el, List.getD_eq_getElem?_getD, hi, hj] using this
end Cand
namespace Evt
theorem grow_old {w : World} {os : Array Obj} {k : Nat} (h : k < w.heap.size) : (Sort.grow w os).heap[k]? = w.heap[k]? := by
  show (w.heap ++ os)[k]? = _
  rw [Array.getElem?_append_left h]
theorem grow_nil (w : World) : Sort.grow w #[] = w := by cases w; simp [Sort.grow]
theorem row_lt {w : World} {g : Nat} {o : Obj} (h : w.heap[g]? = some o) : g < w.heap.size := (Array.getElem?_eq_some_iff.1 h).1
end Evt
end Go.Proofs.YtghkalamlcfnnaaGreatDoor
end
