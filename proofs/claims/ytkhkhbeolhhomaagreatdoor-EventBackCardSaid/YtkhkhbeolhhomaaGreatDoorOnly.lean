/- One block alone is written: what stays; an event's row written whole. -/
import Derived.Test.YtkhkhbeolhhomaaGreatDoorEvOwn
import Derived.Test.YtkhkhbeolhhomaaGreatDoorFarB
namespace Go.Proofs.YtkhkhbeolhhomaaGreatDoor
open Go Go.RowKit Go.Shelf Lmd
namespace Evt
open Rul Day Cand Er Tp

/-- a slice whose elements lie in another block -/
def Off (b : Nat) (v : Value) : Prop := ∀ g o n c, v = .slice (some ⟨g, o, none⟩) n c → n ≠ 0 → g ≠ b
theorem off_nil (b : Nat) : Off b (.slice none 0 0) := fun g o n c h => by cases h
theorem off_from {B b : Nat} {v : Value} (h : From B v) (hb : b < B) : Off b v := fun g o n c e _ => by
  have := h g (by rw [e]; rfl); omega
theorem reads_off {w : World} {v u : Value} {xs : List Int} {b i : Nat} (h : Ints.Reads w v xs) (hf : Off b v) : Ints.Reads (w.setCell ⟨b, i, none⟩ u) v xs := by
  rcases h with h | ⟨g, off, c, rfl, hc⟩
  · exact .inl h
  · by_cases hx : xs.length = 0
    · obtain rfl : xs = [] := List.length_eq_zero_iff.1 hx
      exact .inl ⟨rfl, _, _, rfl⟩
    · have hne : g ≠ b := hf g off _ c rfl hx
      refine .inr ⟨g, off, c, rfl, fun j hj => ?_⟩
      have := hc j hj
      simp only [World.cell?] at this ⊢
      rw [row_far (p := ⟨b, i, none⟩) hne]; exact this
theorem mreads_off {w : World} {v u : Value} {xs : List (Int × Int)} {b i : Nat} (h : MReads w v xs) (hf : Off b v) : MReads (w.setCell ⟨b, i, none⟩ u) v xs := by
  rcases h with h | ⟨g, off, c, rfl, hc⟩
  · exact .inl h
  · by_cases hx : xs.length = 0
    · obtain rfl : xs = [] := List.length_eq_zero_iff.1 hx
      exact .inl ⟨rfl, _, _, rfl⟩
    · have hne : g ≠ b := hf g off _ c rfl hx
      refine .inr ⟨g, off, c, rfl, fun j hj => ?_⟩
      have := hc j hj
      simp only [World.cell?] at this ⊢
      rw [row_far (p := ⟨b, i, none⟩) hne]; exact this
/-- only block b is written -/
structure Only (b : Nat) (W W' : World) : Prop where
  os : W'.os = W.os
  tape : W'.tape = W.tape
  output : W'.output = W.output
  size : W'.heap.size = W.heap.size
  block : ∀ k, k ≠ b → W'.heap[k]? = W.heap[k]?
theorem Only.refl (b : Nat) (W : World) : Only b W W := ⟨rfl, rfl, rfl, rfl, fun _ _ => rfl⟩
theorem Only.trans {b : Nat} {A B C : World} (h : Only b A B) (k : Only b B C) : Only b A C :=
  ⟨k.os.trans h.os, k.tape.trans h.tape, k.output.trans h.output, k.size.trans h.size, fun j hj => (k.block j hj).trans (h.block j hj)⟩
theorem Only.set {b : Nat} {W W' : World} (h : Only b W W') (i : Nat) (u : Value) : Only b W (W'.setCell ⟨b, i, none⟩ u) :=
  ⟨h.os, h.tape, h.output, by rw [← h.size]; simp [World.setCell], fun k hk => by rw [row_far (p := ⟨b, i, none⟩) hk]; exact h.block k hk⟩
theorem Only.below {b B : Nat} {W W' : World} (h : Only b W W') (hb : B ≤ b) : Below B W W' := ⟨h.os, h.tape, h.output, Nat.le_of_eq h.size.symm, fun k hk => h.block k (by omega)⟩
theorem Only.far {b : Nat} {W W' : World} (h : Only b W W') : Far (fun k => k = b) W W' := ⟨h.os, h.tape, h.output, Nat.le_of_eq h.size.symm, fun k _ hk => h.block k hk⟩
theorem Only.reads {b : Nat} {W W' : World} (h : Only b W W') {v : Value} {xs : List Int} (hr : Ints.Reads W v xs) (hf : Off b v) : Ints.Reads W' v xs := by
  rcases hr with hr | ⟨g, off, c, rfl, hc⟩
  · exact .inl hr
  · by_cases hx : xs.length = 0
    · obtain rfl : xs = [] := List.length_eq_zero_iff.1 hx
      exact .inl ⟨rfl, _, _, rfl⟩
    · have hne : g ≠ b := hf g off _ c rfl hx
      refine .inr ⟨g, off, c, rfl, fun j hj => ?_⟩
      have := hc j hj
      simp only [World.cell?] at this ⊢
      rw [h.block g hne]; exact this
theorem Only.mreads {b : Nat} {W W' : World} (h : Only b W W') {v : Value} {xs : List (Int × Int)} (hr : MReads W v xs) (hf : Off b v) : MReads W' v xs := by
  rcases hr with hr | ⟨g, off, c, rfl, hc⟩
  · exact .inl hr
  · by_cases hx : xs.length = 0
    · obtain rfl : xs = [] := List.length_eq_zero_iff.1 hx
      exact .inl ⟨rfl, _, _, rfl⟩
    · have hne : g ≠ b := hf g off _ c rfl hx
      refine .inr ⟨g, off, c, rfl, fun j hj => ?_⟩
      have := hc j hj
      simp only [World.cell?] at this ⊢
      rw [h.block g hne]; exact this
theorem Only.rv {b : Nat} {W W' : World} (h : Only b W W') {e : Ev} {vd vs vm : Value} (hr : Rv W e vd vs vm) (o1 : Off b vd) (o2 : Off b vs) (o3 : Off b vm) : Rv W' e vd vs vm :=
  ⟨h.reads hr.d o1, h.reads hr.s o2, h.mreads hr.m o3⟩
/-- eleven cells -/
abbrev put11 (W : World) (b : Nat) (a0 a1 a2 a3 a4 a5 a6 a7 a8 a9 a10 : Value) : World := ((((((((((W.setCell ⟨b, 0, none⟩ a0).setCell ⟨b, 1, none⟩ a1).setCell ⟨b, 2, none⟩ a2).setCell ⟨b, 3, none⟩ a3).setCell ⟨b, 4, none⟩ a4).setCell ⟨b, 5, none⟩ a5).setCell ⟨b, 6, none⟩ a6).setCell ⟨b, 7, none⟩ a7).setCell ⟨b, 8, none⟩ a8).setCell ⟨b, 9, none⟩ a9).setCell ⟨b, 10, none⟩ a10
theorem put11_row {W : World} {b : Nat} {c0 c1 c2 c3 c4 c5 c6 c7 c8 c9 c10 : Value} {t : TypeId} (h : W.heap[b]? = some (.cells #[c0, c1, c2, c3, c4, c5, c6, c7, c8, c9, c10] t (0, 0))) {a0 a1 a2 a3 a4 a5 a6 a7 a8 a9 a10 : Value} : (put11 W b a0 a1 a2 a3 a4 a5 a6 a7 a8 a9 a10).heap[b]? = some (.cells #[a0, a1, a2, a3, a4, a5, a6, a7, a8, a9, a10] t (0, 0)) := by
  have r1 : (W.setCell ⟨b, 0, none⟩ a0).heap[b]? = some (.cells #[a0, c1, c2, c3, c4, c5, c6, c7, c8, c9, c10] t (0, 0)) := row_set h 0 a0
  have r2 : ((W.setCell ⟨b, 0, none⟩ a0).setCell ⟨b, 1, none⟩ a1).heap[b]? = some (.cells #[a0, a1, c2, c3, c4, c5, c6, c7, c8, c9, c10] t (0, 0)) := row_set r1 1 a1
  have r3 : (((W.setCell ⟨b, 0, none⟩ a0).setCell ⟨b, 1, none⟩ a1).setCell ⟨b, 2, none⟩ a2).heap[b]? = some (.cells #[a0, a1, a2, c3, c4, c5, c6, c7, c8, c9, c10] t (0, 0)) := row_set r2 2 a2
  have r4 : ((((W.setCell ⟨b, 0, none⟩ a0).setCell ⟨b, 1, none⟩ a1).setCell ⟨b, 2, none⟩ a2).setCell ⟨b, 3, none⟩ a3).heap[b]? = some (.cells #[a0, a1, a2, a3, c4, c5, c6, c7, c8, c9, c10] t (0, 0)) := row_set r3 3 a3
  have r5 : (((((W.setCell ⟨b, 0, none⟩ a0).setCell ⟨b, 1, none⟩ a1).setCell ⟨b, 2, none⟩ a2).setCell ⟨b, 3, none⟩ a3).setCell ⟨b, 4, none⟩ a4).heap[b]? = some (.cells #[a0, a1, a2, a3, a4, c5, c6, c7, c8, c9, c10] t (0, 0)) := row_set r4 4 a4
  have r6 : ((((((W.setCell ⟨b, 0, none⟩ a0).setCell ⟨b, 1, none⟩ a1).setCell ⟨b, 2, none⟩ a2).setCell ⟨b, 3, none⟩ a3).setCell ⟨b, 4, none⟩ a4).setCell ⟨b, 5, none⟩ a5).heap[b]? = some (.cells #[a0, a1, a2, a3, a4, a5, c6, c7, c8, c9, c10] t (0, 0)) := row_set r5 5 a5
  have r7 : (((((((W.setCell ⟨b, 0, none⟩ a0).setCell ⟨b, 1, none⟩ a1).setCell ⟨b, 2, none⟩ a2).setCell ⟨b, 3, none⟩ a3).setCell ⟨b, 4, none⟩ a4).setCell ⟨b, 5, none⟩ a5).setCell ⟨b, 6, none⟩ a6).heap[b]? = some (.cells #[a0, a1, a2, a3, a4, a5, a6, c7, c8, c9, c10] t (0, 0)) := row_set r6 6 a6
  have r8 : ((((((((W.setCell ⟨b, 0, none⟩ a0).setCell ⟨b, 1, none⟩ a1).setCell ⟨b, 2, none⟩ a2).setCell ⟨b, 3, none⟩ a3).setCell ⟨b, 4, none⟩ a4).setCell ⟨b, 5, none⟩ a5).setCell ⟨b, 6, none⟩ a6).setCell ⟨b, 7, none⟩ a7).heap[b]? = some (.cells #[a0, a1, a2, a3, a4, a5, a6, a7, c8, c9, c10] t (0, 0)) := row_set r7 7 a7
  have r9 : (((((((((W.setCell ⟨b, 0, none⟩ a0).setCell ⟨b, 1, none⟩ a1).setCell ⟨b, 2, none⟩ a2).setCell ⟨b, 3, none⟩ a3).setCell ⟨b, 4, none⟩ a4).setCell ⟨b, 5, none⟩ a5).setCell ⟨b, 6, none⟩ a6).setCell ⟨b, 7, none⟩ a7).setCell ⟨b, 8, none⟩ a8).heap[b]? = some (.cells #[a0, a1, a2, a3, a4, a5, a6, a7, a8, c9, c10] t (0, 0)) := row_set r8 8 a8
  have r10 : ((((((((((W.setCell ⟨b, 0, none⟩ a0).setCell ⟨b, 1, none⟩ a1).setCell ⟨b, 2, none⟩ a2).setCell ⟨b, 3, none⟩ a3).setCell ⟨b, 4, none⟩ a4).setCell ⟨b, 5, none⟩ a5).setCell ⟨b, 6, none⟩ a6).setCell ⟨b, 7, none⟩ a7).setCell ⟨b, 8, none⟩ a8).setCell ⟨b, 9, none⟩ a9).heap[b]? = some (.cells #[a0, a1, a2, a3, a4, a5, a6, a7, a8, a9, c10] t (0, 0)) := row_set r9 9 a9
  have r11 : (((((((((((W.setCell ⟨b, 0, none⟩ a0).setCell ⟨b, 1, none⟩ a1).setCell ⟨b, 2, none⟩ a2).setCell ⟨b, 3, none⟩ a3).setCell ⟨b, 4, none⟩ a4).setCell ⟨b, 5, none⟩ a5).setCell ⟨b, 6, none⟩ a6).setCell ⟨b, 7, none⟩ a7).setCell ⟨b, 8, none⟩ a8).setCell ⟨b, 9, none⟩ a9).setCell ⟨b, 10, none⟩ a10).heap[b]? = some (.cells #[a0, a1, a2, a3, a4, a5, a6, a7, a8, a9, a10] t (0, 0)) := row_set r10 10 a10
  exact r11
theorem heap_drew (W : World) : W.drew.heap = W.heap := rfl
theorem put11_rowD {W : World} {b : Nat} {c0 c1 c2 c3 c4 c5 c6 c7 c8 c9 c10 : Value} {t : TypeId} (h : W.heap[b]? = some (.cells #[c0, c1, c2, c3, c4, c5, c6, c7, c8, c9, c10] t (0, 0))) {a0 a1 a2 a3 a4 a5 a6 a7 a8 a9 a10 : Value} : (put11 W b a0 a1 a2 a3 a4 a5 a6 a7 a8 a9 a10).drew.heap[b]? = some (.cells #[a0, a1, a2, a3, a4, a5, a6, a7, a8, a9, a10] t (0, 0)) := by
  rw [heap_drew]; exact put11_row h
theorem put11_only (W : World) (b : Nat) (a0 a1 a2 a3 a4 a5 a6 a7 a8 a9 a10 : Value) : Only b W (put11 W b a0 a1 a2 a3 a4 a5 a6 a7 a8 a9 a10) := (((((((((((Only.refl b W).set 0 _).set 1 _).set 2 _).set 3 _).set 4 _).set 5 _).set 6 _).set 7 _).set 8 _).set 9 _).set 10 _
/-- a slice's elements lie in blocks that are there -/
theorem off_reads {W : World} {v : Value} {xs : List Int} (h : Ints.Reads W v xs) {b : Nat} (hb : W.heap.size ≤ b) : Off b v := by
  rintro g o n c rfl hn
  have := reads_lt h rfl hn
  omega
theorem off_mreads {W : World} {v : Value} {xs : List (Int × Int)} (h : MReads W v xs) {b : Nat} (hb : W.heap.size ≤ b) : Off b v := by
  rintro g o n c rfl hn
  rcases h with ⟨_, a, c', e⟩ | ⟨g', off, c', e, hc⟩
  · cases e; exact absurd rfl hn
  · cases e
    have h0 := (hc 0 (by omega)).1
    have := cell_lt h0
    have h2 : g < W.heap.size := this
    omega
abbrev zeroV : Array Value := #[.string ⟨#[]⟩, .string ⟨#[]⟩, .int .i64 0, .int .i64 0, .string ⟨#[]⟩, .int .i64 0, .slice none 0 0, .int .i64 0, .int .i64 0, .slice none 0 0, .slice none 0 0]
/-- an event in a box, and a box behind it -/
structure Two (w W : World) (e : Ev) (vd vs vm : Value) : Prop where
  low : Below w.heap.size w W
  top : w.heap.size + 1 < W.heap.size
  ev : W.heap[w.heap.size]? = some (.cells (e.cells vd vs vm) 38)
  res : W.heap[w.heap.size + 1]? = some (.cells zeroV 38)
theorem Two.below {w W W' : World} {e : Ev} {vd vs vm : Value} (h : Two w W e vd vs vm) (hb : Below W.heap.size W W') : Two w W' e vd vs vm :=
  ⟨h.low.trans (hb.mono h.low.size), by have := hb.size; have := h.top; omega, row_below h.ev hb, row_below h.res hb⟩
theorem Two.set {w W : World} {e e' : Ev} {vd vs vm vd' vs' vm' u : Value} {i : Nat} (h : Two w W e vd vs vm) (he : (e.cells vd vs vm).setIfInBounds i u = e'.cells vd' vs' vm') : Two w (W.setCell ⟨w.heap.size, i, none⟩ u) e' vd' vs' vm' := by
  refine ⟨h.low.setCell (p := ⟨w.heap.size, i, none⟩) (Nat.le_refl _) _, by simpa [World.setCell] using h.top, ?_, ?_⟩
  · rw [row_set h.ev i u, he]
  · rw [row_far (by show w.heap.size + 1 ≠ w.heap.size; omega)]; exact h.res
theorem far_reads {b : Nat} {w w' : World} (h : Far (fun k => k = b) w w') {v : Value} {xs : List Int} (hr : Ints.Reads w v xs) (hf : Off b v) : Ints.Reads w' v xs := by
  rcases hr with hr | ⟨g, off, c, rfl, hc⟩
  · exact .inl hr
  · by_cases hx : xs.length = 0
    · obtain rfl : xs = [] := List.length_eq_zero_iff.1 hx
      exact .inl ⟨rfl, _, _, rfl⟩
    · have hne : g ≠ b := hf g off _ c rfl hx
      have hlt : g < w.heap.size := reads_lt (.inr ⟨g, off, c, rfl, hc⟩) rfl hx
      refine .inr ⟨g, off, c, rfl, fun j hj => ?_⟩
      have := hc j hj
      simp only [World.cell?] at this ⊢
      rw [h.block g hlt hne]; exact this
theorem far_mreads {b : Nat} {w w' : World} (h : Far (fun k => k = b) w w') {v : Value} {xs : List (Int × Int)} (hr : MReads w v xs) (hf : Off b v) : MReads w' v xs := by
  rcases hr with hr | ⟨g, off, c, rfl, hc⟩
  · exact .inl hr
  · by_cases hx : xs.length = 0
    · obtain rfl : xs = [] := List.length_eq_zero_iff.1 hx
      exact .inl ⟨rfl, _, _, rfl⟩
    · have hne : g ≠ b := hf g off _ c rfl hx
      have hlt : g < w.heap.size := by
        have h0 := (hc 0 (by omega)).1
        exact cell_lt h0
      refine .inr ⟨g, off, c, rfl, fun j hj => ?_⟩
      have := hc j hj
      simp only [World.cell?] at this ⊢
      rw [h.block g hlt hne]; exact this
theorem far_cell {b : Nat} {w w' : World} (h : Far (fun k => k = b) w w') {q : Addr} {u : Value} (hc : w.cell? q = some u) (hb : q.block ≠ b) : w'.cell? q = some u := by
  have hlt := cell_lt hc
  simp only [World.cell?] at hc ⊢
  rw [h.block q.block hlt hb]; exact hc
theorem far_low {S : Nat → Prop} {w a c : World} (h : Far S w a) (hb : Below w.heap.size a c) : Far S w c :=
  ⟨hb.os.trans h.os, hb.tape.trans h.tape, hb.output.trans h.output, Nat.le_trans h.size hb.size, fun k hk hs => (hb.block k hk).trans (h.block k hk hs)⟩
theorem Rv.as {W : World} {e e' : Ev} {vd vs vm : Value} (h : Rv W e vd vs vm) (h1 : e.ru.ds = e'.ru.ds) (h2 : e.sk = e'.sk) (h3 : e.mv = e'.mv) : Rv W e' vd vs vm := ⟨h1 ▸ h.d, h2 ▸ h.s, h3 ▸ h.m⟩
theorem Rv.off {W : World} {b i : Nat} {e : Ev} {vd vs vm u : Value} (h : Rv W e vd vs vm) (o1 : Off b vd) (o2 : Off b vs) (o3 : Off b vm) : Rv (W.setCell ⟨b, i, none⟩ u) e vd vs vm :=
  ⟨reads_off h.d o1, reads_off h.s o2, mreads_off h.m o3⟩
end Evt
end Go.Proofs.YtkhkhbeolhhomaaGreatDoor
