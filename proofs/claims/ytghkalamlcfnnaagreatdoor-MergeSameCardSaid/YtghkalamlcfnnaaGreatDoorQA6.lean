/- FarB, Only, BkW: texts joined. -/
import Derived.Test.YtghkalamlcfnnaaGreatDoorQNumPlain
import Derived.IntWalk
import Derived.Maps.AppendAt
import Derived.Test.YtghkalamlcfnnaaGreatDoorQEvOwn
import Derived.Test.YtghkalamlcfnnaaGreatDoorQA4
import Derived.Test.YtghkalamlcfnnaaGreatDoorQEvLists
import Derived.Maps.OwnSet
import Derived.Maps.Ext
import Derived.Sort.KeysCollected
section
namespace Go.Proofs.YtghkalamlcfnnaaGreatDoor
open Go Go.RowKit Lmd
namespace Tp
open Rul Day Cand
theorem mk_cat (a b : List UInt8) : mk a ++ mk b = mk (a ++ b) := cat a b
theorem own_later {w w' : World} {base : Nat} {e : TypeId} {v : Value} {n : Nat} {xs : List Value} (h : w.ownsRow base e 1 v n xs) (hb : Below w.heap.size w w') : w'.ownsRow base e 1 v n xs := by
  refine h.kept (row := none) ⟨hb.os, hb.tape, hb.output, hb.size, fun k hk _ => hb.block k hk⟩ ?_
  cases hv : v.ownBlock with
  | none => exact .inl rfl
  | some k => exact .inr (by simp)
theorem below_drew {B : Nat} {a w : World} (h : Below B a w) : Below B a w.drew := below_draw h 1
structure Far (S : Nat → Prop) (w w' : World) : Prop where
  os : w'.os = w.os
  tape : w'.tape = w.tape
  output : w'.output = w.output
  size : w.heap.size ≤ w'.heap.size
  block : ∀ k, k < w.heap.size → ¬ S k → w'.heap[k]? = w.heap[k]?
theorem Far.refl (S : Nat → Prop) (w : World) : Far S w w := ⟨rfl, rfl, rfl, Nat.le_refl _, fun _ _ _ => rfl⟩
theorem Far.trans {S : Nat → Prop} {a b c : World} (h : Far S a b) (k : Far S b c) : Far S a c :=
  ⟨k.os.trans h.os, k.tape.trans h.tape, k.output.trans h.output, Nat.le_trans h.size k.size, fun j hj hs => (k.block j (Nat.lt_of_lt_of_le hj h.size) hs).trans (h.block j hj hs)⟩
theorem Far.below {S : Nat → Prop} {w w' : World} {B : Nat} (h : Far S w w') (hS : ∀ k, S k → B ≤ k) (hB : B ≤ w.heap.size) : Below B w w' :=
  ⟨h.os, h.tape, h.output, h.size, fun k hk => h.block k (by omega) (fun hs => by have := hS k hs; omega)⟩
theorem Far.set {S : Nat → Prop} {w w' : World} (h : Far S w w') {p : Addr} (hp : S p.block) (v : Value) : Far S w (w'.setCell p v) :=
  ⟨h.os, h.tape, h.output, by simpa [World.setCell] using h.size, fun k hk hs => by
    rw [Below.heap_setCell _ _ _ _ (fun e => hs (by rw [e]; exact hp))]; exact h.block k hk hs⟩
theorem Far.drew {S : Nat → Prop} {w w' : World} (h : Far S w.drew w') : Far S w w' := ⟨h.os, h.tape, h.output, h.size, h.block⟩
theorem Far.of_below {S : Nat → Prop} {w w' : World} (h : Below w.heap.size w w') : Far S w w' := ⟨h.os, h.tape, h.output, h.size, fun k hk _ => h.block k hk⟩
end Tp
end Go.Proofs.YtghkalamlcfnnaaGreatDoor
end
section
namespace Go.Proofs.YtghkalamlcfnnaaGreatDoor
open Go Go.RowKit Go.Shelf Lmd
namespace Evt
open Rul Day Cand Er Tp
def Off (b : Nat) (v : Value) : Prop := ∀ g o n c, v = .slice (some ⟨g, o, none⟩) n c → n ≠ 0 → g ≠ b
theorem off_nil (b : Nat) : Off b (.slice none 0 0) := fun g o n c h => by cases h
theorem off_from {B b : Nat} {v : Value} (h : From B v) (hb : b < B) : Off b v := fun g o n c e _ => by
  have := h g (by rw [e]; rfl); omega
theorem reads_off {w : World} {v u : Value} {xs : List Int} {b i : Nat} (h : Ints.Reads w v xs) (hf : Off b v) : Ints.Reads (w.setCell ⟨b, i, none⟩ u) v xs := by
  rcases h with h | ⟨g, off, c, rfl, hc⟩
  · exact .inl h
  · by_cases hx : xs.length = 0
    · obtain rfl : xs = [] := List.length_eq_zero_iff.1 hx
      exact .inl ⟨rfl, _, _, rfl⟩
    · have hne : g ≠ b := hf g off _ c rfl hx
      refine .inr ⟨g, off, c, rfl, fun j hj => ?_⟩
      have := hc j hj
      simp only [World.cell?] at this ⊢
      rw [row_far (p := ⟨b, i, none⟩) hne]; exact this
theorem mreads_off {w : World} {v u : Value} {xs : List (Int × Int)} {b i : Nat} (h : MReads w v xs) (hf : Off b v) : MReads (w.setCell ⟨b, i, none⟩ u) v xs := by
  rcases h with h | ⟨g, off, c, rfl, hc⟩
  · exact .inl h
  · by_cases hx : xs.length = 0
    · obtain rfl : xs = [] := List.length_eq_zero_iff.1 hx
      exact .inl ⟨rfl, _, _, rfl⟩
    · have hne : g ≠ b := hf g off _ c rfl hx
      refine .inr ⟨g, off, c, rfl, fun j hj => ?_⟩
      have := hc j hj
      simp only [World.cell?] at this ⊢
      rw [row_far (p := ⟨b, i, none⟩) hne]; exact this
structure Only (b : Nat) (W W' : World) : Prop where
  os : W'.os = W.os
  tape : W'.tape = W.tape
  output : W'.output = W.output
  size : W'.heap.size = W.heap.size
  block : ∀ k, k ≠ b → W'.heap[k]? = W.heap[k]?
theorem Only.refl (b : Nat) (W : World) : Only b W W := ⟨rfl, rfl, rfl, rfl, fun _ _ => rfl⟩
theorem Only.trans {b : Nat} {A B C : World} (h : Only b A B) (k : Only b B C) : Only b A C :=
  ⟨k.os.trans h.os, k.tape.trans h.tape, k.output.trans h.output, k.size.trans h.size, fun j hj => (k.block j hj).trans (h.block j hj)⟩
theorem Only.set {b : Nat} {W W' : World} (h : Only b W W') (i : Nat) (u : Value) : Only b W (W'.setCell ⟨b, i, none⟩ u) :=
  ⟨h.os, h.tape, h.output, by rw [← h.size]; simp [World.setCell], fun k hk => by rw [row_far (p := ⟨b, i, none⟩) hk]; exact h.block k hk⟩
theorem Only.below {b B : Nat} {W W' : World} (h : Only b W W') (hb : B ≤ b) : Below B W W' := ⟨h.os, h.tape, h.output, Nat.le_of_eq h.size.symm, fun k hk => h.block k (by omega)⟩
theorem Only.far {b : Nat} {W W' : World} (h : Only b W W') : Far (fun k => k = b) W W' := ⟨h.os, h.tape, h.output, Nat.le_of_eq h.size.symm, fun k _ hk => h.block k hk⟩
theorem Only.reads {b : Nat} {W W' : World} (h : Only b W W') {v : Value} {xs : List Int} (hr : Ints.Reads W v xs) (hf : Off b v) : Ints.Reads W' v xs := by
  rcases hr with hr | ⟨g, off, c, rfl, hc⟩
  · exact .inl hr
  · by_cases hx : xs.length = 0
    · obtain rfl : xs = [] := List.length_eq_zero_iff.1 hx
      exact .inl ⟨rfl, _, _, rfl⟩
    · have hne : g ≠ b := hf g off _ c rfl hx
      refine .inr ⟨g, off, c, rfl, fun j hj => ?_⟩
      have := hc j hj
      simp only [World.cell?] at this ⊢
      rw [h.block g hne]; exact this
theorem Only.mreads {b : Nat} {W W' : World} (h : Only b W W') {v : Value} {xs : List (Int × Int)} (hr : MReads W v xs) (hf : Off b v) : MReads W' v xs := by
  rcases hr with hr | ⟨g, off, c, rfl, hc⟩
  · exact .inl hr
  · by_cases hx : xs.length = 0
    · obtain rfl : xs = [] := List.length_eq_zero_iff.1 hx
      exact .inl ⟨rfl, _, _, rfl⟩
    · have hne : g ≠ b := hf g off _ c rfl hx
      refine .inr ⟨g, off, c, rfl, fun j hj => ?_⟩
      have := hc j hj
      simp only [World.cell?] at this ⊢
      rw [h.block g hne]; exact this
theorem Only.rv {b : Nat} {W W' : World} (h : Only b W W') {e : Ev} {vd vs vm : Value} (hr : Rv W e vd vs vm) (o1 : Off b vd) (o2 : Off b vs) (o3 : Off b vm) : Rv W' e vd vs vm :=
  ⟨h.reads hr.d o1, h.reads hr.s o2, h.mreads hr.m o3⟩
abbrev put11 (W : World) (b : Nat) (a0 a1 a2 a3 a4 a5 a6 a7 a8 a9 a10 : Value) : World := ((((((((((W.setCell ⟨b, 0, none⟩ a0).setCell ⟨b, 1, none⟩ a1).setCell ⟨b, 2, none⟩ a2).setCell ⟨b, 3, none⟩ a3).setCell ⟨b, 4, none⟩ a4).setCell ⟨b, 5, none⟩ a5).setCell ⟨b, 6, none⟩ a6).setCell ⟨b, 7, none⟩ a7).setCell ⟨b, 8, none⟩ a8).setCell ⟨b, 9, none⟩ a9).setCell ⟨b, 10, none⟩ a10
theorem put11_row {W : World} {b : Nat} {c0 c1 c2 c3 c4 c5 c6 c7 c8 c9 c10 : Value} {t : TypeId} (h : W.heap[b]? = some (.cells #[c0, c1, c2, c3, c4, c5, c6, c7, c8, c9, c10] t (0, 0))) {a0 a1 a2 a3 a4 a5 a6 a7 a8 a9 a10 : Value} : (put11 W b a0 a1 a2 a3 a4 a5 a6 a7 a8 a9 a10).heap[b]? = some (.cells #[a0, a1, a2, a3, a4, a5, a6, a7, a8, a9, a10] t (0, 0)) := by
  have r1 : (W.setCell ⟨b, 0, none⟩ a0).heap[b]? = some (.cells #[a0, c1, c2, c3, c4, c5, c6, c7, c8, c9, c10] t (0, 0)) := row_set h 0 a0
  have r2 : ((W.setCell ⟨b, 0, none⟩ a0).setCell ⟨b, 1, none⟩ a1).heap[b]? = some (.cells #[a0, a1, c2, c3, c4, c5, c6, c7, c8, c9, c10] t (0, 0)) := row_set r1 1 a1
  have r3 : (((W.setCell ⟨b, 0, none⟩ a0).setCell ⟨b, 1, none⟩ a1).setCell ⟨b, 2, none⟩ a2).heap[b]? = some (.cells #[a0, a1, a2, c3, c4, c5, c6, c7, c8, c9, c10] t (0, 0)) := row_set r2 2 a2
  have r4 : ((((W.setCell ⟨b, 0, none⟩ a0).setCell ⟨b, 1, none⟩ a1).setCell ⟨b, 2, none⟩ a2).setCell ⟨b, 3, none⟩ a3).heap[b]? = some (.cells #[a0, a1, a2, a3, c4, c5, c6, c7, c8, c9, c10] t (0, 0)) := row_set r3 3 a3
  have r5 : (((((W.setCell ⟨b, 0, none⟩ a0).setCell ⟨b, 1, none⟩ a1).setCell ⟨b, 2, none⟩ a2).setCell ⟨b, 3, none⟩ a3).setCell ⟨b, 4, none⟩ a4).heap[b]? = some (.cells #[a0, a1, a2, a3, a4, c5, c6, c7, c8, c9, c10] t (0, 0)) := row_set r4 4 a4
  have r6 : ((((((W.setCell ⟨b, 0, none⟩ a0).setCell ⟨b, 1, none⟩ a1).setCell ⟨b, 2, none⟩ a2).setCell ⟨b, 3, none⟩ a3).setCell ⟨b, 4, none⟩ a4).setCell ⟨b, 5, none⟩ a5).heap[b]? = some (.cells #[a0, a1, a2, a3, a4, a5, c6, c7, c8, c9, c10] t (0, 0)) := row_set r5 5 a5
  have r7 : (((((((W.setCell ⟨b, 0, none⟩ a0).setCell ⟨b, 1, none⟩ a1).setCell ⟨b, 2, none⟩ a2).setCell ⟨b, 3, none⟩ a3).setCell ⟨b, 4, none⟩ a4).setCell ⟨b, 5, none⟩ a5).setCell ⟨b, 6, none⟩ a6).heap[b]? = some (.cells #[a0, a1, a2, a3, a4, a5, a6, c7, c8, c9, c10] t (0, 0)) := row_set r6 6 a6
  have r8 : ((((((((W.setCell ⟨b, 0, none⟩ a0).setCell ⟨b, 1, none⟩ a1).setCell ⟨b, 2, none⟩ a2).setCell ⟨b, 3, none⟩ a3).setCell ⟨b, 4, none⟩ a4).setCell ⟨b, 5, none⟩ a5).setCell ⟨b, 6, none⟩ a6).setCell ⟨b, 7, none⟩ a7).heap[b]? = some (.cells #[a0, a1, a2, a3, a4, a5, a6, a7, c8, c9, c10] t (0, 0)) := row_set r7 7 a7
  have r9 : (((((((((W.setCell ⟨b, 0, none⟩ a0).setCell ⟨b, 1, none⟩ a1).setCell ⟨b, 2, none⟩ a2).setCell ⟨b, 3, none⟩ a3).setCell ⟨b, 4, none⟩ a4).setCell ⟨b, 5, none⟩ a5).setCell ⟨b, 6, none⟩ a6).setCell ⟨b, 7, none⟩ a7).setCell ⟨b, 8, none⟩ a8).heap[b]? = some (.cells #[a0, a1, a2, a3, a4, a5, a6, a7, a8, c9, c10] t (0, 0)) := row_set r8 8 a8
  have r10 : ((((((((((W.setCell ⟨b, 0, none⟩ a0).setCell ⟨b, 1, none⟩ a1).setCell ⟨b, 2, none⟩ a2).setCell ⟨b, 3, none⟩ a3).setCell ⟨b, 4, none⟩ a4).setCell ⟨b, 5, none⟩ a5).setCell ⟨b, 6, none⟩ a6).setCell ⟨b, 7, none⟩ a7).setCell ⟨b, 8, none⟩ a8).setCell ⟨b, 9, none⟩ a9).heap[b]? = some (.cells #[a0, a1, a2, a3, a4, a5, a6, a7, a8, a9, c10] t (0, 0)) := row_set r9 9 a9
  have r11 : (((((((((((W.setCell ⟨b, 0, none⟩ a0).setCell ⟨b, 1, none⟩ a1).setCell ⟨b, 2, none⟩ a2).setCell ⟨b, 3, none⟩ a3).setCell ⟨b, 4, none⟩ a4).setCell ⟨b, 5, none⟩ a5).setCell ⟨b, 6, none⟩ a6).setCell ⟨b, 7, none⟩ a7).setCell ⟨b, 8, none⟩ a8).setCell ⟨b, 9, none⟩ a9).setCell ⟨b, 10, none⟩ a10).heap[b]? = some (.cells #[a0, a1, a2, a3, a4, a5, a6, a7, a8, a9, a10] t (0, 0)) := row_set r10 10 a10
  exact r11
theorem heap_drew (W : World) : W.drew.heap = W.heap := rfl
theorem put11_rowD {W : World} {b : Nat} {c0 c1 c2 c3 c4 c5 c6 c7 c8 c9 c10 : Value} {t : TypeId} (h : W.heap[b]? = some (.cells #[c0, c1, c2, c3, c4, c5, c6, c7, c8, c9, c10] t (0, 0))) {a0 a1 a2 a3 a4 a5 a6 a7 a8 a9 a10 : Value} : (put11 W b a0 a1 a2 a3 a4 a5 a6 a7 a8 a9 a10).drew.heap[b]? = some (.cells #[a0, a1, a2, a3, a4, a5, a6, a7, a8, a9, a10] t (0, 0)) := by
  rw [heap_drew]; exact put11_row h
theorem put11_only (W : World) (b : Nat) (a0 a1 a2 a3 a4 a5 a6 a7 a8 a9 a10 : Value) : Only b W (put11 W b a0 a1 a2 a3 a4 a5 a6 a7 a8 a9 a10) := (((((((((((Only.refl b W).set 0 _).set 1 _).set 2 _).set 3 _).set 4 _).set 5 _).set 6 _).set 7 _).set 8 _).set 9 _).set 10 _
theorem off_reads {W : World} {v : Value} {xs : List Int} (h : Ints.Reads W v xs) {b : Nat} (hb : W.heap.size ≤ b) : Off b v := by
  rintro g o n c rfl hn
  have := reads_lt h rfl hn
  omega
theorem off_mreads {W : World} {v : Value} {xs : List (Int × Int)} (h : MReads W v xs) {b : Nat} (hb : W.heap.size ≤ b) : Off b v := by
  rintro g o n c rfl hn
  rcases h with ⟨_, a, c', e⟩ | ⟨g', off, c', e, hc⟩
  · cases e; exact absurd rfl hn
  · cases e
    have h0 := (hc 0 (by omega)).1
    have := cell_lt h0
    have h2 : g < W.heap.size := this
    omega
abbrev zeroV : Array Value := #[.string ⟨#[]⟩, .string ⟨#[]⟩, .int .i64 0, .int .i64 0, .string ⟨#[]⟩, .int .i64 0, .slice none 0 0, .int .i64 0, .int .i64 0, .slice none 0 0, .slice none 0 0]
structure Two (w W : World) (e : Ev) (vd vs vm : Value) : Prop where
  low : Below w.heap.size w W
  top : w.heap.size + 1 < W.heap.size
  ev : W.heap[w.heap.size]? = some (.cells (e.cells vd vs vm) 40)
  res : W.heap[w.heap.size + 1]? = some (.cells zeroV 40)
theorem Two.set {w W : World} {e e' : Ev} {vd vs vm vd' vs' vm' u : Value} {i : Nat} (h : Two w W e vd vs vm) (he : (e.cells vd vs vm).setIfInBounds i u = e'.cells vd' vs' vm') : Two w (W.setCell ⟨w.heap.size, i, none⟩ u) e' vd' vs' vm' := by
  refine ⟨h.low.setCell (p := ⟨w.heap.size, i, none⟩) (Nat.le_refl _) _, by simpa [World.setCell] using h.top, ?_, ?_⟩
  · rw [row_set h.ev i u, he]
  · rw [row_far (by show w.heap.size + 1 ≠ w.heap.size; omega)]; exact h.res
theorem far_reads {b : Nat} {w w' : World} (h : Far (fun k => k = b) w w') {v : Value} {xs : List Int} (hr : Ints.Reads w v xs) (hf : Off b v) : Ints.Reads w' v xs := by
  rcases hr with hr | ⟨g, off, c, rfl, hc⟩
  · exact .inl hr
  · by_cases hx : xs.length = 0
    · obtain rfl : xs = [] := List.length_eq_zero_iff.1 hx
      exact .inl ⟨rfl, _, _, rfl⟩
    · have hne : g ≠ b := hf g off _ c rfl hx
      have hlt : g < w.heap.size := reads_lt (.inr ⟨g, off, c, rfl, hc⟩) rfl hx
      refine .inr ⟨g, off, c, rfl, fun j hj => ?_⟩
      have := hc j hj
      simp only [World.cell?] at this ⊢
      rw [h.block g hlt hne]; exact this
theorem far_mreads {b : Nat} {w w' : World} (h : Far (fun k => k = b) w w') {v : Value} {xs : List (Int × Int)} (hr : MReads w v xs) (hf : Off b v) : MReads w' v xs := by
  rcases hr with hr | ⟨g, off, c, rfl, hc⟩
  · exact .inl hr
  · by_cases hx : xs.length = 0
    · obtain rfl : xs = [] := List.length_eq_zero_iff.1 hx
      exact .inl ⟨rfl, _, _, rfl⟩
    · have hne : g ≠ b := hf g off _ c rfl hx
      have hlt : g < w.heap.size := by
        have h0 := (hc 0 (by omega)).1
        exact cell_lt h0
      refine .inr ⟨g, off, c, rfl, fun j hj => ?_⟩
      have := hc j hj
      simp only [World.cell?] at this ⊢
      rw [h.block g hlt hne]; exact this
theorem far_cell {b : Nat} {w w' : World} (h : Far (fun k => k = b) w w') {q : Addr} {u : Value} (hc : w.cell? q = some u) (hb : q.block ≠ b) : w'.cell? q = some u := by
  have hlt := cell_lt hc
  simp only [World.cell?] at hc ⊢
  rw [h.block q.block hlt hb]; exact hc
theorem Rv.as {W : World} {e e' : Ev} {vd vs vm : Value} (h : Rv W e vd vs vm) (h1 : e.ru.ds = e'.ru.ds) (h2 : e.sk = e'.sk) (h3 : e.mv = e'.mv) : Rv W e' vd vs vm := ⟨h1 ▸ h.d, h2 ▸ h.s, h3 ▸ h.m⟩
theorem Rv.off {W : World} {b i : Nat} {e : Ev} {vd vs vm u : Value} (h : Rv W e vd vs vm) (o1 : Off b vd) (o2 : Off b vs) (o3 : Off b vm) : Rv (W.setCell ⟨b, i, none⟩ u) e vd vs vm :=
  ⟨reads_off h.d o1, reads_off h.s o2, mreads_off h.m o3⟩
end Evt
end Go.Proofs.YtghkalamlcfnnaaGreatDoor
end
section
namespace Go.Proofs.YtghkalamlcfnnaaGreatDoor
open Go Go.RowKit Go.Shelf Lmd
open Go.Maps (Keyed string_keyed)
namespace Bk
open Evt Tp Rul Day Cand Er
structure EvV where
  e : Ev
  (vd vs vm : Value)
def zV : EvV := ⟨⟨⟨#[]⟩, ⟨#[]⟩, 0, 0, ⟨⟨#[]⟩, 0, 0, 0, []⟩, [], []⟩, .slice none 0 0, .slice none 0 0, .slice none 0 0⟩
def el (xs : List EvV) (i : Nat) : EvV := xs[i]?.getD zV
theorem el_lt {xs : List EvV} {i : Nat} (h : i < xs.length) : el xs i = xs[i] := by simp [el, h]
theorem el_mem {xs : List EvV} {i : Nat} (h : i < xs.length) : el xs i ∈ xs := by rw [el_lt h]; exact List.getElem_mem h
abbrev EvV.cells (x : EvV) : Array Value := x.e.cells x.vd x.vs x.vm
structure At11 (W : World) (b o : Nat) (x : EvV) : Prop where
  k0 : W.cell? ⟨b, o, none⟩ = some (.string x.e.id)
  k1 : W.cell? ⟨b, o + 1, none⟩ = some (.string x.e.ti)
  k2 : W.cell? ⟨b, o + 2, none⟩ = some (.int .i64 x.e.st)
  k3 : W.cell? ⟨b, o + 3, none⟩ = some (.int .i64 x.e.lg)
  k4 : W.cell? ⟨b, o + 4, none⟩ = some (.string x.e.ru.fq)
  k5 : W.cell? ⟨b, o + 5, none⟩ = some (.int .i64 x.e.ru.ev)
  k6 : W.cell? ⟨b, o + 6, none⟩ = some x.vd
  k7 : W.cell? ⟨b, o + 7, none⟩ = some (.int .i64 x.e.ru.ct)
  k8 : W.cell? ⟨b, o + 8, none⟩ = some (.int .i64 x.e.ru.un)
  k9 : W.cell? ⟨b, o + 9, none⟩ = some x.vs
  k10 : W.cell? ⟨b, o + 10, none⟩ = some x.vm
def EReads (W : World) (v : Value) (xs : List EvV) : Prop :=
  (xs = [] ∧ ∃ a c, v = .slice a 0 c) ∨ ∃ b off c, v = .slice (some ⟨b, off, none⟩) xs.length c ∧ ∀ j, j < xs.length → At11 W b (off + j * 11) (el xs j) ∧ Rv W (el xs j).e (el xs j).vd (el xs j).vs (el xs j).vm
theorem EReads.shape {w : World} {v : Value} {xs : List EvV} (h : EReads w v xs) : ∃ a c, v = .slice a xs.length c := by
  rcases h with ⟨rfl, a, c, rfl⟩ | ⟨b, off, c, rfl, _⟩
  · exact ⟨a, c, rfl⟩
  · exact ⟨_, c, rfl⟩
theorem EReads.at {w : World} {a : Option Addr} {n cap : Nat} {xs : List EvV} (h : EReads w (.slice a n cap) xs) (hx : xs ≠ []) :
    n = xs.length ∧ ∃ b off, a = some ⟨b, off, none⟩ ∧ ∀ j, j < xs.length → At11 w b (off + j * 11) (el xs j) ∧ Rv w (el xs j).e (el xs j).vd (el xs j).vs (el xs j).vm := by
  rcases h with ⟨rfl, _⟩ | ⟨b, off, cap', e, hc⟩
  · exact absurd rfl hx
  · cases e; exact ⟨rfl, b, off, rfl, hc⟩
theorem At11.below {w w' : World} {b o : Nat} {x : EvV} (h : At11 w b o x) (hb : Below w.heap.size w w') : At11 w' b o x :=
  ⟨cell_later hb h.k0, cell_later hb h.k1, cell_later hb h.k2, cell_later hb h.k3, cell_later hb h.k4, cell_later hb h.k5, cell_later hb h.k6, cell_later hb h.k7, cell_later hb h.k8, cell_later hb h.k9, cell_later hb h.k10⟩
theorem EReads.below {w w' : World} {v : Value} {xs : List EvV} (h : EReads w v xs) (hb : Below w.heap.size w w') : EReads w' v xs := by
  rcases h with h | ⟨b, off, c, rfl, hc⟩
  · exact .inl h
  · exact .inr ⟨b, off, c, rfl, fun j hj => ⟨(hc j hj).1.below hb, (hc j hj).2.below hb⟩⟩
def IsMapB (w : World) (m : Nat) : Prop := ∃ es clock, w.heap[m]? = some (.map es clock)
theorem map_cell {w : World} {m : Nat} (h : IsMapB w m) (q : Addr) (hq : q.block = m) : w.cell? q = none := by
  obtain ⟨es, clock, he⟩ := h
  unfold World.cell?
  rw [hq, he]
theorem cell_far {m : Nat} {w w' : World} (hm : IsMapB w m) (h : Far (fun k => k = m) w w') {q : Addr} {u : Value} (hc : w.cell? q = some u) : w'.cell? q = some u := by
  refine far_cell h hc fun e => ?_
  rw [map_cell hm q e] at hc
  cases hc
theorem reads_far {m : Nat} {w w' : World} (hm : IsMapB w m) (h : Far (fun k => k = m) w w') {v : Value} {xs : List Int} (hr : Ints.Reads w v xs) : Ints.Reads w' v xs := by
  rcases hr with hr | ⟨g, off, c, rfl, hc⟩
  · exact .inl hr
  · exact .inr ⟨g, off, c, rfl, fun j hj => cell_far hm h (hc j hj)⟩
theorem mreads_far {m : Nat} {w w' : World} (hm : IsMapB w m) (h : Far (fun k => k = m) w w') {v : Value} {xs : List (Int × Int)} (hr : MReads w v xs) : MReads w' v xs := by
  rcases hr with hr | ⟨g, off, c, rfl, hc⟩
  · exact .inl hr
  · exact .inr ⟨g, off, c, rfl, fun j hj => ⟨cell_far hm h (hc j hj).1, cell_far hm h (hc j hj).2⟩⟩
theorem rv_far {m : Nat} {w w' : World} (hm : IsMapB w m) (h : Far (fun k => k = m) w w') {e : Ev} {vd vs vm : Value} (hr : Rv w e vd vs vm) : Rv w' e vd vs vm :=
  ⟨reads_far hm h hr.d, reads_far hm h hr.s, mreads_far hm h hr.m⟩
theorem at11_far {m : Nat} {w w' : World} (hm : IsMapB w m) (h : Far (fun k => k = m) w w') {b o : Nat} {x : EvV} (k : At11 w b o x) : At11 w' b o x :=
  ⟨cell_far hm h k.k0, cell_far hm h k.k1, cell_far hm h k.k2, cell_far hm h k.k3, cell_far hm h k.k4, cell_far hm h k.k5, cell_far hm h k.k6, cell_far hm h k.k7, cell_far hm h k.k8, cell_far hm h k.k9, cell_far hm h k.k10⟩
theorem ereads_far {m : Nat} {w w' : World} (hm : IsMapB w m) (h : Far (fun k => k = m) w w') {v : Value} {xs : List EvV} (hr : EReads w v xs) : EReads w' v xs := by
  rcases hr with hr | ⟨b, off, c, rfl, hc⟩
  · exact .inl hr
  · exact .inr ⟨b, off, c, rfl, fun j hj => ⟨at11_far hm h (hc j hj).1, rv_far hm h (hc j hj).2⟩⟩
def asIs (v : Value) : Option (DataW Value × List MemPlace) := some (.held v, [])
abbrev ky (k : List UInt8) : Lit := .string k
theorem lawS : Keyed Tryz.prog 9 := string_keyed Tryz.underlying9
structure Tells (W : World) (B : Nat) (D : DataW Value) (L : List Ev) : Prop where
  has : ∀ k, Maps.has D (ky k) = hasK k L
  ev : ∀ e ∈ L, ∃ vd vs vm, (∀ z, D.atKey (ky (key e)) z = .held (.agg (e.cells vd vs vm))) ∧ Rv W e vd vs vm ∧ From B vd ∧ From B vs ∧ From B vm
  size : Maps.size D = L.length
structure Book (W : World) (B b m : Nat) (L : List Ev) : Prop where
  box : W.heap[b]? = some (.cells #[.map (some m)] 91)
  lo : B ≤ b
  lom : B ≤ m
  map : ∃ D, W.ownsMap Tryz.prog 9 asIs m L.length D ∧ Tells W B D L
  asc : Asc L
  good : ∀ e ∈ L, badE e = 0
  fit : ∀ e ∈ L, Size e
  few : L.length ≤ 60
theorem Tells.below {w w' : World} {B : Nat} {D : DataW Value} {L : List Ev} (h : Tells w B D L) (hb : Below w.heap.size w w') : Tells w' B D L :=
  ⟨h.has, fun e he => by obtain ⟨vd, vs, vm, h1, h2, h3⟩ := h.ev e he; exact ⟨vd, vs, vm, h1, h2.below hb, h3⟩, h.size⟩
theorem own_below {w w' : World} {m n : Nat} {D : DataW Value} (h : w.ownsMap Tryz.prog 9 asIs m n D) (hb : Below w.heap.size w w') : w'.ownsMap Tryz.prog 9 asIs m n D :=
  h.kept (row := none) ⟨hb.os, hb.tape, hb.output, hb.size, fun k hk _ => hb.block k hk⟩ (by simp)
theorem Book.below {w w' : World} {B b m : Nat} {L : List Ev} (h : Book w B b m L) (hb : Below w.heap.size w w') : Book w' B b m L :=
  ⟨row_below h.box hb, h.lo, h.lom, by obtain ⟨D, h1, h2⟩ := h.map; exact ⟨D, own_below h1 hb, h2.below hb⟩, h.asc, h.good, h.fit, h.few⟩
theorem Book.isMap {w : World} {B b m : Nat} {L : List Ev} (h : Book w B b m L) : IsMapB w m := by
  obtain ⟨D, ⟨es, clock, he, _⟩, _⟩ := h.map
  exact ⟨es, clock, he⟩
theorem Book.ltm {w : World} {B b m : Nat} {L : List Ev} (h : Book w B b m L) : m < w.heap.size := by
  obtain ⟨D, h1, _⟩ := h.map; exact h1.lt
theorem off_far {k : Nat} {w w' : World} (h : Far (fun j => j = k) w w') {e : Ev} {vd vs vm : Value} (hr : Rv w e vd vs vm) (o1 : Off k vd) (o2 : Off k vs) (o3 : Off k vm) : Rv w' e vd vs vm :=
  ⟨far_reads h hr.d o1, far_reads h hr.s o2, far_mreads h hr.m o3⟩
theorem Book.far {w w' : World} {B b m k : Nat} {L : List Ev} (h : Book w B b m L) (hf : Far (fun j => j = k) w w') (hk : k < B) : Book w' B b m L := by
  have hlo := h.lo
  have hlom := h.lom
  refine ⟨?_, h.lo, h.lom, ?_, h.asc, h.good, h.fit, h.few⟩
  · rw [hf.block b (Array.getElem?_eq_some_iff.1 h.box).1 (by omega)]; exact h.box
  · obtain ⟨D, h1, h2⟩ := h.map
    refine ⟨D, h1.kept (row := some k) ⟨hf.os, hf.tape, hf.output, hf.size, fun j hj hne => hf.block j hj (fun e => hne (by rw [e]))⟩ (by simp; omega), h2.has, fun e he => ?_, h2.size⟩
    obtain ⟨vd, vs, vm, r1, r2, r3, r4, r5⟩ := h2.ev e he
    exact ⟨vd, vs, vm, r1, off_far hf r2 (off_from r3 hk) (off_from r4 hk) (off_from r5 hk), r3, r4, r5⟩
theorem Book.farm {w w' : World} {B b m k : Nat} {L : List Ev} (h : Book w B b m L) (hf : Far (fun j => j = k) w w') (hk : IsMapB w k) (hne : k ≠ m) : Book w' B b m L := by
  refine ⟨?_, h.lo, h.lom, ?_, h.asc, h.good, h.fit, h.few⟩
  · rw [hf.block b (Array.getElem?_eq_some_iff.1 h.box).1 (fun e => ?_)]
    · exact h.box
    · obtain ⟨es, clock, he⟩ := hk
      rw [← e, h.box] at he; cases he
  · obtain ⟨D, h1, h2⟩ := h.map
    refine ⟨D, h1.kept (row := some k) ⟨hf.os, hf.tape, hf.output, hf.size, fun j hj hne => hf.block j hj (fun e => hne (by rw [e]))⟩ (by simp; omega), h2.has, fun e he => ?_, h2.size⟩
    obtain ⟨vd, vs, vm, r1, r2, r3⟩ := h2.ev e he
    exact ⟨vd, vs, vm, r1, rv_far hk hf r2, r3⟩
theorem own_tight {w : World} {m n : Nat} {D : DataW Value} (h : w.ownsMap Tryz.prog 9 asIs m n D) : w.ownsMap Tryz.prog 9 asIs m (Maps.size D) D := by
  obtain ⟨es, clock, hb, F, _, rfl⟩ := h
  exact ⟨es, clock, hb, F, by simp [Maps.size, length_sorted], rfl⟩
theorem ky_inj {a b : List UInt8} (h : ky a = ky b) : a = b := by injection h
theorem Tells.put {w w' : World} {B : Nat} {D : DataW Value} {L : List Ev} {e : Ev} {vd vs vm : Value} {n m : Nat} (h : Tells w B D L) (hown : w.ownsMap Tryz.prog 9 asIs m n D) (ha : Asc L) (hm : IsMapB w m) (hf : Far (fun k => k = m) w w')
    (hr : Rv w e vd vs vm) (f1 : From B vd) (f2 : From B vs) (f3 : From B vm) : Tells w' B (D.put (ky (key e)) (.held (.agg (e.cells vd vs vm)))) (withE e L) := by
  have hD : Maps.IsMap D := hown.isMap
  have hT : Maps.Tidy D := hown.tidy lawS
  have hk : WideAt.IsKeyLit (ky (key e)) := trivial
  refine ⟨fun k => ?_, fun x hx => ?_, ?_⟩
  · rw [hasK_withE]
    by_cases hk' : k = key e
    · subst hk'; rw [Maps.has_put_same hD hk]; simp
    · rw [Maps.has_put_other (fun e => hk' (ky_inj e)), h.has, decide_eq_false hk', Bool.or_false]
  · rcases mem_withE.1 hx with rfl | ⟨hx, hne⟩
    · exact ⟨vd, vs, vm, fun z => Maps.atKey_put_same hD hk _ z, rv_far hm hf hr, f1, f2, f3⟩
    · obtain ⟨vd', vs', vm', r1, r2, r3⟩ := h.ev x hx
      exact ⟨vd', vs', vm', fun z => by rw [Maps.atKey_put_other (fun e => hne (ky_inj e))]; exact r1 z, rv_far hm hf r2, r3⟩
  · rw [Maps.size_put hT, length_withE ha, h.has, h.size]
theorem keyS {s : ByteArray} (hs : s.size ≤ 9223372036854775807) : keyOf Tryz.prog 9 (.string s) = some (ky s.data.toList) :=
  Go.WideMaps.keyOf_string_mk Tryz.underlying9 (s := s) hs
def foundE (k : List UInt8) (L : List Ev) : Ev := (L.find? fun e => decide (key e = k)).getD zV.e
theorem foundE_has {k : List UInt8} {L : List Ev} (h : hasK k L = true) : foundE k L ∈ L ∧ key (foundE k L) = k := by
  unfold foundE
  cases hf : L.find? fun e => decide (key e = k) with
  | none =>
    have := List.find?_eq_none.1 hf
    obtain ⟨e, he, hk⟩ := hasK_iff.1 h
    exact absurd (by simpa using hk) (by simpa using this e he)
  | some e => exact ⟨List.mem_of_find?_eq_some hf, by simpa using List.find?_some hf⟩
theorem foundE_none {k : List UInt8} {L : List Ev} (h : hasK k L = false) : foundE k L = zV.e := by
  unfold foundE
  rw [List.find?_eq_none.2 fun e he => by simpa using hasK_false.1 h e he]; rfl
theorem foundE_of {L : List Ev} (ha : Asc L) {e : Ev} (he : e ∈ L) : foundE (key e) L = e := by
  obtain ⟨h1, h2⟩ := foundE_has (hasK_iff.2 ⟨e, he, rfl⟩)
  exact key_one ha h1 he h2
theorem foundE_fit {w : World} {B b m : Nat} {L : List Ev} (h : Book w B b m L) (k : List UInt8) : Size (foundE k L) := by
  cases hh : hasK k L with
  | true => exact h.fit _ (foundE_has hh).1
  | false => rw [foundE_none hh]; exact ⟨by decide, by decide, by decide, by decide, by decide⟩
theorem zero_rv (w : World) : Rv w zV.e (.slice none 0 0) (.slice none 0 0) (.slice none 0 0) := ⟨.inl ⟨rfl, _, _, rfl⟩, .inl ⟨rfl, _, _, rfl⟩, .inl ⟨rfl, _, _, rfl⟩⟩
theorem asIs_zero : asIs (.agg zeroV) = some (.held (.agg zeroV), []) := rfl
theorem asIs_inv {v : Value} {d : DataW Value} {ps : List MemPlace} (h : asIs v = some (d, ps)) : d = .held v := by
  unfold asIs at h; cases h; rfl
theorem Tells.found {w : World} {B : Nat} {D : DataW Value} {L : List Ev} (h : Tells w B D L) (k : List UInt8) :
    ∃ vd vs vm, D.atKey (ky k) (.held (.agg zeroV)) = .held (.agg ((foundE k L).cells vd vs vm)) ∧ Rv w (foundE k L) vd vs vm := by
  cases hh : hasK k L with
  | true =>
    obtain ⟨h1, h2⟩ := foundE_has hh
    obtain ⟨vd, vs, vm, r1, r2, _⟩ := h.ev _ h1
    rw [h2] at r1
    exact ⟨vd, vs, vm, r1 _, r2⟩
  | false =>
    rw [foundE_none hh, Maps.atKey_of_not_has (by rw [h.has, hh])]
    exact ⟨_, _, _, rfl, zero_rv w⟩
theorem ev_info : (Tryz.prog.info? 40).map (fun i => (i.zero, i.size, i.bytes)) = some (some (.agg zeroV), 11, 160) := by kernel_rfl
abbrev EvV.cs (x : EvV) : List Value := [.string x.e.id, .string x.e.ti, .int .i64 x.e.st, .int .i64 x.e.lg, .string x.e.ru.fq, .int .i64 x.e.ru.ev, x.vd, .int .i64 x.e.ru.ct, .int .i64 x.e.ru.un, x.vs, x.vm]
def cellsV (xs : List EvV) : List Value := xs.flatMap EvV.cs
theorem cellsV_snoc (xs : List EvV) (x : EvV) : cellsV (xs ++ [x]) = cellsV xs ++ x.cs := by simp [cellsV]
theorem cellsV_at : ∀ {xs : List EvV} {j : Nat}, j < xs.length → ∀ {i : Nat} {u : Value}, (el xs j).cs[i]? = some u → (cellsV xs)[j * 11 + i]? = some u
  | [], j, h, _, _, _ => absurd h (Nat.not_lt_zero _)
  | m :: t, 0, _, i, u, hu => by
    have hu' : m.cs[i]? = some u := hu
    have hi : i < m.cs.length := (List.getElem?_eq_some_iff.1 hu').1
    show (m.cs ++ cellsV t)[0 * 11 + i]? = some u
    rw [Nat.zero_mul, Nat.zero_add, List.getElem?_append_left hi]; exact hu'
  | m :: t, j + 1, h, i, u, hu => by
    have := cellsV_at (xs := t) (j := j) (by simpa using h) (i := i) (u := u) hu
    show (m.cs ++ cellsV t)[(j + 1) * 11 + i]? = some u
    have e1 : (j + 1) * 11 + i = m.cs.length + (j * 11 + i) := by show _ = 11 + _; omega
    rw [e1, List.getElem?_append_right (by omega), Nat.add_sub_cancel_left]; exact this
abbrev EvV.rv (x : EvV) (w : World) : Prop := Rv w x.e x.vd x.vs x.vm
theorem at11_of {w : World} {b o : Nat} {x : EvV} (h : ∀ i u, x.cs[i]? = some u → w.cell? ⟨b, o + i, none⟩ = some u) : At11 w b o x :=
  ⟨h 0 _ rfl, h 1 _ rfl, h 2 _ rfl, h 3 _ rfl, h 4 _ rfl, h 5 _ rfl, h 6 _ rfl, h 7 _ rfl, h 8 _ rfl, h 9 _ rfl, h 10 _ rfl⟩
theorem At11.of {w : World} {b o : Nat} {x : EvV} (h : At11 w b o x) : ∀ i u, x.cs[i]? = some u → w.cell? ⟨b, o + i, none⟩ = some u := by
  intro i u hu
  match i, hu with
  | 0, hu => cases hu; exact h.k0
  | 1, hu => cases hu; exact h.k1
  | 2, hu => cases hu; exact h.k2
  | 3, hu => cases hu; exact h.k3
  | 4, hu => cases hu; exact h.k4
  | 5, hu => cases hu; exact h.k5
  | 6, hu => cases hu; exact h.k6
  | 7, hu => cases hu; exact h.k7
  | 8, hu => cases hu; exact h.k8
  | 9, hu => cases hu; exact h.k9
  | 10, hu => cases hu; exact h.k10
  | i + 11, hu => cases hu
theorem at11_box {w : World} {b : Nat} {x : EvV} {t : TypeId} (h : w.heap[b]? = some (.cells x.cells t)) : At11 w b 0 x := by
  refine at11_of fun i u hu => ?_
  simp only [World.cell?, h, Nat.zero_add]
  have : x.cells[i]? = some u := by rw [← Array.getElem?_toList]; exact hu
  simpa using this
theorem ereads_own {w : World} {base n : Nat} {v : Value} {xs : List EvV} (h : w.ownsRow base 40 11 v n (cellsV xs)) (hn : n = xs.length) (hr : ∀ x ∈ xs, x.rv w) : EReads w v xs := by
  subst hn
  rcases h.2 with ⟨rfl, h0⟩ | ⟨g, cap, cur, rfl, _, hh, _, _, _, ht⟩
  · exact .inl ⟨List.length_eq_zero_iff.1 h0, none, 0, rfl⟩
  · refine .inr ⟨g, 0, cap, rfl, fun j hj => ⟨at11_of fun i u hu => ?_, hr _ (el_mem hj)⟩⟩
    have h1 := cellsV_at hj hu
    have hi : i < 11 := (List.getElem?_eq_some_iff.1 hu).1
    rw [← ht, List.getElem?_take_of_lt (by omega)] at h1
    simp only [World.cell?, hh, Nat.zero_add]
    simpa using h1
theorem append_ev {w : World} {ops : Array Oper} {rest : List Oper} {o : Oper} {a : Act} {Q : Exit → Act → World → Prop} (hgd : o.guard = none) (s x : Operand)
    (ho : o.op = .call { callee := .builtin .append, args := #[s, x], argTypes := #[22, 22] })
    (base : Nat) (v : Value) (xs : List EvV) (hs : a.eval s = v) (hown : w.ownsRow base 40 11 v xs.length (cellsV xs)) (g : Nat) (y : EvV) (hx : a.eval x = .slice (some ⟨g, 0, none⟩) 1 1)
    (hg : At11 w g 0 y) (hy : y.rv w) (hb : xs.length ≤ 3000000) (hbase : base ≤ w.heap.size)
    (h : ∀ a' c' w', w'.ownsRow base 40 11 (.slice a' (xs.length + 1) c') (xs ++ [y]).length (cellsV (xs ++ [y])) → Below base w w' → w.grownBy w' v.ownBlock → wpList Tryz.prog ops Q rest (a.put o.dst (.slice a' (xs.length + 1) c')) w') : wpList Tryz.prog ops Q (o :: rest) a w := by
  obtain ⟨i0, hi0, hz0, hz1, hz2⟩ := info_parts ev_info
  obtain ⟨a6, c6, e6⟩ := hy.d.shape
  obtain ⟨a9, c9, e9⟩ := hy.s.shape
  obtain ⟨a10, c10, e10⟩ := hy.m.shape
  refine wpList_append_own _ hgd s x 22 ho base 40 i0 _ 11 160 Tryz.underlying22 hi0 hz0 hz1 hz2 rfl (by omega) v xs.length (cellsV xs) hs hown ⟨g, 0, none⟩ 1 1 y.cs hx rfl
    (fun j u hu => by
      rw [add_plain]
      exact hg.of j u hu) (fun u hu => by
        simp only [EvV.cs, e6, e9, e10, List.mem_cons, List.not_mem_nil, or_false] at hu
        rcases hu with rfl | rfl | rfl | rfl | rfl | rfl | rfl | rfl | rfl | rfl | rfl <;> rfl) (by simp only [maxLen]; omega) (by omega) hbase ?_
  intro v' w' h1 h2 _
  obtain ⟨a1, c1, rfl⟩ := own_at h1
  refine h a1 c1 w' ?_ ((Below.refl base w).grown h2 hbase (fun j ej => Evt.own_ge hown ej)) h2
  rw [cellsV_snoc, List.length_append]; exact h1
end Bk
end Go.Proofs.YtghkalamlcfnnaaGreatDoor
end
