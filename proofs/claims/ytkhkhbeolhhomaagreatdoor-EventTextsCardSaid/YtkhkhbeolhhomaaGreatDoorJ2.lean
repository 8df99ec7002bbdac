/- EvPlain, OpenRule, EvRd: texts of this claim, joined. -/
import Derived.Test.YtkhkhbeolhhomaaGreatDoorRuleText
import Derived.Lib.SlTrimSet
import Derived.Shelf.GgClosure.StringsIndexFunc
import Derived.Lib.SmallJoins
import Derived.ChangeSlices
import Derived.Deep.Slices
import Derived.Deep.Fields
import Derived.ChangeSame
import Derived.DataShut
section
/- Events, in plain Lean: what one is, what is wrong with one, its days. -/
namespace Go.Proofs.YtkhkhbeolhhomaaGreatDoor
open Go Go.RowKit Lmd
namespace Evt
open Rul Day Cand

/-- an event's fields -/
structure Ev where
  (id ti : ByteArray) (st lg : Int) (ru : Ru) (sk : List Int) (mv : List (Int × Int))
/-- the letters of a name -/
def az : List UInt8 := [97, 98, 99, 100, 101, 102, 103, 104, 105, 106, 107, 108, 109, 110, 111, 112, 113, 114, 115, 116, 117, 118, 119, 120, 121, 122, 48, 49, 50, 51, 52, 53, 54, 55, 56, 57]
def nameB (s : ByteArray) : Bool := decide (s.size ≠ 0) && decide (s.size ≤ 12) && s.data.toList.all (az.contains ·)
/-- a byte of a title -/
def okC (c : UInt8) : Bool := decide (32 ≤ c.toNat) && decide (c.toNat ≤ 126) && decide (c.toNat ≠ 124)
/-- a rune that no title has -/
def badR (r : Nat) : Bool := decide (r < 32) || decide (126 < r) || decide (r = 124)
def titleB (s : ByteArray) : Bool := decide (s.size ≤ 40) && s.data.toList.all okC
def rightB (d : Int) : Bool := inB d 0 73048
def froms (l : List (Int × Int)) : List Int := l.map Prod.fst
/-- what is wrong with the lists: 0: nothing -/
def badL (e : Ev) : Nat :=
  if 20 < e.sk.length ∨ 20 < e.mv.length then 7
  else if (riseB e.sk && riseB (froms e.mv)) = false then 8
  else if (e.sk.all rightB && e.mv.all fun m => rightB m.1 && rightB m.2) = false then 2
  else if (froms e.mv).any (e.sk.contains ·) = true then 6 else 0
/-- what is wrong with an event: 0: nothing -/
def badE (e : Ev) : Nat :=
  if nameB e.id = false then 4 else if titleB e.ti = false then 1
  else if (rightB e.st && inB e.lg 1 60) = false then 2
  else if bad e.ru ≠ 0 then bad e.ru else badL e

theorem dropWhile_nil {α : Type} {p : α → Bool} : ∀ {l : List α}, l.dropWhile p = [] ↔ ∀ x ∈ l, p x = true
  | [] => by simp
  | a :: l => by
    rw [List.dropWhile_cons]
    cases ha : p a with
    | false => simp [ha]
    | true => simp [ha, dropWhile_nil (l := l)]
theorem dropWhile_head {α : Type} {p : α → Bool} : ∀ {l t : List α} {a : α}, l.dropWhile p = a :: t → p a = false
  | [], _, _, h => by simp at h
  | b :: l, t, a, h => by
    rw [List.dropWhile_cons] at h
    cases hb : p b with
    | false => rw [hb] at h; simp at h; rw [← h.1]; exact hb
    | true => rw [hb] at h; simp at h; exact dropWhile_head h
/-- nothing is left just where all is trimmed away -/
theorem trim_nil (l cs : List UInt8) : Lib.trimS l cs = [] ↔ ∀ c ∈ l, cs.contains c = true := by
  unfold Lib.trimS Lib.trimLeftS Lib.trimRightS
  rw [dropWhile_nil]
  constructor
  · intro h
    rcases hd : l.reverse.dropWhile (cs.contains ·) with _ | ⟨a, t⟩
    · intro c hc
      exact dropWhile_nil.1 hd c (by simpa using hc)
    · exfalso
      have h1 := dropWhile_head hd
      rw [hd] at h
      have h2 := h a (by simp)
      rw [h1] at h2; cases h2
  · intro h c hc
    have hn : l.reverse.dropWhile (cs.contains ·) = [] := dropWhile_nil.2 (fun x hx => h x (by simpa using hx))
    rw [hn] at hc; simp at hc
/-- a decoder's rune at a byte beyond ASCII is beyond ASCII -/
theorem decode_high (s : ByteArray) (i : Nat) (h : 128 ≤ (s.get! i).toNat) : 128 ≤ (Utf8.decode s i).1 := by
  have h0 : ¬ (s.get! (i + 0)).toNat < 128 := by simpa using h
  unfold Utf8.decode
  simp only [h0, if_false]
  split
  · split
    · rename_i h2; exact h2
    · decide
  · split
    · split
      · rename_i h2
        have := h2
        simp only [Bool.and_eq_true, decide_eq_true_eq] at this
        show 128 ≤ _
        omega
      · decide
    · split
      · split
        · rename_i h2
          have := h2
          simp only [Bool.and_eq_true, decide_eq_true_eq] at this
          show 128 ≤ _
          omega
        · decide
      · decide
theorem decode_low (s : ByteArray) (i : Nat) (h : (s.get! i).toNat < 128) : Utf8.decode s i = ((s.get! i).toNat, 1) := by
  have h0 : (s.get! (i + 0)).toNat < 128 := by simpa using h
  exact if_pos h0
theorem okC_badR (c : UInt8) (h : c.toNat < 128) : badR c.toNat = !okC c := by
  unfold badR okC
  rw [Bool.eq_iff_iff]
  simp only [Bool.or_eq_true, Bool.not_eq_true', ← Bool.not_eq_true, Bool.and_eq_true, decide_eq_true_eq]
  omega
theorem okC_high (c : UInt8) (h : 128 ≤ c.toNat) : okC c = false := by
  unfold okC
  rw [decide_eq_false (show ¬ c.toNat ≤ 126 by omega)]; simp
theorem badR_high {r : Nat} (h : 128 ≤ r) : badR r = true := by
  unfold badR
  rw [decide_eq_true (show 126 < r by omega)]; simp
theorem title_from (s : ByteArray) : ∀ (f pos : Nat), s.size ≤ pos + f → (Lib.idxFuncFrom badR true s f pos = -1 ↔ ∀ j, pos ≤ j → j < s.size → okC (s.get! j) = true)
  | 0, pos, h => by simp only [Lib.idxFuncFrom, true_iff]; intro j h1 h2; omega
  | f + 1, pos, h => by
    unfold Lib.idxFuncFrom
    by_cases hp : pos < s.size
    · rw [if_pos hp]
      by_cases hc : (s.get! pos).toNat < 128
      · rw [decode_low s pos hc]
        dsimp only
        rw [okC_badR _ hc]
        cases ho : okC (s.get! pos) with
        | false =>
          simp only [Bool.not_false, if_true]
          constructor
          · intro h2; omega
          · intro h2; rw [h2 pos (Nat.le_refl _) hp] at ho; cases ho
        | true =>
          simp only [Bool.not_true, Bool.false_eq_true, if_false]
          rw [title_from s f (pos + 1) (by omega)]
          constructor
          · intro h2 j h3 h4
            by_cases hj : j = pos
            · rw [hj]; exact ho
            · exact h2 j (by omega) h4
          · intro h2 j h3 h4; exact h2 j (by omega) h4
      · have hh := decode_high s pos (by omega)
        rw [if_pos (badR_high hh)]
        constructor
        · intro h2; omega
        · intro h2
          have := h2 pos (Nat.le_refl _) hp
          rw [okC_high _ (by omega)] at this; cases this
    · rw [if_neg hp]
      simp only [true_iff]
      intro j h1 h2; omega
/-- a title has no bad rune just where all its bytes are good ones -/
theorem title_iff (s : ByteArray) : decide (0 ≤ Lib.idxFunc badR true s) = !s.data.toList.all okC := by
  have hr := Lib.idxFunc_range badR true s
  have hf := title_from s s.size 0 (by omega)
  have hg : ∀ j, j < s.size → s.get! j = s.data.toList.getD j 0 := fun j hj => by
    cases s with
    | mk a =>
      simp only [ByteArray.get!, ByteArray.size] at *
      simp [hj]
  rw [Bool.eq_iff_iff, decide_eq_true_eq, Bool.not_eq_true', ← Bool.not_eq_true, List.all_eq_true]
  constructor
  · intro h1 h2
    have h3 : Lib.idxFunc badR true s = -1 := hf.2 (fun j _ hj => by
      rw [hg j hj]
      refine h2 _ ?_
      have hj' : j < s.data.toList.length := by simpa using hj
      rw [List.getD_eq_getElem?_getD, List.getElem?_eq_getElem hj', Option.getD_some]
      exact List.getElem_mem hj')
    omega
  · intro h1
    rcases hr with h2 | h2
    · exfalso
      refine h1 (fun x hx => ?_)
      obtain ⟨j, hj, rfl⟩ := List.getElem_of_mem hx
      have hj' : j < s.size := by simpa using hj
      have h3 := hf.1 h2 j (Nat.zero_le _) hj'
      rw [hg j hj', List.getD_eq_getElem?_getD, List.getElem?_eq_getElem hj, Option.getD_some] at h3
      exact h3
    · exact h2.1
end Evt
end Go.Proofs.YtkhkhbeolhhomaaGreatDoor
end

section
/- A rule as an argument, opened. The first theorem is the guide's block to copy. -/
namespace Go.Proofs.YtkhkhbeolhhomaaGreatDoor
open Go Go.Joins Go.ChangeShapes Go.WideShapes Go.RowKit Go.Deep Lmd
namespace Rul
section
variable {H : Type} {enc : TypeId × Value → H} {P : Program} {w : World} {base : Nat} {spare : Nat → Bool} {held : Bool}
theorem open_agg5 {r : Reach} {b0 : Nat} {t : TypeId} {f0 f1 f2 f3 f4 : Field} {v : Value} {d : DataW H} {p : List MemPlace} (hs : P.underlying t = some (.struct #[f0, f1, f2, f3, f4])) (hone : oneCellFields P #[f0, f1, f2, f3, f4] = true) (hC : P.cellsOf t = 5)
    (hv : Value.okWide P w r b0 t v) (h : DataW.Trod enc P w base spare held t v d p) :
    ∃ (v0 v1 v2 v3 v4 : Value) (y0 y1 y2 y3 y4 : DataW H × List MemPlace) (n : Nat), v = .agg #[v0, v1, v2, v3, v4] ∧ d = .agg [y0.1, y1.1, y2.1, y3.1, y4.1] ∧ p = y0.2 ++ (y1.2 ++ (y2.2 ++ (y3.2 ++ y4.2))) ∧
      DataW.trod enc P w base spare held n f0.type [v0] = some y0 ∧ DataW.trod enc P w base spare held n f1.type [v1] = some y1 ∧ DataW.trod enc P w base spare held n f2.type [v2] = some y2 ∧ DataW.trod enc P w base spare held n f3.type [v3] = some y3 ∧ DataW.trod enc P w base spare held n f4.type [v4] = some y4 := by
  obtain ⟨cs, rfl, hsz⟩ := okWide_struct hs hv
  obtain ⟨l⟩ := cs
  match l, hsz.trans hC with
  | [c0, c1, c2, c3, c4], _ =>
    obtain ⟨fuel, hf⟩ := h
    obtain ⟨xs, n, _, hx, _, hlen, hg⟩ := DataW.trod_struct hs hf
    obtain ⟨o0, k0⟩ := hone_of hone 0 f0 rfl
    obtain ⟨o1, k1⟩ := hone_of hone 1 f1 rfl
    obtain ⟨o2, k2⟩ := hone_of hone 2 f2 rfl
    obtain ⟨o3, k3⟩ := hone_of hone 3 f3 rfl
    obtain ⟨o4, k4⟩ := hone_of hone 4 f4 rfl
    match xs, hlen with
    | [y0, y1, y2, y3, y4], _ =>
      simp only [Prod.mk.injEq] at hx
      exact ⟨c0, c1, c2, c3, c4, y0, y1, y2, y3, y4, n, rfl, by simpa using hx.1, by simpa using hx.2, by simpa [Value.cells, o0, k0] using hg 0 f0 rfl, by simpa [Value.cells, o1, k1] using hg 1 f1 rfl, by simpa [Value.cells, o2, k2] using hg 2 f2 rfl, by simpa [Value.cells, o3, k3] using hg 3 f3 rfl, by simpa [Value.cells, o4, k4] using hg 4 f4 rfl⟩
end

theorem reads_of {w : World} {a : Addr} {len cap : Nat} {zs : List Int} (hl : len ≤ zs.length) (h : ∀ i, i < zs.length → w.cell? (a.add i) = some (.int .i64 (zs.getD i 0))) : Ints.Reads w (.slice (some a) len cap) (zs.take len) := by
  by_cases h0 : len = 0
  · subst h0
    exact .inl ⟨by simp, _, _, rfl⟩
  · have hlen : (zs.take len).length = len := by simp; omega
    obtain ⟨b, o, s⟩ := a
    have hs : s = none := by
      have := h 0 (by omega)
      unfold Addr.add World.cell? at this
      simp only [if_true] at this
      split at this
      · split at this
        · cases this
        · rename_i hh; simpa using hh
      · cases this
    subst hs
    refine .inr ⟨b, o, cap, by rw [hlen], fun i hi => ?_⟩
    rw [hlen] at hi
    have := h i (by omega)
    have he : Ints.el (zs.take len) i = zs.getD i 0 := by
      rw [Ints.el_lt (by omega), List.getElem_take, List.getD_eq_getElem?_getD, List.getElem?_eq_getElem (by omega)]; rfl
    rw [he]
    unfold Addr.add at this
    split at this
    · rename_i hi0; subst hi0; simpa using this
    · exact this

set_option maxRecDepth 100000 in
theorem open_rule {H : Type} {enc : TypeId × Value → H} {W : World} {base : Nat} {v : Value} {d : DataW H} {p : List MemPlace} {r : Reach} {b0 : Nat}
    (hv : Value.okWide Tryz.prog W r b0 35 v) (h : DataW.Trod enc Tryz.prog W base (fun _ => true) true 35 v d p) :
    ∃ (r : Ru) (sl : Value), v = r.val sl ∧ Ints.Reads W sl r.ds ∧ r.fq.size ≤ 9223372036854775807 ∧ r.ds.length ≤ 9223372036854775807 := by
  obtain ⟨v0, v1, v2, v3, v4, y0, y1, y2, y3, y4, n, rfl, _, _, h0, h1, h2, h3, h4⟩ := open_agg5 Tryz.underlying35 (by kernel_rfl) (by kernel_rfl) hv h
  obtain ⟨s, e0, _, hs⟩ := DataW.trod_string Tryz.underlying9 h0
  obtain ⟨ev, e1, _, _⟩ := DataW.trod_int Tryz.underlying3 h1
  obtain ⟨ct, e3, _, _⟩ := DataW.trod_int Tryz.underlying3 h3
  obtain ⟨un, e4, _, _⟩ := DataW.trod_int Tryz.underlying3 h4
  cases e0; cases e1; cases e3; cases e4
  have hm : maxLen ≤ 9223372036854775807 := Nat.le_refl _
  rcases open_ints Tryz.underlying33 Tryz.underlying3 (by kernel_rfl) h2 with ⟨e2, _⟩ | ⟨a, len, cap, zs, e2, _, hl, hc, hz, _, hcell, _⟩
  · cases e2
    exact ⟨⟨s, ev, ct, un, []⟩, .slice none 0 0, rfl, .inl ⟨rfl, _, _, rfl⟩, Nat.le_trans hs hm, by simp⟩
  · cases e2
    simp only [if_true] at hz
    exact ⟨⟨s, ev, ct, un, zs.take len⟩, .slice (some a) len cap, rfl, reads_of (by omega) hcell, Nat.le_trans hs hm, by show (zs.take len).length ≤ _; simp; omega⟩
end Rul
end Go.Proofs.YtkhkhbeolhhomaaGreatDoor
end

section
/- Events as values: what one reads, a slice of moves; an event as an argument, opened; slices of them. -/
namespace Go.Proofs.YtkhkhbeolhhomaaGreatDoor
open Go Go.ChangeShapes Go.WideShapes Go.RowKit Go.Deep Lmd
namespace Evt
open Rul

/-- a move of a list, behind a name that the walk does not open -/
def ml (xs : List (Int × Int)) (i : Nat) : Int × Int := xs[i]?.getD (0, 0)
theorem ml_lt {xs : List (Int × Int)} {i : Nat} (h : i < xs.length) : ml xs i = xs[i] := by simp [ml, h]
/-- a slice of moves -/
def MReads (w : World) (v : Value) (xs : List (Int × Int)) : Prop :=
  (xs = [] ∧ ∃ a c, v = .slice a 0 c) ∨ ∃ b off c, v = .slice (some ⟨b, off, none⟩) xs.length c ∧ ∀ j, j < xs.length → w.cell? ⟨b, off + j * 2, none⟩ = some (.int .i64 (ml xs j).1) ∧ w.cell? ⟨b, off + j * 2 + 1, none⟩ = some (.int .i64 (ml xs j).2)
theorem MReads.shape {w : World} {v : Value} {xs : List (Int × Int)} (h : MReads w v xs) : ∃ a c, v = .slice a xs.length c := by
  rcases h with ⟨rfl, a, c, rfl⟩ | ⟨b, off, c, rfl, _⟩
  · exact ⟨a, c, rfl⟩
  · exact ⟨_, c, rfl⟩
theorem MReads.at {w : World} {a : Option Addr} {n cap : Nat} {xs : List (Int × Int)} (h : MReads w (.slice a n cap) xs) (hx : xs ≠ []) : n = xs.length ∧ ∃ b off, a = some ⟨b, off, none⟩ ∧ ∀ j, j < xs.length → w.cell? ⟨b, off + j * 2, none⟩ = some (.int .i64 (ml xs j).1) ∧ w.cell? ⟨b, off + j * 2 + 1, none⟩ = some (.int .i64 (ml xs j).2) := by
  rcases h with ⟨rfl, _⟩ | ⟨b, off, cap', e, hc⟩
  · exact absurd rfl hx
  · cases e; exact ⟨rfl, b, off, rfl, hc⟩
theorem MReads.below {w w' : World} {v : Value} {xs : List (Int × Int)} (h : MReads w v xs) (hb : Below w.heap.size w w') : MReads w' v xs := by
  rcases h with h | ⟨b, off, c, rfl, hc⟩
  · exact .inl h
  · exact .inr ⟨b, off, c, rfl, fun j hj => ⟨cell_later hb (hc j hj).1, cell_later hb (hc j hj).2⟩⟩

/-- an event's cells, its slices apart -/
def Ev.val (e : Ev) (vd vs vm : Value) : Value :=
  .agg #[.string e.id, .string e.ti, .int .i64 e.st, .int .i64 e.lg, .string e.ru.fq, .int .i64 e.ru.ev, vd, .int .i64 e.ru.ct, .int .i64 e.ru.un, vs, vm]
structure Rv (w : World) (e : Ev) (vd vs vm : Value) : Prop where
  d : Ints.Reads w vd e.ru.ds
  s : Ints.Reads w vs e.sk
  m : MReads w vm e.mv
theorem Rv.below {w w' : World} {e : Ev} {vd vs vm : Value} (h : Rv w e vd vs vm) (hb : Below w.heap.size w w') : Rv w' e vd vs vm := ⟨h.d.below hb, h.s.below hb, h.m.below hb⟩
/-- no part of an event is beyond what a machine holds -/
structure Fin64 (e : Ev) : Prop where
  id : e.id.size ≤ 9223372036854775807
  ti : e.ti.size ≤ 9223372036854775807
  fq : e.ru.fq.size ≤ 9223372036854775807
  ds : e.ru.ds.length ≤ 9223372036854775807
  sk : e.sk.length ≤ 9223372036854775807
  mv : e.mv.length ≤ 9223372036854775807

section
variable {H : Type} {enc : TypeId × Value → H} {W : World} {base : Nat}
theorem ints_of {n : Nat} {v : Value} {y : DataW H × List MemPlace} (h : DataW.trod enc Tryz.prog W base (fun _ => true) true n 33 [v] = some y) : ∃ xs : List Int, Ints.Reads W v xs ∧ xs.length ≤ 9223372036854775807 := by
  rcases open_ints Tryz.underlying33 Tryz.underlying3 (by kernel_rfl) h with ⟨e2, _⟩ | ⟨a, len, cap, zs, e2, _, hl, hc, hz, _, hcell, _⟩
  · cases e2
    exact ⟨[], .inl ⟨rfl, _, _, rfl⟩, by simp⟩
  · cases e2
    simp only [if_true] at hz
    have hm : maxLen ≤ 9223372036854775807 := Nat.le_refl _
    exact ⟨zs.take len, reads_of (by omega) hcell, by show (zs.take len).length ≤ _; simp; omega⟩
set_option maxRecDepth 100000 in
theorem trod_rule {fuel : Nat} {cs : List Value} {x : DataW H × List MemPlace} (h : DataW.trod enc Tryz.prog W base (fun _ => true) true fuel 35 cs = some x) :
    ∃ (r : Ru) (sl : Value), cs = [.string r.fq, .int .i64 r.ev, sl, .int .i64 r.ct, .int .i64 r.un] ∧ Ints.Reads W sl r.ds ∧ r.fq.size ≤ 9223372036854775807 ∧ r.ds.length ≤ 9223372036854775807 := by
  obtain ⟨xs, n, _, _, hl, hlen, hf⟩ := DataW.trod_struct Tryz.underlying35 h
  have hC : Tryz.prog.cellsOf 35 = 5 := by kernel_rfl
  rw [hC] at hl
  have cS : Tryz.prog.cellsOf 9 = 1 := by kernel_rfl
  have cI : Tryz.prog.cellsOf 3 = 1 := by kernel_rfl
  have cL : Tryz.prog.cellsOf 33 = 1 := by kernel_rfl
  have h0 := hf 0 _ rfl
  have h1 := hf 1 _ rfl
  have h2 := hf 2 _ rfl
  have h3 := hf 3 _ rfl
  have h4 := hf 4 _ rfl
  change DataW.trod enc _ W base _ _ n 9 (List.take (Tryz.prog.cellsOf 9) (List.drop 0 cs)) = xs[0]? at h0
  change DataW.trod enc _ W base _ _ n 3 (List.take (Tryz.prog.cellsOf 3) (List.drop 1 cs)) = xs[1]? at h1
  change DataW.trod enc _ W base _ _ n 33 (List.take (Tryz.prog.cellsOf 33) (List.drop 2 cs)) = xs[2]? at h2
  change DataW.trod enc _ W base _ _ n 3 (List.take (Tryz.prog.cellsOf 3) (List.drop 3 cs)) = xs[3]? at h3
  change DataW.trod enc _ W base _ _ n 3 (List.take (Tryz.prog.cellsOf 3) (List.drop 4 cs)) = xs[4]? at h4
  rw [cS] at h0
  rw [cI] at h1 h3 h4
  rw [cL] at h2
  match cs, hl with
  | [a, b, c, d, e], _ =>
    match xs, hlen with
    | [y0, y1, y2, y3, y4], _ =>
      simp only [List.drop_zero, List.drop_succ_cons, List.take_succ_cons, List.take_zero, List.getElem?_cons_zero, List.getElem?_cons_succ] at h0 h1 h2 h3 h4
      obtain ⟨s0, e0, _, z0⟩ := DataW.trod_string Tryz.underlying9 h0
      obtain ⟨m1, e1, _, _⟩ := DataW.trod_int Tryz.underlying3 h1
      obtain ⟨m3, e3, _, _⟩ := DataW.trod_int Tryz.underlying3 h3
      obtain ⟨m4, e4, _, _⟩ := DataW.trod_int Tryz.underlying3 h4
      obtain ⟨l2, hr, hz⟩ := ints_of h2
      simp only [List.cons.injEq, and_true] at e0 e1 e3 e4
      subst e0 e1 e3 e4
      exact ⟨⟨s0, m1, m3, m4, l2⟩, c, rfl, hr, Nat.le_trans z0 (Nat.le_refl _), hz⟩
set_option maxRecDepth 100000 in
theorem trod_move {fuel : Nat} {cs : List Value} {x : DataW H × List MemPlace} (h : DataW.trod enc Tryz.prog W base (fun _ => true) true fuel 54 cs = some x) :
    ∃ y : Int × Int, cs = [.int .i64 y.1, .int .i64 y.2] := by
  obtain ⟨xs, n, _, _, hl, hlen, hf⟩ := DataW.trod_struct Tryz.underlying54 h
  have hC : Tryz.prog.cellsOf 54 = 2 := by kernel_rfl
  rw [hC] at hl
  have cI : Tryz.prog.cellsOf 3 = 1 := by kernel_rfl
  have h0 := hf 0 _ rfl
  have h1 := hf 1 _ rfl
  change DataW.trod enc _ W base _ _ n 3 (List.take (Tryz.prog.cellsOf 3) (List.drop 0 cs)) = xs[0]? at h0
  change DataW.trod enc _ W base _ _ n 3 (List.take (Tryz.prog.cellsOf 3) (List.drop 1 cs)) = xs[1]? at h1
  rw [cI] at h0 h1
  match cs, hl with
  | [a, b], _ =>
    match xs, hlen with
    | [y0, y1], _ =>
      simp only [List.drop_zero, List.drop_succ_cons, List.take_succ_cons, List.take_zero, List.getElem?_cons_zero, List.getElem?_cons_succ] at h0 h1
      obtain ⟨m0, e0, _, _⟩ := DataW.trod_int Tryz.underlying3 h0
      obtain ⟨m1, e1, _, _⟩ := DataW.trod_int Tryz.underlying3 h1
      simp only [List.cons.injEq, and_true] at e0 e1
      subst e0 e1
      exact ⟨(m0, m1), rfl⟩
theorem add_plain (b o k : Nat) : Addr.add ⟨b, o, none⟩ k = ⟨b, o + k, none⟩ := by
  unfold Addr.add
  split
  · rename_i h; subst h; rfl
  · rfl
theorem plain_addr {b o : Nat} {sn : Option Nat} {u : Value} (h : W.cell? (Addr.add ⟨b, o, sn⟩ 0) = some u) : sn = none := by
  unfold Addr.add World.cell? at h
  simp only [if_true] at h
  split at h
  · split at h
    · cases h
    · rename_i hh; simpa using hh
  · cases h
set_option maxRecDepth 100000 in
theorem moves_of {n : Nat} {v : Value} {y : DataW H × List MemPlace} (h : DataW.trod enc Tryz.prog W base (fun _ => true) true n 36 [v] = some y) : ∃ xs : List (Int × Int), MReads W v xs ∧ xs.length ≤ 9223372036854775807 := by
  have hC : Tryz.prog.cellsOf 54 = 2 := by kernel_rfl
  have hm : maxLen ≤ 9223372036854775807 := Nat.le_refl _
  rcases open_slice Tryz.underlying36 h with ⟨hcs, _⟩ | ⟨a, len, cap, m, n, D, Pl, hcs, _, hl, hc, hmm, _, hi⟩
  · simp at hcs
    subst hcs
    exact ⟨[], .inl ⟨rfl, _, _, rfl⟩, by simp⟩
  · simp at hcs
    subst hcs
    simp only [if_true] at hmm
    have hex : ∀ i, i < len → ∃ y : Int × Int, W.cell? (a.add (i * 2)) = some (.int .i64 y.1) ∧ W.cell? (a.add (i * 2 + 1)) = some (.int .i64 y.2) := by
      intro i hil
      obtain ⟨cs', h1, h2⟩ := hi i (by omega)
      rw [hC] at h1
      obtain ⟨y, rfl⟩ := trod_move h2
      obtain ⟨_, _, h3⟩ := World.cells?_some h1
      refine ⟨y, ?_, ?_⟩
      · have := h3 0 (by omega); rw [add_add] at this; exact this
      · have := h3 1 (by omega); rw [add_add] at this; exact this
    by_cases h0 : len = 0
    · subst h0
      exact ⟨[], .inl ⟨rfl, _, _, rfl⟩, by simp⟩
    · obtain ⟨b, o, sn⟩ := a
      obtain rfl : sn = none := by
        obtain ⟨y, h1, _⟩ := hex 0 (by omega)
        rw [Nat.zero_mul] at h1
        exact plain_addr h1
      simp only [add_plain] at hex
      refine ⟨(List.range len).map fun i => if h : i < len then Classical.choose (hex i h) else (0, 0), .inr ⟨b, o, cap, by simp, fun j hj => ?_⟩, by simp; omega⟩
      have hj : j < len := by simpa using hj
      have hml : ml ((List.range len).map fun i => if h : i < len then Classical.choose (hex i h) else (0, 0)) j = Classical.choose (hex j hj) := by
        simp [ml, hj]
      rw [hml]
      have h := Classical.choose_spec (hex j hj)
      exact ⟨h.1, by rw [Nat.add_assoc]; exact h.2⟩
set_option maxRecDepth 100000 in
theorem trod_event {fuel : Nat} {cs : List Value} {x : DataW H × List MemPlace} (h : DataW.trod enc Tryz.prog W base (fun _ => true) true fuel 38 cs = some x) :
    ∃ (e : Ev) (vd vs vm : Value), cs = [.string e.id, .string e.ti, .int .i64 e.st, .int .i64 e.lg, .string e.ru.fq, .int .i64 e.ru.ev, vd, .int .i64 e.ru.ct, .int .i64 e.ru.un, vs, vm] ∧ Rv W e vd vs vm ∧ Fin64 e := by
  obtain ⟨xs, n, _, _, hl, hlen, hf⟩ := DataW.trod_struct Tryz.underlying38 h
  have hC : Tryz.prog.cellsOf 38 = 11 := by kernel_rfl
  rw [hC] at hl
  have cS : Tryz.prog.cellsOf 9 = 1 := by kernel_rfl
  have cI : Tryz.prog.cellsOf 3 = 1 := by kernel_rfl
  have cL : Tryz.prog.cellsOf 33 = 1 := by kernel_rfl
  have cR : Tryz.prog.cellsOf 35 = 5 := by kernel_rfl
  have cM : Tryz.prog.cellsOf 36 = 1 := by kernel_rfl
  have h0 := hf 0 _ rfl
  have h1 := hf 1 _ rfl
  have h2 := hf 2 _ rfl
  have h3 := hf 3 _ rfl
  have h4 := hf 4 _ rfl
  have h5 := hf 5 _ rfl
  have h6 := hf 6 _ rfl
  change DataW.trod enc _ W base _ _ n 9 (List.take (Tryz.prog.cellsOf 9) (List.drop 0 cs)) = xs[0]? at h0
  change DataW.trod enc _ W base _ _ n 9 (List.take (Tryz.prog.cellsOf 9) (List.drop 1 cs)) = xs[1]? at h1
  change DataW.trod enc _ W base _ _ n 3 (List.take (Tryz.prog.cellsOf 3) (List.drop 2 cs)) = xs[2]? at h2
  change DataW.trod enc _ W base _ _ n 3 (List.take (Tryz.prog.cellsOf 3) (List.drop 3 cs)) = xs[3]? at h3
  change DataW.trod enc _ W base _ _ n 35 (List.take (Tryz.prog.cellsOf 35) (List.drop 4 cs)) = xs[4]? at h4
  change DataW.trod enc _ W base _ _ n 33 (List.take (Tryz.prog.cellsOf 33) (List.drop 9 cs)) = xs[5]? at h5
  change DataW.trod enc _ W base _ _ n 36 (List.take (Tryz.prog.cellsOf 36) (List.drop 10 cs)) = xs[6]? at h6
  rw [cS] at h0 h1
  rw [cI] at h2 h3
  rw [cR] at h4
  rw [cL] at h5
  rw [cM] at h6
  match cs, hl with
  | [c0, c1, c2, c3, c4, c5, c6, c7, c8, c9, c10], _ =>
    match xs, hlen with
    | [y0, y1, y2, y3, y4, y5, y6], _ =>
      simp only [List.drop_zero, List.drop_succ_cons, List.take_succ_cons, List.take_zero, List.getElem?_cons_zero, List.getElem?_cons_succ] at h0 h1 h2 h3 h4 h5 h6
      obtain ⟨s0, e0, _, z0⟩ := DataW.trod_string Tryz.underlying9 h0
      obtain ⟨s1, e1, _, z1⟩ := DataW.trod_string Tryz.underlying9 h1
      obtain ⟨m2, e2, _, _⟩ := DataW.trod_int Tryz.underlying3 h2
      obtain ⟨m3, e3, _, _⟩ := DataW.trod_int Tryz.underlying3 h3
      obtain ⟨r, sl, e4, hr, zf, zd⟩ := trod_rule h4
      obtain ⟨l5, hs, zs⟩ := ints_of h5
      obtain ⟨l6, hm, zm⟩ := moves_of h6
      simp only [List.cons.injEq, and_true] at e0 e1 e2 e3 e4
      obtain ⟨rfl, rfl, rfl, rfl, rfl⟩ := e4
      subst e0 e1 e2 e3
      exact ⟨⟨s0, s1, m2, m3, r, l5, l6⟩, c6, c9, c10, rfl, ⟨hr, hs, hm⟩, ⟨Nat.le_trans z0 (Nat.le_refl _), Nat.le_trans z1 (Nat.le_refl _), zf, zd, zs, zm⟩⟩
set_option maxRecDepth 100000 in
theorem open_event {v : Value} {d : DataW H} {p : List MemPlace} {r : Reach} {b0 : Nat}
    (hv : Value.okWide Tryz.prog W r b0 38 v) (h : DataW.Trod enc Tryz.prog W base (fun _ => true) true 38 v d p) :
    ∃ (e : Ev) (vd vs vm : Value), v = e.val vd vs vm ∧ Rv W e vd vs vm ∧ Fin64 e := by
  obtain ⟨cs, rfl, hsz⟩ := okWide_struct Tryz.underlying38 hv
  obtain ⟨fuel, hf⟩ := h
  obtain ⟨e, vd, vs, vm, hcs, hr, hz⟩ := trod_event hf
  refine ⟨e, vd, vs, vm, ?_, hr, hz⟩
  simp only [Value.cells] at hcs
  unfold Ev.val
  congr 1
  exact Array.ext' (by simpa using hcs)
end
end Evt
end Go.Proofs.YtkhkhbeolhhomaaGreatDoor
end
