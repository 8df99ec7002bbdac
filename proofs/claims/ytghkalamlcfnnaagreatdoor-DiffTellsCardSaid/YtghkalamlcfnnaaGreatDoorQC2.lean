/- DfL, DfW, TSort: texts joined. -/
import Derived.Test.YtghkalamlcfnnaaGreatDoorQC1
import Derived.Test.YtghkalamlcfnnaaGreatDoorQBkRef
import Derived.Laws.AppendOwnNone
import Derived.Deep.CutRange
import Derived.Test.YtghkalamlcfnnaaGreatDoorQA5
import Derived.Test.YtghkalamlcfnnaaGreatDoorQA14
import Derived.Shelf.Slices.CompactS
import Derived.Lib.SlicesCompact
section
namespace Go.Proofs.YtghkalamlcfnnaaGreatDoor
open Go Go.RowKit Lmd
namespace Df
open Evt Bk Rul Day Cand Er Tp
def evAt (k : List UInt8) (L : List Ev) : Option Ev := L.find? fun e => decide (key e = k)
theorem at_mem {k : List UInt8} {L : List Ev} (ha : Asc L) {e : Ev} : evAt k L = some e ↔ e ∈ L ∧ key e = k := by
  constructor
  · intro h
    exact ⟨List.mem_of_find?_eq_some h, by simpa using List.find?_some h⟩
  · rintro ⟨h1, rfl⟩
    cases hf : evAt (key e) L with
    | none => exact absurd (decide_eq_true rfl) (List.find?_eq_none.1 hf e h1)
    | some x =>
      have h2 := List.mem_of_find?_eq_some hf
      have h3 : key x = key e := by simpa using List.find?_some hf
      rw [key_one ha h2 h1 h3]
theorem at_none {k : List UInt8} {L : List Ev} : evAt k L = none ↔ hasK k L = false := by
  unfold evAt
  rw [List.find?_eq_none, hasK_false]
  simp
theorem found_at {k : List UInt8} {L : List Ev} {e : Ev} (h : evAt k L = some e) : foundE k L = e ∧ hasK k L = true := by
  constructor
  · unfold foundE; change (evAt k L).getD _ = e; rw [h]; rfl
  · cases hh : hasK k L with
    | true => rfl
    | false => rw [← at_none, h] at hh; cases hh
theorem at_with {k : List UInt8} {L : List Ev} (ha : Asc L) (e : Ev) : evAt k (withE e L) = if k = key e then some e else evAt k L := by
  refine Option.ext fun x => ?_
  rw [at_mem (asc_withE ha), mem_withE]
  split
  · rename_i hk
    subst hk
    constructor
    · rintro ⟨h | ⟨_, h⟩, h2⟩
      · rw [h]
      · exact absurd h2 h
    · intro h; cases h; exact ⟨.inl rfl, rfl⟩
  · rename_i hk
    rw [at_mem ha]
    constructor
    · rintro ⟨h | ⟨h, _⟩, h2⟩
      · exact absurd (by rw [← h2, h]) hk
      · exact ⟨h, h2⟩
    · rintro ⟨h, h2⟩; exact ⟨.inr ⟨h, fun e => hk (by rw [← h2, e])⟩, h2⟩
theorem at_without {k k' : List UInt8} {L : List Ev} (ha : Asc L) : evAt k (without k' L) = if k = k' then none else evAt k L := by
  refine Option.ext fun x => ?_
  rw [at_mem (asc_without ha k'), mem_without]
  split
  · rename_i hk
    subst hk
    constructor
    · rintro ⟨⟨_, h⟩, h2⟩; exact absurd h2 h
    · intro h; cases h
  · rename_i hk
    rw [at_mem ha]
    constructor
    · rintro ⟨⟨h, _⟩, h2⟩; exact ⟨h, h2⟩
    · rintro ⟨h, h2⟩; exact ⟨⟨h, fun e => hk (by rw [← h2, e])⟩, h2⟩
noncomputable instance decMem (f : ByteArray) (l : List ByteArray) : Decidable (f ∈ l) := Classical.propDecidable _
structure Chg where
  (id fi old new : ByteArray)
abbrev Chg.k (c : Chg) : List UInt8 := c.id.data.toList
def allB : ByteArray := ⟨#[97, 108, 108]⟩
def nilB : ByteArray := ⟨#[]⟩
noncomputable def difF (F : List ByteArray) (a b : List Ev) (id : ByteArray) : List Chg :=
  if hasK id.data.toList a = false then [⟨id, allB, nilB, mk (textE (foundE id.data.toList b))⟩]
  else if hasK id.data.toList b = false then [⟨id, allB, mk (textE (foundE id.data.toList a)), nilB⟩]
  else (F.filter fun f => decide (getL (foundE id.data.toList a) f ≠ getL (foundE id.data.toList b) f)).map fun f => ⟨id, f, getL (foundE id.data.toList a) f, getL (foundE id.data.toList b) f⟩
noncomputable def chK (c : Chg) (L : List Ev) : Nat :=
  if c.fi = allB then
    (if decide (c.old = nilB) = decide (c.new = nilB) then 3
     else if c.new = nilB then (if hasK c.k L = false then 5 else if mk (textE (foundE c.k L)) ≠ c.old then 9 else 0)
     else if hasK c.k L = true then 6 else if readC c.new ≠ 0 then readC c.new else if (readE c.new).id ≠ c.id then 4 else putK (readE c.new) L)
  else if c.fi ∉ fieldL then 4
  else if hasK c.k L = false then 5
  else if getL (foundE c.k L) c.fi ≠ c.old then 9
  else if setC (foundE c.k L) c.fi c.new ≠ 0 then setC (foundE c.k L) c.fi c.new
  else putK (setE (foundE c.k L) c.fi c.new) L
noncomputable def chL (c : Chg) (L : List Ev) : List Ev :=
  if chK c L ≠ 0 then L else if c.fi = allB then (if c.new = nilB then without c.k L else withE (readE c.new) L) else withE (setE (foundE c.k L) c.fi c.new) L
noncomputable def apL : Nat → List Ev → List Chg → Nat × Nat × List Ev
  | i, L, [] => (0, i, L)
  | i, L, c :: t => if chK c L ≠ 0 then (chK c L, i, L) else apL (i + 1) (chL c L) t
noncomputable def chV (c : Chg) (L : List Ev) : Option Ev := if c.fi = allB then (if c.new = nilB then none else some (readE c.new)) else some (setE (foundE c.k L) c.fi c.new)
theorem putK_zero {e : Ev} {L : List Ev} (h : putK e L = 0) : badE e = 0 ∧ (hasK (key e) L = true ∨ L.length < 60) := by
  unfold putK at h
  split at h
  · rename_i hb; exact absurd h hb
  · rename_i hb
    refine ⟨by simpa using hb, ?_⟩
    split at h
    · cases h
    · rename_i hf
      cases hh : hasK (key e) L with
      | true => exact .inl rfl
      | false => exact .inr (by rw [hh] at hf; simpa using hf)
theorem set_id (x : Ev) (f s : ByteArray) (h : setC x f s = 0) : (setE x f s).id = x.id := by
  unfold setE; rw [if_pos h]
  unfold putE
  repeat' split
  all_goals rfl
structure Good (L : List Ev) : Prop where
  asc : Asc L
  good : ∀ e ∈ L, badE e = 0
  few : L.length ≤ 60
theorem Good.without {L : List Ev} (h : Good L) (k : List UInt8) : Good (without k L) :=
  ⟨asc_without h.asc k, fun e he => h.good e (mem_without.1 he).1, Nat.le_trans (length_without_le k L) h.few⟩
theorem Good.with {L : List Ev} (h : Good L) {e : Ev} (hp : putK e L = 0) : Good (withE e L) := by
  obtain ⟨h1, h2⟩ := putK_zero hp
  refine ⟨asc_withE h.asc, fun x hx => ?_, ?_⟩
  · rcases mem_withE.1 hx with rfl | ⟨hx, _⟩
    · exact h1
    · exact h.good x hx
  · have := h.few
    rw [length_withE h.asc]
    split
    · exact this
    · rename_i hn
      rcases h2 with h2 | h2
      · exact absurd h2 hn
      · omega
theorem ch_good {c : Chg} {L : List Ev} (h : Good L) (hk : chK c L = 0) : Good (chL c L) ∧ ∀ k, evAt k (chL c L) = if k = c.k then chV c L else evAt k L := by
  have hL : chL c L = if c.fi = allB then (if c.new = nilB then Bk.without c.k L else withE (readE c.new) L) else withE (setE (foundE c.k L) c.fi c.new) L := by
    unfold chL; rw [if_neg (by rw [hk]; simp)]
  rw [hL]
  unfold chV
  unfold chK at hk
  by_cases h1 : c.fi = allB
  · rw [if_pos h1] at hk
    rw [if_pos h1, if_pos h1]
    split at hk
    · cases hk
    · by_cases h2 : c.new = nilB
      · rw [if_pos h2, if_pos h2]
        exact ⟨h.without _, fun k => at_without h.asc⟩
      · rw [if_neg h2] at hk
        rw [if_neg h2, if_neg h2]
        split at hk
        · cases hk
        · split at hk
          · rename_i h3; exact absurd hk h3
          · split at hk
            · cases hk
            · rename_i h3
              have h4 : (readE c.new).id = c.id := Decidable.not_not.1 h3
              have h5 : key (readE c.new) = c.k := by unfold key; rw [h4]
              refine ⟨h.with hk, fun k => ?_⟩
              rw [at_with h.asc, h5]
  · rw [if_neg h1] at hk
    rw [if_neg h1, if_neg h1]
    split at hk
    · cases hk
    · split at hk
      · cases hk
      · rename_i h3
        split at hk
        · cases hk
        · split at hk
          · rename_i h4; exact absurd hk h4
          · rename_i h4
            have h4' : setC (foundE c.k L) c.fi c.new = 0 := Decidable.not_not.1 h4
            have h5 : key (setE (foundE c.k L) c.fi c.new) = c.k := by
              unfold key
              rw [set_id _ _ _ h4']
              exact (foundE_has (by simpa using h3)).2
            refine ⟨h.with hk, fun k => ?_⟩
            rw [at_with h.asc, h5]
noncomputable def difU (F U : List ByteArray) (a b : List Ev) : List Chg := U.flatMap (difF F a b)
def Chg.back (c : Chg) : Chg := ⟨c.id, c.fi, c.new, c.old⟩
end Df
end Go.Proofs.YtghkalamlcfnnaaGreatDoor
end
section
namespace Go.Proofs.YtghkalamlcfnnaaGreatDoor
open Go Go.ChangeShapes Go.WideShapes Go.RowKit Go.Deep Lmd
attribute [local go_sem] Oper.semAt_some
namespace Df
open Evt Bk
def zC : Chg := ⟨⟨#[]⟩, ⟨#[]⟩, ⟨#[]⟩, ⟨#[]⟩⟩
def elc (xs : List Chg) (i : Nat) : Chg := xs[i]?.getD zC
theorem elc_lt {xs : List Chg} {i : Nat} (h : i < xs.length) : elc xs i = xs[i] := by simp [elc, h]
theorem elc_mem {xs : List Chg} {i : Nat} (h : i < xs.length) : elc xs i ∈ xs := by rw [elc_lt h]; exact List.getElem_mem h
theorem elc_drop {xs : List Chg} {k : Nat} (h : k < xs.length) : xs.drop k = elc xs k :: xs.drop (k + 1) := by
  rw [List.drop_eq_getElem_cons h, elc_lt h]
abbrev Chg.cells (c : Chg) : Array Value := #[.string c.id, .string c.fi, .string c.old, .string c.new]
abbrev Chg.cs (c : Chg) : List Value := [.string c.id, .string c.fi, .string c.old, .string c.new]
structure At4 (W : World) (b o : Nat) (c : Chg) : Prop where
  k0 : W.cell? ⟨b, o, none⟩ = some (.string c.id)
  k1 : W.cell? ⟨b, o + 1, none⟩ = some (.string c.fi)
  k2 : W.cell? ⟨b, o + 2, none⟩ = some (.string c.old)
  k3 : W.cell? ⟨b, o + 3, none⟩ = some (.string c.new)
theorem At4.below {w w' : World} {b o : Nat} {c : Chg} (h : At4 w b o c) (hb : Below w.heap.size w w') : At4 w' b o c := ⟨cell_later hb h.k0, cell_later hb h.k1, cell_later hb h.k2, cell_later hb h.k3⟩
theorem at4_of {w : World} {b o : Nat} {c : Chg} (h : ∀ i u, c.cs[i]? = some u → w.cell? ⟨b, o + i, none⟩ = some u) : At4 w b o c := ⟨h 0 _ rfl, h 1 _ rfl, h 2 _ rfl, h 3 _ rfl⟩
theorem At4.of {w : World} {b o : Nat} {c : Chg} (h : At4 w b o c) : ∀ i u, c.cs[i]? = some u → w.cell? ⟨b, o + i, none⟩ = some u := by
  intro i u hu
  match i, hu with
  | 0, hu => cases hu; exact h.k0
  | 1, hu => cases hu; exact h.k1
  | 2, hu => cases hu; exact h.k2
  | 3, hu => cases hu; exact h.k3
  | i + 4, hu => cases hu
theorem at4_box {w : World} {b : Nat} {c : Chg} {t : TypeId} (h : w.heap[b]? = some (.cells c.cells t)) : At4 w b 0 c :=
  ⟨by simp [World.cell?, h], by simp [World.cell?, h], by simp [World.cell?, h], by simp [World.cell?, h]⟩
def CReads (W : World) (v : Value) (xs : List Chg) : Prop :=
  (xs = [] ∧ ∃ a c, v = .slice a 0 c ∧ (a = none → c = 0)) ∨ ∃ b off c, v = .slice (some ⟨b, off, none⟩) xs.length c ∧ ∀ j, j < xs.length → At4 W b (off + j * 4) (elc xs j)
theorem CReads.shape {w : World} {v : Value} {xs : List Chg} (h : CReads w v xs) : ∃ a c, v = .slice a xs.length c := by
  rcases h with ⟨rfl, a, c, rfl, _⟩ | ⟨b, off, c, rfl, _⟩
  · exact ⟨a, c, rfl⟩
  · exact ⟨_, c, rfl⟩
theorem CReads.at {w : World} {a : Option Addr} {n cap : Nat} {xs : List Chg} (h : CReads w (.slice a n cap) xs) (hx : xs ≠ []) :
    n = xs.length ∧ ∃ b off, a = some ⟨b, off, none⟩ ∧ ∀ j, j < xs.length → At4 w b (off + j * 4) (elc xs j) := by
  rcases h with ⟨rfl, _⟩ | ⟨b, off, cap', e, hc⟩
  · exact absurd rfl hx
  · cases e; exact ⟨rfl, b, off, rfl, hc⟩
theorem CReads.below {w w' : World} {v : Value} {xs : List Chg} (h : CReads w v xs) (hb : Below w.heap.size w w') : CReads w' v xs := by
  rcases h with h | ⟨b, off, c, rfl, hc⟩
  · exact .inl h
  · exact .inr ⟨b, off, c, rfl, fun j hj => (hc j hj).below hb⟩
def cellsC (xs : List Chg) : List Value := xs.flatMap Chg.cs
theorem cellsC_app (xs ys : List Chg) : cellsC (xs ++ ys) = cellsC xs ++ cellsC ys := by simp [cellsC]
theorem cellsC_len (xs : List Chg) : (cellsC xs).length = xs.length * 4 := by
  induction xs with
  | nil => rfl
  | cons m t ih => simp only [cellsC, List.flatMap_cons, List.length_append, List.length_cons, List.length_nil] at ih ⊢; omega
theorem cellsC_at : ∀ {xs : List Chg} {j : Nat}, j < xs.length → ∀ {i : Nat} {u : Value}, (elc xs j).cs[i]? = some u → (cellsC xs)[j * 4 + i]? = some u
  | [], j, h, _, _, _ => absurd h (Nat.not_lt_zero _)
  | m :: t, 0, _, i, u, hu => by
    have hu' : m.cs[i]? = some u := hu
    have hi : i < m.cs.length := (List.getElem?_eq_some_iff.1 hu').1
    show (m.cs ++ cellsC t)[0 * 4 + i]? = some u
    rw [Nat.zero_mul, Nat.zero_add, List.getElem?_append_left hi]; exact hu'
  | m :: t, j + 1, h, i, u, hu => by
    have := cellsC_at (xs := t) (j := j) (by simpa using h) (i := i) (u := u) hu
    show (m.cs ++ cellsC t)[(j + 1) * 4 + i]? = some u
    have e1 : (j + 1) * 4 + i = m.cs.length + (j * 4 + i) := by show _ = 4 + _; omega
    rw [e1, List.getElem?_append_right (by omega), Nat.add_sub_cancel_left]; exact this
theorem cellsC_cell : ∀ {xs : List Chg} {p : Nat} {u : Value}, (cellsC xs)[p]? = some u → ∃ j i, j < xs.length ∧ p = j * 4 + i ∧ (elc xs j).cs[i]? = some u
  | [], _, _, h => by simp [cellsC] at h
  | m :: t, p, u, h => by
    change (m.cs ++ cellsC t)[p]? = some u at h
    by_cases hp : p < 4
    · rw [List.getElem?_append_left (by show p < 4; exact hp)] at h
      exact ⟨0, p, by simp, by simp, h⟩
    · rw [List.getElem?_append_right (by show 4 ≤ p; omega)] at h
      obtain ⟨j, i, h1, h2, h3⟩ := cellsC_cell h
      refine ⟨j + 1, i, by simpa using h1, ?_, h3⟩
      change p - 4 = _ at h2
      omega
theorem creads_own {w : World} {base n : Nat} {v : Value} {xs : List Chg} (h : w.ownsRow base 55 4 v n (cellsC xs)) (hn : n = xs.length) : CReads w v xs := by
  subst hn
  rcases h.2 with ⟨rfl, h0⟩ | ⟨g, cap, cur, rfl, _, hh, _, _, _, ht⟩
  · exact .inl ⟨List.length_eq_zero_iff.1 h0, none, 0, rfl, fun _ => rfl⟩
  · refine .inr ⟨g, 0, cap, rfl, fun j hj => at4_of fun i u hu => ?_⟩
    have h1 := cellsC_at hj hu
    have hi : i < 4 := (List.getElem?_eq_some_iff.1 hu).1
    rw [← ht, List.getElem?_take_of_lt (by omega)] at h1
    simp only [World.cell?, hh, Nat.zero_add]
    simpa using h1
theorem chg_info : (Tryz.prog.info? 55).map (fun i => (i.zero, i.size, i.bytes)) = some (some (.agg #[.string ⟨#[]⟩, .string ⟨#[]⟩, .string ⟨#[]⟩, .string ⟨#[]⟩]), 4, 64) := by kernel_rfl
theorem append_chs {w : World} {ops : Array Oper} {rest : List Oper} {o : Oper} {a : Act} {Q : Exit → Act → World → Prop} (hgd : o.guard = none) (s x : Operand)
    (ho : o.op = .call { callee := .builtin .append, args := #[s, x], argTypes := #[53, 53] })
    (base : Nat) (v vy : Value) (xs ys : List Chg) (hs : a.eval s = v) (hown : w.ownsRow base 55 4 v xs.length (cellsC xs)) (hx : a.eval x = vy) (hy : CReads w vy ys) (hb : xs.length ≤ 3000000) (hby : ys.length ≤ 3000000) (hbase : base ≤ w.heap.size)
    (h : ∀ a' c' w', w'.ownsRow base 55 4 (.slice a' (xs ++ ys).length c') (xs ++ ys).length (cellsC (xs ++ ys)) → Below base w w' → (w' = w ∨ w.grownBy w' v.ownBlock) → wpList Tryz.prog ops Q rest (a.put o.dst (.slice a' (xs ++ ys).length c')) w') : wpList Tryz.prog ops Q (o :: rest) a w := by
  obtain ⟨i0, hi0, hz0, hz1, hz2⟩ := info_parts chg_info
  have hyes : ∀ (ad : Addr) (c : Nat), vy = .slice (some ad) ys.length c → (∀ j u, (cellsC ys)[j]? = some u → w.cell? (ad.add j) = some u) → wpList Tryz.prog ops Q (o :: rest) a w := fun ad c e hc => by
    subst e
    refine wpList_append_own _ hgd s x 53 ho base 55 i0 _ 4 64 Tryz.underlying53 hi0 hz0 hz1 hz2 rfl (by omega) v xs.length (cellsC xs) hs hown ad ys.length c (cellsC ys) hx (cellsC_len ys) hc (fun u hu => ?_) (by simp only [maxLen]; omega) (by omega) hbase ?_
    · unfold cellsC at hu
      obtain ⟨y, _, hu⟩ := List.mem_flatMap.1 hu
      simp only [List.mem_cons, List.not_mem_nil, or_false] at hu
      rcases hu with rfl | rfl | rfl | rfl <;> rfl
    · intro v' w' h1 h2 _
      obtain ⟨a1, c1, rfl⟩ := own_at h1
      have h3 : w'.ownsRow base 55 4 (.slice a1 (xs.length + ys.length) c1) (xs ++ ys).length (cellsC (xs ++ ys)) := by rw [cellsC_app, List.length_append]; exact h1
      have h4 := h a1 c1 w'
      rw [List.length_append] at h4
      rw [List.length_append] at h3
      exact h4 h3 ((Below.refl base w).grown h2 hbase (fun j ej => Evt.own_ge hown ej)) (.inr h2)
  rcases hy with ⟨rfl, ad, c, rfl, h0⟩ | ⟨b, off, c, rfl, hc⟩
  · cases ad with
    | none =>
      obtain rfl := h0 rfl
      obtain ⟨a1, c1, e1⟩ := own_at hown
      refine wpList_append_own_none hgd s x 53 ho base 55 i0 4 Tryz.underlying53 hi0 v xs.length (cellsC xs) hs hown hx ?_
      have h4 := h a1 c1 w
      rw [List.append_nil] at h4
      rw [e1]
      exact h4 (by rw [← e1]; exact hown) (Below.refl base w) (.inl rfl)
    | some ad => exact hyes ad c rfl (fun j u hu => by simp [cellsC] at hu)
  · refine hyes ⟨b, off, none⟩ c rfl fun p u hu => ?_
    obtain ⟨j, i, hj, rfl, hu2⟩ := cellsC_cell hu
    rw [Evt.add_plain, ← Nat.add_assoc]
    exact (hc j hj).of i u hu2
theorem append_ch {w : World} {ops : Array Oper} {rest : List Oper} {o : Oper} {a : Act} {Q : Exit → Act → World → Prop} (hgd : o.guard = none) (s x : Operand)
    (ho : o.op = .call { callee := .builtin .append, args := #[s, x], argTypes := #[53, 53] })
    (base : Nat) (v : Value) (xs : List Chg) (hs : a.eval s = v) (hown : w.ownsRow base 55 4 v xs.length (cellsC xs)) (g : Nat) (y : Chg) (hx : a.eval x = .slice (some ⟨g, 0, none⟩) 1 1)
    (hg : At4 w g 0 y) (hb : xs.length ≤ 3000000) (hbase : base ≤ w.heap.size)
    (h : ∀ a' c' w', w'.ownsRow base 55 4 (.slice a' (xs.length + 1) c') (xs ++ [y]).length (cellsC (xs ++ [y])) → Below base w w' → wpList Tryz.prog ops Q rest (a.put o.dst (.slice a' (xs.length + 1) c')) w') : wpList Tryz.prog ops Q (o :: rest) a w := by
  refine append_chs hgd s x ho base v (.slice (some ⟨g, 0, none⟩) 1 1) xs [y] hs hown hx (.inr ⟨g, 0, 1, rfl, fun j hj => ?_⟩) hb (by simp) hbase ?_
  · obtain rfl : j = 0 := by simpa using hj
    exact hg
  · intro a' c' w' h1 h2 _
    have h3 := h a' c' w'
    have e : (xs ++ [y]).length = xs.length + 1 := by simp
    rw [e] at h1 ⊢
    rw [e] at h3
    exact h3 h1 h2
end Df
end Go.Proofs.YtghkalamlcfnnaaGreatDoor
end
section
namespace Lmd.Cps
open Go Go.Lib
theorem get_snoc {d : List (List UInt8)} {m : Nat} (h : m < d.length) : d.take (m + 1) = d.take m ++ [d[m]] := by
  rw [List.take_add_one, List.getElem?_eq_getElem h]; rfl
theorem compact_upto {d : List (List UInt8)} (h : d.Pairwise (· ≤ ·)) : ∀ m, m ≤ d.length → (compactUpTo d.toArray m).Pairwise (· < ·) ∧ (∀ x, x ∈ compactUpTo d.toArray m ↔ x ∈ d.take m)
  | 0, _ => by simp [compactUpTo]
  | m + 1, hm => by
    obtain ⟨h1, h2⟩ := compact_upto h m (by omega)
    have hlt : m < d.length := by omega
    rw [compactUpTo_succ, get_snoc hlt]
    have hg : d.toArray[m]! = d[m] := by simp [getElem!_pos, hlt]
    by_cases h0 : m = 0
    · subst h0
      have hk : keeps d.toArray 0 = true := by simp [keeps]
      rw [hk, hg]
      simp [compactUpTo]
    · have hl2 : m - 1 < d.length := by omega
      have hg2 : d.toArray[m - 1]! = d[m - 1] := by simp [getElem!_pos, hl2]
      have hle : ∀ x ∈ d.take m, x ≤ d[m - 1] := by
        intro x hx
        obtain ⟨i, hi, rfl⟩ := List.getElem_of_mem hx
        rw [List.length_take] at hi
        rw [List.getElem_take]
        by_cases e : i = m - 1
        · subst e; exact List.le_refl _
        · exact List.pairwise_iff_getElem.1 h i (m - 1) (by omega) hl2 (by omega)
      have hmm : d[m - 1] ≤ d[m] := List.pairwise_iff_getElem.1 h (m - 1) m hl2 hlt (by omega)
      by_cases e : d[m] = d[m - 1]
      · have hk : keeps d.toArray m = false := keeps_neg (by omega) (by rw [hg, hg2]; exact e)
        rw [hk]
        simp only [Bool.false_eq_true, if_false, List.append_nil]
        refine ⟨h1, fun x => ?_⟩
        rw [h2 x, List.mem_append, List.mem_singleton]
        constructor
        · exact .inl
        · rintro (hx | rfl)
          · exact hx
          · rw [e]
            have : (d.take m)[m - 1]'(by rw [List.length_take]; omega) = d[m - 1] := List.getElem_take
            rw [← this]; exact List.getElem_mem _
      · have hk : keeps d.toArray m = true := keeps_pos (by rw [hg, hg2]; exact e)
        rw [hk, hg]
        simp only [if_true]
        refine ⟨?_, fun x => ?_⟩
        · rw [List.pairwise_append]
          refine ⟨h1, by simp, fun a ha b hb => ?_⟩
          simp at hb; subst hb
          have h3 := hle a ((h2 a).1 ha)
          have h4 := List.le_trans h3 hmm
          by_cases h5 : a < d[m]
          · exact h5
          · exfalso
            have h6 : a = d[m] := List.le_antisymm h4 (List.not_lt.1 h5)
            rw [h6] at h3
            exact e (List.le_antisymm h3 hmm)
        · rw [List.mem_append, List.mem_append, h2 x]
theorem compact_rise {d : List (List UInt8)} (h : d.Pairwise (· ≤ ·)) : (compact d).Pairwise (· < ·) ∧ ∀ x, x ∈ compact d ↔ x ∈ d := by
  have := compact_upto h d.length (Nat.le_refl _)
  rw [List.take_length] at this
  exact this
theorem sort_rise (l : List (List UInt8)) : (l.mergeSort fun x y => decide (x ≤ y)).Pairwise (· ≤ ·) := by
  have := List.pairwise_mergeSort (le := fun x y : List UInt8 => decide (x ≤ y)) (fun a b c h1 h2 => decide_eq_true (List.le_trans (of_decide_eq_true h1) (of_decide_eq_true h2))) (fun a b => by rw [Bool.or_eq_true, decide_eq_true_eq, decide_eq_true_eq]; exact List.le_total a b) l
  exact this.imp (fun h => of_decide_eq_true h)
theorem sort_mem (l : List (List UInt8)) (x : List UInt8) : x ∈ (l.mergeSort fun x y => decide (x ≤ y)) ↔ x ∈ l := (List.mergeSort_perm l _).mem_iff
def uniq (l : List (List UInt8)) : List (List UInt8) := compact (l.mergeSort fun x y => decide (x ≤ y))
theorem uniq_mem (l : List (List UInt8)) (x : List UInt8) : x ∈ uniq l ↔ x ∈ l := ((compact_rise (sort_rise l)).2 x).trans (sort_mem l x)
end Lmd.Cps
namespace Go.Proofs.YtghkalamlcfnnaaGreatDoor
open Go Go.RowKit Go.Shelf Lmd
open Go.Proofs (encStr)
namespace Txs
open Rul Day Cand Evt
def els (xs : List (List UInt8)) (j : Nat) : List UInt8 := xs[j]?.getD []
theorem els_lt {xs : List (List UInt8)} {i : Nat} (h : i < xs.length) : els xs i = xs[i] := by simp [els, h]
theorem els_mem {xs : List (List UInt8)} {i : Nat} (h : i < xs.length) : els xs i ∈ xs := by rw [els_lt h]; exact List.getElem_mem h
theorem arr_els (xs : List (List UInt8)) (j : Nat) : (xs.toArray)[j]! = els xs j := by
  unfold els
  rw [Array.getElem!_eq_getD, Array.getD_eq_getD_getElem?]
  simp
  rfl
def RowS (w : World) (v : Value) (xs : List (List UInt8)) : Prop :=
  (xs = [] ∧ v = .slice none 0 0) ∨ ∃ g off cap t cur, v = .slice (some ⟨g, off, none⟩) xs.length cap ∧ xs.length ≤ cap ∧ w.heap[g]? = some (.cells cur t (0, 0)) ∧ Sort.Holds encStr w g off xs.toArray
theorem rowS_own {w : World} {base : Nat} {v : Value} {xs : List (List UInt8)} (h : w.ownsRow base 9 1 v xs.length (xs.map encStr)) : RowS w v xs := by
  rcases h.2 with ⟨rfl, h0⟩ | ⟨g, cap, cur, rfl, hb, hh, h1, h2, h3, ht⟩
  · exact .inl ⟨List.length_eq_zero_iff.1 h0, rfl⟩
  · refine .inr ⟨g, 0, cap, _, cur, rfl, h1, hh, fun j hj => ?_⟩
    have hj' : j < xs.length := by simpa using hj
    have hc : (xs.map encStr)[j]? = some (encStr (els xs j)) := by rw [List.getElem?_map, List.getElem?_eq_getElem hj', els_lt hj']; rfl
    rw [← ht, Nat.mul_one, List.getElem?_take_of_lt hj'] at hc
    refine ⟨?_, ?_⟩
    · rw [arr_els]
      simp only [World.cell?, hh, Nat.zero_add]
      simpa using hc
    · simp [World.frozen?, hh]
theorem RowS.cells {w : World} {v : Value} {xs : List (List UInt8)} (h : RowS w v xs) : (xs = [] ∧ v = .slice none 0 0) ∨ ∃ g off cap, v = .slice (some ⟨g, off, none⟩) xs.length cap ∧ ∀ j, j < xs.length → w.cell? ⟨g, off + j, none⟩ = some (.string (mk (els xs j))) := by
  rcases h with h | ⟨g, off, cap, t, cur, rfl, h1, hh, hH⟩
  · exact .inl h
  · refine .inr ⟨g, off, cap, rfl, fun j hj => ?_⟩
    have := (hH j (by simpa using hj)).1
    rwa [arr_els] at this
theorem RowS.shape {w : World} {v : Value} {xs : List (List UInt8)} (h : RowS w v xs) : ∃ a c, v = .slice a xs.length c := by
  rcases h with ⟨rfl, rfl⟩ | ⟨g, off, cap, t, cur, rfl, _⟩
  · exact ⟨_, _, rfl⟩
  · exact ⟨_, _, rfl⟩
theorem put_size (enc : List UInt8 → Value) (w : World) (g off : Nat) (d : Array (List UInt8)) : (Sort.putRow enc w g off d).heap.size = w.heap.size := by
  simp [Sort.putRow, Sort.mapBlock]
theorem put_other (enc : List UInt8 → Value) (w : World) (g off : Nat) (d : Array (List UInt8)) {k : Nat} (h : k ≠ g) : (Sort.putRow enc w g off d).heap[k]? = w.heap[k]? := by
  simp only [Sort.putRow, Sort.mapBlock, Array.getElem?_modify]
  rw [if_neg (Ne.symm h)]
theorem put_at (enc : List UInt8 → Value) (w : World) (g off : Nat) (d : Array (List UInt8)) {cur : Array Value} {t : TypeId} {fr : Nat × Nat} (h : w.heap[g]? = some (.cells cur t fr)) : (Sort.putRow enc w g off d).heap[g]? = some (.cells (Sort.putCells enc off d cur) t fr) := by
  simp only [Sort.putRow, Sort.mapBlock, Array.getElem?_modify, h, if_true, Option.map_some]
  rfl
theorem grown_put (enc : List UInt8 → Value) (w : World) (n g off : Nat) (d : Array (List UInt8)) (os : Array Obj) : w.grownBy (Sort.grow (Sort.putRow enc (Sort.ahead w n) g off d) os) (some g) := by
  refine ⟨rfl, rfl, rfl, ?_, fun k hk hne => ?_⟩
  · show w.heap.size ≤ ((Sort.putRow enc (Sort.ahead w n) g off d).heap ++ os).size
    rw [Array.size_append, put_size]; exact Nat.le_add_right _ _
  · have hk2 : k < (Sort.putRow enc (Sort.ahead w n) g off d).heap.size := by rw [put_size]; exact hk
    rw [grow_old hk2, put_other enc _ g off d (fun e => hne (by rw [e]))]
    rfl
theorem holds_grow {enc : List UInt8 → Value} {w : World} {g off : Nat} {d : Array (List UInt8)} {os : Array Obj} (hg : g < w.heap.size) (h : Sort.Holds enc w g off d) : Sort.Holds enc (Sort.grow w os) g off d := fun j hj => by
  have := h j hj
  simp only [World.cell?, World.frozen?] at this ⊢
  rw [grow_old hg]; exact this
theorem sort_len (xs : List (List UInt8)) : (xs.mergeSort fun x y => decide (x ≤ y)).length = xs.length := List.length_mergeSort xs
theorem sort_any (v : Value) (xs : List (List UInt8)) (w : World) (h : RowS w v xs) (hl : xs.length ≤ 3000000) :
    Calls Tryz.prog 38 #[v] w fun e w' => e = .returned (.tuple #[]) ∧ RowS w' v (xs.mergeSort fun x y => decide (x ≤ y)) ∧ w.grownBy w' v.ownBlock := by
  rcases h with ⟨rfl, rfl⟩ | ⟨g, off, cap, t, cur, rfl, h1, hh, hH⟩
  · exact (AnyM.slices_Sort_string_none Tryz.sortSm none 0 w).mono fun _ _ ⟨h1, h2⟩ => ⟨h1, .inl ⟨by simp, rfl⟩, by rw [h2]; exact World.grownBy.refl _ _⟩
  · have hg := row_lt hh
    refine (AnyM.slices_Sort_string Tryz.sortSm g off cap xs w hH hg (by omega)).mono fun _ _ ⟨h2, n, os, h3⟩ => ⟨h2, .inr ⟨g, off, cap, t, Sort.putCells encStr off (xs.mergeSort fun x y => decide (x ≤ y)).toArray cur, by rw [sort_len], by rw [sort_len]; exact h1, ?_, ?_⟩, by rw [h3]; exact grown_put _ _ _ _ _ _ _⟩
    · rw [h3, grow_old (by rw [put_size]; exact hg)]
      exact put_at _ _ _ _ _ hh
    · rw [h3]
      refine holds_grow (by rw [put_size]; exact hg) ?_
      exact Sort.holds_putRow _ (Sort.ahead w n) g off xs.toArray _ hH (by simp)
theorem compact_len (xs : List (List UInt8)) : (Lib.compact xs).length ≤ xs.length := by
  unfold Lib.compact Lib.compactUpTo
  rw [List.length_map]
  exact Nat.le_trans (List.length_filter_le _ _) (by simp)
theorem compact_any (v : Value) (xs : List (List UInt8)) (w : World) (h : RowS w v xs) (hl : xs.length ≤ 3000000) :
    Calls Tryz.prog 39 #[v] w fun e w' => ∃ v', e = .returned v' ∧ RowS w' v' (Lib.compact xs) ∧ v'.ownBlock = v.ownBlock ∧ w.grownBy w' v.ownBlock := by
  rcases h with ⟨rfl, rfl⟩ | ⟨g, off, cap, t, cur, rfl, h1, hh, hH⟩
  · exact (Tryz.slices_Compact_string_empty none 0 w).mono fun _ _ ⟨h1, h2⟩ => ⟨_, h1, .inl ⟨rfl, rfl⟩, rfl, by rw [h2]; exact World.grownBy.refl _ _⟩
  · have hg := row_lt hh
    have hcl := compact_len xs
    refine (Tryz.slices_Compact_string g off cap xs w hH (by omega) h1).mono fun _ _ ⟨h2, q, h3⟩ => ⟨_, h2, .inr ⟨g, off, cap, t, Sort.putCells encStr off (Lib.compact xs ++ List.replicate (xs.length - (Lib.compact xs).length) []).toArray cur, rfl, by omega, ?_, ?_⟩, rfl, ?_⟩
    · rw [h3]; exact put_at _ _ _ _ _ hh
    · rw [h3]
      have := Sort.holds_putRow encStr (Sort.ahead w q) g off xs.toArray (Lib.compact xs ++ List.replicate (xs.length - (Lib.compact xs).length) []).toArray hH (by simp; omega)
      intro j hj
      have hj' : j < (Lib.compact xs).length := by simpa using hj
      have h4 := this j (by simp; omega)
      rw [arr_els] at h4 ⊢
      have e : els (Lib.compact xs ++ List.replicate (xs.length - (Lib.compact xs).length) []) j = els (Lib.compact xs) j := by
        unfold els
        rw [List.getElem?_append_left hj']
      rw [e] at h4
      exact h4
    · rw [h3]
      have := grown_put encStr w q g off (Lib.compact xs ++ List.replicate (xs.length - (Lib.compact xs).length) []).toArray #[]
      rw [grow_nil] at this
      exact this
def kids (L : List Ev) : List (List UInt8) := L.map Bk.key
theorem cells_kids (L : List Ev) : cellsS (Bk.idsB L) = (kids L).map encStr := by simp [cellsS, Bk.idsB, kids, encStr, Bk.key]
end Txs
end Go.Proofs.YtghkalamlcfnnaaGreatDoor
end
