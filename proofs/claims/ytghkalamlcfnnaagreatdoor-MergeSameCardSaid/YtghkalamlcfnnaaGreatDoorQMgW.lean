/- Clashes: two texts each, in slices of both types. -/
import Derived.Test.YtghkalamlcfnnaaGreatDoorQMgM
import Derived.Maps.AppendAt
namespace Go.Proofs.YtghkalamlcfnnaaGreatDoor
open Go Go.RowKit Go.Shelf Lmd
attribute [local go_sem] Oper.semAt_some
namespace Mg
open Evt Bk Df Rul Day Cand Er Tp
abbrev Cl := ByteArray × ByteArray
abbrev zCl : Cl := (⟨#[]⟩, ⟨#[]⟩)
def elx (xs : List Cl) (j : Nat) : Cl := xs[j]?.getD zCl
abbrev csx (c : Cl) : List Value := [.string c.1, .string c.2]
structure At2 (W : World) (b o : Nat) (c : Cl) : Prop where
  k0 : W.cell? ⟨b, o, none⟩ = some (.string c.1)
  k1 : W.cell? ⟨b, o + 1, none⟩ = some (.string c.2)
theorem At2.below {w w' : World} {b o : Nat} {c : Cl} (h : At2 w b o c) (hb : Below w.heap.size w w') : At2 w' b o c := ⟨cell_later hb h.k0, cell_later hb h.k1⟩
theorem at2_of {w : World} {b o : Nat} {c : Cl} (h : ∀ i u, (csx c)[i]? = some u → w.cell? ⟨b, o + i, none⟩ = some u) : At2 w b o c := ⟨h 0 _ rfl, h 1 _ rfl⟩
theorem At2.of {w : World} {b o : Nat} {c : Cl} (h : At2 w b o c) : ∀ i u, (csx c)[i]? = some u → w.cell? ⟨b, o + i, none⟩ = some u := by
  intro i u hu
  match i, hu with
  | 0, hu => cases hu; exact h.k0
  | 1, hu => cases hu; exact h.k1
  | i + 2, hu => cases hu
theorem at2_box {w : World} {b : Nat} {x y : ByteArray} {t : TypeId} (h : w.heap[b]? = some (.cells #[.string x, .string y] t)) : At2 w b 0 (x, y) :=
  ⟨by simp [World.cell?, h], by simp [World.cell?, h]⟩
def XReads (W : World) (v : Value) (xs : List Cl) : Prop :=
  (xs = [] ∧ v = .slice none 0 0) ∨ ∃ b off c, v = .slice (some ⟨b, off, none⟩) xs.length c ∧ ∀ j, j < xs.length → At2 W b (off + j * 2) (elx xs j)
theorem XReads.shape {w : World} {v : Value} {xs : List Cl} (h : XReads w v xs) : ∃ a c, v = .slice a xs.length c := by
  rcases h with ⟨rfl, rfl⟩ | ⟨b, off, c, rfl, _⟩
  · exact ⟨none, 0, rfl⟩
  · exact ⟨_, c, rfl⟩
theorem XReads.at {w : World} {a : Option Addr} {n cap : Nat} {xs : List Cl} (h : XReads w (.slice a n cap) xs) (hx : xs ≠ []) :
    n = xs.length ∧ ∃ b off, a = some ⟨b, off, none⟩ ∧ ∀ j, j < xs.length → At2 w b (off + j * 2) (elx xs j) := by
  rcases h with ⟨rfl, _⟩ | ⟨b, off, cap', e, hc⟩
  · exact absurd rfl hx
  · cases e; exact ⟨rfl, b, off, rfl, hc⟩
theorem XReads.below {w w' : World} {v : Value} {xs : List Cl} (h : XReads w v xs) (hb : Below w.heap.size w w') : XReads w' v xs := by
  rcases h with h | ⟨b, off, c, rfl, hc⟩
  · exact .inl h
  · exact .inr ⟨b, off, c, rfl, fun j hj => (hc j hj).below hb⟩
def cellsX (xs : List Cl) : List Value := xs.flatMap csx
theorem cellsX_app (xs ys : List Cl) : cellsX (xs ++ ys) = cellsX xs ++ cellsX ys := by simp [cellsX]
theorem cellsX_len (xs : List Cl) : (cellsX xs).length = xs.length * 2 := by
  induction xs with
  | nil => rfl
  | cons m t ih => simp only [cellsX, List.flatMap_cons, List.length_append, List.length_cons, List.length_nil] at ih ⊢; omega
theorem cellsX_at : ∀ {xs : List Cl} {j : Nat}, j < xs.length → ∀ {i : Nat} {u : Value}, (csx (elx xs j))[i]? = some u → (cellsX xs)[j * 2 + i]? = some u
  | [], j, h, _, _, _ => absurd h (Nat.not_lt_zero _)
  | m :: t, 0, _, i, u, hu => by
    have hu' : (csx m)[i]? = some u := hu
    have hi : i < (csx m).length := (List.getElem?_eq_some_iff.1 hu').1
    show (csx m ++ cellsX t)[0 * 2 + i]? = some u
    rw [Nat.zero_mul, Nat.zero_add, List.getElem?_append_left hi]; exact hu'
  | m :: t, j + 1, h, i, u, hu => by
    have := cellsX_at (xs := t) (j := j) (by simpa using h) (i := i) (u := u) hu
    show (csx m ++ cellsX t)[(j + 1) * 2 + i]? = some u
    have e1 : (j + 1) * 2 + i = (csx m).length + (j * 2 + i) := by show _ = 2 + _; omega
    rw [e1, List.getElem?_append_right (by omega), Nat.add_sub_cancel_left]; exact this
theorem cellsX_cell : ∀ {xs : List Cl} {p : Nat} {u : Value}, (cellsX xs)[p]? = some u → ∃ j i, j < xs.length ∧ p = j * 2 + i ∧ (csx (elx xs j))[i]? = some u
  | [], _, _, h => by simp [cellsX] at h
  | m :: t, p, u, h => by
    change (csx m ++ cellsX t)[p]? = some u at h
    by_cases hp : p < 2
    · rw [List.getElem?_append_left (by show p < 2; exact hp)] at h
      exact ⟨0, p, by simp, by simp, h⟩
    · rw [List.getElem?_append_right (by show 2 ≤ p; omega)] at h
      obtain ⟨j, i, h1, h2, h3⟩ := cellsX_cell h
      refine ⟨j + 1, i, by simpa using h1, ?_, h3⟩
      change p - 2 = _ at h2
      omega
theorem xreads_own {w : World} {base n : Nat} {e : TypeId} {v : Value} {xs : List Cl} (h : w.ownsRow base e 2 v n (cellsX xs)) (hn : n = xs.length) : XReads w v xs := by
  subst hn
  rcases h.2 with ⟨rfl, h0⟩ | ⟨g, cap, cur, rfl, _, hh, _, _, _, ht⟩
  · exact .inl ⟨List.length_eq_zero_iff.1 h0, rfl⟩
  · refine .inr ⟨g, 0, cap, rfl, fun j hj => at2_of fun i u hu => ?_⟩
    have h1 := cellsX_at hj hu
    have hi : i < 2 := (List.getElem?_eq_some_iff.1 hu).1
    rw [← ht, List.getElem?_take_of_lt (by omega)] at h1
    simp only [World.cell?, hh, Nat.zero_add]
    simpa using h1
theorem clash_info_p : (Tryz.prog.info? 52).map (fun i => (i.zero, i.size, i.bytes)) = some (some (.agg #[.string ⟨#[]⟩, .string ⟨#[]⟩]), 2, 32) := by kernel_rfl
theorem append_clsp {w : World} {ops : Array Oper} {rest : List Oper} {o : Oper} {a : Act} {Q : Exit → Act → World → Prop} (hgd : o.guard = none) (s x : Operand)
    (ho : o.op = .call { callee := .builtin .append, args := #[s, x], argTypes := #[30, 30] })
    (base : Nat) (v vy : Value) (xs ys : List Cl) (hs : a.eval s = v) (hown : w.ownsRow base 52 2 v xs.length (cellsX xs)) (hx : a.eval x = vy) (hy : XReads w vy ys) (hb : xs.length ≤ 3000000) (hby : ys.length ≤ 3000000) (hbase : base ≤ w.heap.size)
    (h : ∀ a' c' w', w'.ownsRow base 52 2 (.slice a' (xs ++ ys).length c') (xs ++ ys).length (cellsX (xs ++ ys)) → Below base w w' → w.grownBy w' v.ownBlock → ((Value.slice a' (xs ++ ys).length c').ownBlock = v.ownBlock ∨ (Value.slice a' (xs ++ ys).length c').ownBlock = some w.heap.size) → (v = .slice none 0 0 → ys = [] → Value.slice a' (xs ++ ys).length c' = .slice none 0 0) → wpList Tryz.prog ops Q rest (a.put o.dst (.slice a' (xs ++ ys).length c')) w') : wpList Tryz.prog ops Q (o :: rest) a w := by
  obtain ⟨i0, hi0, hz0, hz1, hz2⟩ := info_parts clash_info_p
  have hyes : ∀ (ad : Addr) (c : Nat), vy = .slice (some ad) ys.length c → (∀ j u, (cellsX ys)[j]? = some u → w.cell? (ad.add j) = some u) → wpList Tryz.prog ops Q (o :: rest) a w := fun ad c e hc => by
    subst e
    refine wpList_append_own_at _ hgd s x 30 ho base 52 i0 _ 2 32 Tryz.underlying30 hi0 hz0 hz1 hz2 rfl (by omega) v xs.length (cellsX xs) hs hown ad ys.length c (cellsX ys) hx (cellsX_len ys) hc (fun u hu => ?_) (by simp only [maxLen]; omega) (by omega) hbase ?_
    · unfold cellsX at hu
      obtain ⟨y, _, hu⟩ := List.mem_flatMap.1 hu
      simp only [List.mem_cons, List.not_mem_nil, or_false] at hu
      rcases hu with rfl | rfl <;> rfl
    · intro v' w' h1 h2 hni hloc
      obtain ⟨a1, c1, rfl⟩ := own_at h1
      have h3 : w'.ownsRow base 52 2 (.slice a1 (xs.length + ys.length) c1) (xs ++ ys).length (cellsX (xs ++ ys)) := by rw [cellsX_app, List.length_append]; exact h1
      have h4 := h a1 c1 w'
      rw [List.length_append] at h4
      rw [List.length_append] at h3
      exact h4 h3 ((Below.refl base w).grown h2 hbase (fun j ej => Evt.own_ge hown ej)) h2 (by simpa [Value.ownBlock] using hloc) (fun e1 e2 => by
        have h := hni.2 ⟨e1, by rw [e2]; rfl⟩
        rw [← h])
  rcases hy with ⟨rfl, rfl⟩ | ⟨b, off, c, rfl, hc⟩
  · obtain ⟨a1, c1, e1⟩ := own_at hown
    refine wpList_append_own_none hgd s x 30 ho base 52 i0 2 Tryz.underlying30 hi0 v xs.length (cellsX xs) hs hown hx ?_
    have h4 := h a1 c1 w
    rw [List.append_nil] at h4
    rw [e1]
    exact h4 (by rw [← e1]; exact hown) (Below.refl base w) (World.grownBy.refl _ _) (.inl (by rw [e1])) (fun e2 _ => by rw [← e1]; exact e2)
  · refine hyes ⟨b, off, none⟩ c rfl fun p u hu => ?_
    obtain ⟨j, i, hj, rfl, hu2⟩ := cellsX_cell hu
    rw [Evt.add_plain, ← Nat.add_assoc]
    exact (hc j hj).of i u hu2
theorem append_clp {w : World} {ops : Array Oper} {rest : List Oper} {o : Oper} {a : Act} {Q : Exit → Act → World → Prop} (hgd : o.guard = none) (s x : Operand)
    (ho : o.op = .call { callee := .builtin .append, args := #[s, x], argTypes := #[30, 30] })
    (base : Nat) (v : Value) (xs : List Cl) (hs : a.eval s = v) (hown : w.ownsRow base 52 2 v xs.length (cellsX xs)) (g : Nat) (y : Cl) (hx : a.eval x = .slice (some ⟨g, 0, none⟩) 1 1)
    (hg : At2 w g 0 y) (hb : xs.length ≤ 3000000) (hbase : base ≤ w.heap.size)
    (h : ∀ a' c' w', w'.ownsRow base 52 2 (.slice a' (xs.length + 1) c') (xs ++ [y]).length (cellsX (xs ++ [y])) → Below base w w' → w.grownBy w' v.ownBlock → ((Value.slice a' (xs.length + 1) c').ownBlock = v.ownBlock ∨ (Value.slice a' (xs.length + 1) c').ownBlock = some w.heap.size) → wpList Tryz.prog ops Q rest (a.put o.dst (.slice a' (xs.length + 1) c')) w') : wpList Tryz.prog ops Q (o :: rest) a w := by
  refine append_clsp hgd s x ho base v (.slice (some ⟨g, 0, none⟩) 1 1) xs [y] hs hown hx (.inr ⟨g, 0, 1, rfl, fun j hj => ?_⟩) hb (by simp) hbase ?_
  · obtain rfl : j = 0 := by simpa using hj
    exact hg
  · intro a' c' w' h1 h2 h5 h6 _
    have h3 := h a' c' w'
    have e : (xs ++ [y]).length = xs.length + 1 := by simp
    rw [e] at h1 h6 ⊢
    rw [e] at h3
    exact h3 h1 h2 h5 h6
end Mg
end Go.Proofs.YtghkalamlcfnnaaGreatDoor
