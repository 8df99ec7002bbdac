/- General laws for events: one element behind a slice of one's own; slices.Contains and ContainsFunc at numbers and at moves, in one statement each. -/
import Derived.Test.YtkhkhbeolhhomaaGreatDoorEvRd
import Derived.Shelf.SlicesE.IndexFunc
import Derived.Shelf.SlicesQ.IndexFunc
import Derived.Lib.SliceRun
import Derived.OwnWalk
namespace Go.Proofs.YtkhkhbeolhhomaaGreatDoor
open Go Go.RowKit Go.Shelf Lmd
namespace Evt
open Rul Day Cand

theorem move_info : (Tryz.prog.info? 54).map (fun i => (i.zero, i.size, i.bytes)) = some (some (.agg #[.int .i64 0, .int .i64 0]), 2, 16) := by kernel_rfl
/-- where the row of one's own lies -/
theorem own_at {w : World} {base size : Nat} {e : TypeId} {v : Value} {n : Nat} {xs : List Value} (h : w.ownsRow base e size v n xs) : ∃ a c, v = .slice a n c := by
  rcases h.2 with ⟨rfl, h0⟩ | ⟨g, cap, cur, rfl, _⟩
  · exact ⟨none, 0, by rw [h0]⟩
  · exact ⟨_, _, rfl⟩
theorem own_ge {w : World} {base size : Nat} {e : TypeId} {v : Value} {n : Nat} {xs : List Value} (h : w.ownsRow base e size v n xs) {j : Nat} (hj : v.ownBlock = some j) : base ≤ j := by
  rcases h.2 with ⟨rfl, _⟩ | ⟨g, cap, cur, rfl, hb, _⟩
  · simp [Value.ownBlock] at hj
  · obtain rfl : g = j := by simpa [Value.ownBlock] using hj
    exact hb
theorem own_below {w w' : World} {base size : Nat} {e : TypeId} {v : Value} {n : Nat} {xs : List Value} (h : w.ownsRow base e size v n xs) (hb : Below w.heap.size w w') : w'.ownsRow base e size v n xs := by
  refine h.kept (Rng.grownBy_of_below hb) ?_
  cases hv : v.ownBlock with
  | none => exact .inl rfl
  | some g => exact .inr (fun e => by cases e)
/-- one number behind numbers of one's own -/
theorem append_int {w : World} {ops : Array Oper} {rest : List Oper} {o : Oper} {a : Act} {Q : Exit → Act → World → Prop} (hgd : o.guard = none) (s x : Operand)
    (ho : o.op = .call { callee := .builtin .append, args := #[s, x], argTypes := #[33, 33] })
    (base : Nat) (v : Value) (xs : List Int) (hs : a.eval s = v) (hown : w.ownsRow base 3 1 v xs.length (cellsOf xs)) (g : Nat) (y : Int) (hx : a.eval x = .slice (some ⟨g, 0, none⟩) 1 1) (hg : w.cell? ⟨g, 0, none⟩ = some (.int .i64 y))
    (hb : xs.length ≤ 3000000) (hbase : base ≤ w.heap.size)
    (h : ∀ a' c' w', w'.ownsRow base 3 1 (.slice a' (xs.length + 1) c') (xs ++ [y]).length (cellsOf (xs ++ [y])) → Below base w w' → wpList Tryz.prog ops Q rest (a.put o.dst (.slice a' (xs.length + 1) c')) w') : wpList Tryz.prog ops Q (o :: rest) a w := by
  obtain ⟨i0, hi0, hz0, hz1, hz2⟩ := info_parts int_info
  refine wpList_append_own _ hgd s x 33 ho base 3 i0 _ 1 8 Tryz.underlying33 hi0 hz0 hz1 hz2 rfl (by omega) v xs.length (cellsOf xs) hs hown ⟨g, 0, none⟩ 1 1 [.int .i64 y] hx rfl
    (fun j u hu => by
      cases j with
      | zero => simp at hu; subst hu; exact hg
      | succ j => simp at hu) (fun u hu => by simp at hu; subst hu; rfl) (by simp only [maxLen]; omega) (by omega) hbase ?_
  intro v' w' h1 h2 _
  obtain ⟨a1, c1, rfl⟩ := own_at h1
  refine h a1 c1 w' ?_ ((Below.refl base w).grown h2 hbase (fun j ej => own_ge hown ej))
  rw [cellsOf_snoc, List.length_append]; exact h1
/-- one text behind texts of one's own -/
theorem append_str {w : World} {ops : Array Oper} {rest : List Oper} {o : Oper} {a : Act} {Q : Exit → Act → World → Prop} (hgd : o.guard = none) (s x : Operand)
    (ho : o.op = .call { callee := .builtin .append, args := #[s, x], argTypes := #[30, 30] })
    (base : Nat) (v : Value) (xs : List ByteArray) (hs : a.eval s = v) (hown : w.ownsRow base 9 1 v xs.length (cellsS xs)) (g : Nat) (y : ByteArray) (hx : a.eval x = .slice (some ⟨g, 0, none⟩) 1 1) (hg : w.cell? ⟨g, 0, none⟩ = some (.string y))
    (hb : xs.length ≤ 3000000) (hbase : base ≤ w.heap.size)
    (h : ∀ a' c' w', w'.ownsRow base 9 1 (.slice a' (xs.length + 1) c') (xs ++ [y]).length (cellsS (xs ++ [y])) → Below base w w' → wpList Tryz.prog ops Q rest (a.put o.dst (.slice a' (xs.length + 1) c')) w') : wpList Tryz.prog ops Q (o :: rest) a w := by
  obtain ⟨i0, hi0, hz0, hz1, hz2⟩ := info_parts string_info
  refine wpList_append_own _ hgd s x 30 ho base 9 i0 _ 1 16 Tryz.underlying30 hi0 hz0 hz1 hz2 rfl (by omega) v xs.length (cellsS xs) hs hown ⟨g, 0, none⟩ 1 1 [.string y] hx rfl
    (fun j u hu => by
      cases j with
      | zero => simp at hu; subst hu; exact hg
      | succ j => simp at hu) (fun u hu => by simp at hu; subst hu; rfl) (by simp only [maxLen]; omega) (by omega) hbase ?_
  intro v' w' h1 h2 _
  obtain ⟨a1, c1, rfl⟩ := own_at h1
  refine h a1 c1 w' ?_ ((Below.refl base w).grown h2 hbase (fun j ej => own_ge hown ej))
  have hS : cellsS (xs ++ [y]) = cellsS xs ++ [.string y] := by simp [cellsS]
  rw [hS, List.length_append]; exact h1
/-- the cells of moves -/
def cellsM (xs : List (Int × Int)) : List Value := xs.flatMap fun m => [.int .i64 m.1, .int .i64 m.2]
theorem cellsM_snoc (xs : List (Int × Int)) (m : Int × Int) : cellsM (xs ++ [m]) = cellsM xs ++ [.int .i64 m.1, .int .i64 m.2] := by simp [cellsM]
theorem cellsM_len (xs : List (Int × Int)) : (cellsM xs).length = xs.length * 2 := by
  induction xs with
  | nil => rfl
  | cons m t ih => simp only [cellsM, List.flatMap_cons, List.length_append, List.length_cons, List.length_nil] at ih ⊢; omega
theorem cellsM_at : ∀ {xs : List (Int × Int)} {j : Nat}, j < xs.length → (cellsM xs)[j * 2]? = some (.int .i64 (ml xs j).1) ∧ (cellsM xs)[j * 2 + 1]? = some (.int .i64 (ml xs j).2)
  | [], j, h => absurd h (Nat.not_lt_zero _)
  | m :: t, 0, _ => ⟨rfl, rfl⟩
  | m :: t, j + 1, h => by
    have := cellsM_at (xs := t) (j := j) (by simpa using h)
    have e1 : (j + 1) * 2 = j * 2 + 2 := by omega
    rw [e1]
    exact this
/-- moves in a row of one's own -/
theorem mreads_own {w : World} {base n : Nat} {v : Value} {xs : List (Int × Int)} (h : w.ownsRow base 54 2 v n (cellsM xs)) (hn : n = xs.length) : MReads w v xs := by
  subst hn
  rcases h.2 with ⟨rfl, h0⟩ | ⟨g, cap, cur, rfl, _, hh, _, _, _, ht⟩
  · exact .inl ⟨List.length_eq_zero_iff.1 h0, none, 0, rfl⟩
  · refine .inr ⟨g, 0, cap, rfl, fun j hj => ?_⟩
    have h1 := cellsM_at hj
    rw [← ht, List.getElem?_take_of_lt (by omega), List.getElem?_take_of_lt (by omega)] at h1
    simp only [World.cell?, hh, Nat.zero_add]
    exact ⟨by simpa using h1.1, by simpa using h1.2⟩
/-- one move behind moves of one's own -/
theorem append_move {w : World} {ops : Array Oper} {rest : List Oper} {o : Oper} {a : Act} {Q : Exit → Act → World → Prop} (hgd : o.guard = none) (s x : Operand)
    (ho : o.op = .call { callee := .builtin .append, args := #[s, x], argTypes := #[36, 36] })
    (base : Nat) (v : Value) (xs : List (Int × Int)) (hs : a.eval s = v) (hown : w.ownsRow base 54 2 v xs.length (cellsM xs)) (g : Nat) (y : Int × Int) (hx : a.eval x = .slice (some ⟨g, 0, none⟩) 1 1)
    (hg : w.cell? ⟨g, 0, none⟩ = some (.int .i64 y.1) ∧ w.cell? ⟨g, 1, none⟩ = some (.int .i64 y.2)) (hb : xs.length ≤ 3000000) (hbase : base ≤ w.heap.size)
    (h : ∀ a' c' w', w'.ownsRow base 54 2 (.slice a' (xs.length + 1) c') (xs ++ [y]).length (cellsM (xs ++ [y])) → Below base w w' → wpList Tryz.prog ops Q rest (a.put o.dst (.slice a' (xs.length + 1) c')) w') : wpList Tryz.prog ops Q (o :: rest) a w := by
  obtain ⟨i0, hi0, hz0, hz1, hz2⟩ := info_parts move_info
  refine wpList_append_own _ hgd s x 36 ho base 54 i0 _ 2 16 Tryz.underlying36 hi0 hz0 hz1 hz2 rfl (by omega) v xs.length (cellsM xs) hs hown ⟨g, 0, none⟩ 1 1 [.int .i64 y.1, .int .i64 y.2] hx rfl
    (fun j u hu => by
      rw [add_plain, Nat.zero_add]
      match j, hu with
      | 0, hu => cases hu; exact hg.1
      | 1, hu => cases hu; exact hg.2
      | j + 2, hu => cases hu) (fun u hu => by simp at hu; rcases hu with rfl | rfl <;> rfl) (by simp only [maxLen]; omega) (by omega) hbase ?_
  intro v' w' h1 h2 _
  obtain ⟨a1, c1, rfl⟩ := own_at h1
  refine h a1 c1 w' ?_ ((Below.refl base w).grown h2 hbase (fun j ej => own_ge hown ej))
  rw [cellsM_snoc, List.length_append]; exact h1

theorem el_getD (xs : List Int) (j : Nat) : xs[j]! = Ints.el xs j := by simp [Ints.el, List.getElem!_eq_getElem?_getD]
/-- is a number one of a slice's -/
theorem hasInt_any (xs : List Int) (v : Value) (x : Int) (w : World) (hr : Ints.Reads w v xs) (hl : xs.length ≤ 1000000) :
    Calls Tryz.prog 153 #[v, .int .i64 x] w fun e w' => e = .returned (.bool (xs.contains x)) ∧ w' = w := by
  rcases hr with ⟨rfl, a, c, rfl⟩ | ⟨b, off, c, rfl, hc⟩
  · exact (Tryz.slices_Contains_int_empty a c x w).mono fun _ _ ⟨h1, h2⟩ => ⟨by rw [h1]; rfl, h2⟩
  · refine (Tryz.slices_Contains_int b off xs.length c xs x w (Nat.le_refl _) (by omega) (fun j hj => ?_)).mono fun _ _ ⟨h1, h2⟩ => ⟨by rw [h1, List.take_length], h2⟩
    have := hc j hj
    simp only [Ints.el] at this
    rw [List.getD_eq_getElem?_getD]; exact this
/-- has one of a slice's numbers a property -/
theorem anyInts_any (xs : List Int) (v : Value) (p : Int → Bool) (g : Nat) (lb : Array Value) (eg : ∀ args w, (callFunc g args).run Tryz.prog w = .ok (.enter g args) w) (w : World) (hr : Ints.Reads w v xs) (hl : xs.length ≤ 1000000) (hp : PredAt Tryz.prog g lb (fun x => Value.int .i64 x) p w) :
    Calls Tryz.prog 149 #[v, .func (.func g) #[] lb] w fun e w' => e = .returned (.bool (xs.any p)) ∧ Below w.heap.size w w' := by
  rcases hr with ⟨rfl, a, c, rfl⟩ | ⟨b, off, c, rfl, hc⟩
  · exact (Tryz.slices_ContainsFunc_empty (α := Int) a c _ w).mono fun _ _ ⟨h1, h2⟩ => ⟨by rw [h1]; rfl, by rw [h2]; exact Below.refl _ _⟩
  · refine (Tryz.slices_ContainsFunc (fun x : Int => Value.int .i64 x) p g lb eg b off xs.length c xs w hp (Nat.le_refl _) (by omega) (fun j hj => by rw [el_getD]; exact hc j hj)).mono fun _ _ ⟨h1, q, h2⟩ => ⟨by rw [h1, List.take_length], by rw [h2]; exact below_draw (Below.refl _ _) q⟩
def encM (m : Int × Int) : List Value := [.int .i64 m.1, .int .i64 m.2]
theorem ml_get (xs : List (Int × Int)) (j : Nat) : xs[j]! = ml xs j := by
  unfold ml
  rw [List.getElem!_eq_getElem?_getD]
  rfl
theorem indexMoves_none (a : Option Addr) (c : Nat) (fv : Value) (w : World) :
    Calls Tryz.prog 199 #[.slice a 0 c, fv] w fun e w' => e = .returned (.int .i64 (-1)) ∧ w' = w := by
  go_enter Tryz.func199, Tryz.ntmps199
  go_wp2
  refine wp_loop_rounds 1 ?_
  rw [rounds_succ]
  go_wp2
  go_ret
  exact ⟨rfl, rfl⟩
theorem anyMoves_none (a : Option Addr) (c : Nat) (fv : Value) (w : World) :
    Calls Tryz.prog 150 #[.slice a 0 c, fv] w fun e w' => e = .returned (.bool false) ∧ w' = w := by
  go_enter Tryz.func150, Tryz.ntmps150
  go_wp2_with (go_at_call 199; refine (indexMoves_none a c fv _).mono ?_; rintro e w' ⟨rfl, rfl⟩)
  go_ret
  exact ⟨rfl, rfl⟩
theorem anyMoves_any (xs : List (Int × Int)) (v : Value) (p : Int × Int → Bool) (g : Nat) (lb : Array Value) (eg : ∀ args w, (callFunc g args).run Tryz.prog w = .ok (.enter g args) w) (w : World) (hr : MReads w v xs) (hl : xs.length ≤ 1000000)
    (hp : PredBelow Tryz.prog g lb (fun x => .agg (encM x).toArray) p w) :
    Calls Tryz.prog 150 #[v, .func (.func g) #[] lb] w fun e w' => e = .returned (.bool (xs.any p)) ∧ Below w.heap.size w w' := by
  by_cases hx : xs = []
  · subst hx
    obtain ⟨a, c, rfl⟩ := hr.shape
    exact (anyMoves_none a c _ w).mono fun _ _ ⟨h1, h2⟩ => ⟨by rw [h1]; rfl, by rw [h2]; exact Below.refl _ _⟩
  · obtain ⟨a, c, rfl⟩ := hr.shape
    obtain ⟨_, b, off, rfl, hc⟩ := hr.at hx
    have hb : b < w.heap.size := cell_lt (hc 0 (List.length_pos_iff.2 hx)).1
    have := AnyQ.slices_ContainsFunc Tryz.laysMv8 2 Tryz.isAgg54 Tryz.sizeOf54 encM (fun _ => rfl) p g lb eg b off xs.length c xs w hp (Nat.le_refl _) (by omega) hb (fun j hj i v hi => by
      have h1 := hc j hj
      rw [ml_get] at hi
      match i, hi with
      | 0, hi => simp [encM] at hi; rw [← hi]; exact h1.1
      | 1, hi => simp [encM] at hi; rw [← hi]; exact h1.2
      | i + 2, hi => simp [encM] at hi)
    rw [List.take_length] at this
    exact this
end Evt
end Go.Proofs.YtkhkhbeolhhomaaGreatDoor
