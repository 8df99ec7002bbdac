/- EvLaws, EvCheck, EvLists: texts of this claim, joined. -/
import Derived.Test.YtkhkhbeolhhomaaGreatDoorJ2
import Derived.Shelf.SlicesE.IndexFunc
import Derived.Shelf.SlicesQ.IndexFunc
import Derived.Lib.SliceRun
import Derived.OwnWalk
import Derived.Shelf.Strings.SlTrimAscii
import Derived.Shelf.GgClosure.StringsIndexFuncTop
import Derived.Laws.EntriesVeiled
section
/- General laws for events: one element behind a slice of one's own; slices.Contains and ContainsFunc at numbers and at moves, in one statement each. -/
namespace Go.Proofs.YtkhkhbeolhhomaaGreatDoor
open Go Go.RowKit Go.Shelf Lmd
namespace Evt
open Rul Day Cand

theorem move_info : (Tryz.prog.info? 54).map (fun i => (i.zero, i.size, i.bytes)) = some (some (.agg #[.int .i64 0, .int .i64 0]), 2, 16) := by kernel_rfl
/-- where the row of one's own lies -/
theorem own_at {w : World} {base size : Nat} {e : TypeId} {v : Value} {n : Nat} {xs : List Value} (h : w.ownsRow base e size v n xs) : ∃ a c, v = .slice a n c := by
  rcases h.2 with ⟨rfl, h0⟩ | ⟨g, cap, cur, rfl, _⟩
  · exact ⟨none, 0, by rw [h0]⟩
  · exact ⟨_, _, rfl⟩
theorem own_ge {w : World} {base size : Nat} {e : TypeId} {v : Value} {n : Nat} {xs : List Value} (h : w.ownsRow base e size v n xs) {j : Nat} (hj : v.ownBlock = some j) : base ≤ j := by
  rcases h.2 with ⟨rfl, _⟩ | ⟨g, cap, cur, rfl, hb, _⟩
  · simp [Value.ownBlock] at hj
  · obtain rfl : g = j := by simpa [Value.ownBlock] using hj
    exact hb
theorem own_below {w w' : World} {base size : Nat} {e : TypeId} {v : Value} {n : Nat} {xs : List Value} (h : w.ownsRow base e size v n xs) (hb : Below w.heap.size w w') : w'.ownsRow base e size v n xs := by
  refine h.kept (Rng.grownBy_of_below hb) ?_
  cases hv : v.ownBlock with
  | none => exact .inl rfl
  | some g => exact .inr (fun e => by cases e)
/-- one number behind numbers of one's own -/
theorem append_int {w : World} {ops : Array Oper} {rest : List Oper} {o : Oper} {a : Act} {Q : Exit → Act → World → Prop} (hgd : o.guard = none) (s x : Operand)
    (ho : o.op = .call { callee := .builtin .append, args := #[s, x], argTypes := #[33, 33] })
    (base : Nat) (v : Value) (xs : List Int) (hs : a.eval s = v) (hown : w.ownsRow base 3 1 v xs.length (cellsOf xs)) (g : Nat) (y : Int) (hx : a.eval x = .slice (some ⟨g, 0, none⟩) 1 1) (hg : w.cell? ⟨g, 0, none⟩ = some (.int .i64 y))
    (hb : xs.length ≤ 3000000) (hbase : base ≤ w.heap.size)
    (h : ∀ a' c' w', w'.ownsRow base 3 1 (.slice a' (xs.length + 1) c') (xs ++ [y]).length (cellsOf (xs ++ [y])) → Below base w w' → wpList Tryz.prog ops Q rest (a.put o.dst (.slice a' (xs.length + 1) c')) w') : wpList Tryz.prog ops Q (o :: rest) a w := by
  obtain ⟨i0, hi0, hz0, hz1, hz2⟩ := info_parts int_info
  refine wpList_append_own _ hgd s x 33 ho base 3 i0 _ 1 8 Tryz.underlying33 hi0 hz0 hz1 hz2 rfl (by omega) v xs.length (cellsOf xs) hs hown ⟨g, 0, none⟩ 1 1 [.int .i64 y] hx rfl
    (fun j u hu => by
      cases j with
      | zero => simp at hu; subst hu; exact hg
      | succ j => simp at hu) (fun u hu => by simp at hu; subst hu; rfl) (by simp only [maxLen]; omega) (by omega) hbase ?_
  intro v' w' h1 h2 _
  obtain ⟨a1, c1, rfl⟩ := own_at h1
  refine h a1 c1 w' ?_ ((Below.refl base w).grown h2 hbase (fun j ej => own_ge hown ej))
  rw [cellsOf_snoc, List.length_append]; exact h1
/-- one text behind texts of one's own -/
theorem append_str {w : World} {ops : Array Oper} {rest : List Oper} {o : Oper} {a : Act} {Q : Exit → Act → World → Prop} (hgd : o.guard = none) (s x : Operand)
    (ho : o.op = .call { callee := .builtin .append, args := #[s, x], argTypes := #[30, 30] })
    (base : Nat) (v : Value) (xs : List ByteArray) (hs : a.eval s = v) (hown : w.ownsRow base 9 1 v xs.length (cellsS xs)) (g : Nat) (y : ByteArray) (hx : a.eval x = .slice (some ⟨g, 0, none⟩) 1 1) (hg : w.cell? ⟨g, 0, none⟩ = some (.string y))
    (hb : xs.length ≤ 3000000) (hbase : base ≤ w.heap.size)
    (h : ∀ a' c' w', w'.ownsRow base 9 1 (.slice a' (xs.length + 1) c') (xs ++ [y]).length (cellsS (xs ++ [y])) → Below base w w' → wpList Tryz.prog ops Q rest (a.put o.dst (.slice a' (xs.length + 1) c')) w') : wpList Tryz.prog ops Q (o :: rest) a w := by
  obtain ⟨i0, hi0, hz0, hz1, hz2⟩ := info_parts string_info
  refine wpList_append_own _ hgd s x 30 ho base 9 i0 _ 1 16 Tryz.underlying30 hi0 hz0 hz1 hz2 rfl (by omega) v xs.length (cellsS xs) hs hown ⟨g, 0, none⟩ 1 1 [.string y] hx rfl
    (fun j u hu => by
      cases j with
      | zero => simp at hu; subst hu; exact hg
      | succ j => simp at hu) (fun u hu => by simp at hu; subst hu; rfl) (by simp only [maxLen]; omega) (by omega) hbase ?_
  intro v' w' h1 h2 _
  obtain ⟨a1, c1, rfl⟩ := own_at h1
  refine h a1 c1 w' ?_ ((Below.refl base w).grown h2 hbase (fun j ej => own_ge hown ej))
  have hS : cellsS (xs ++ [y]) = cellsS xs ++ [.string y] := by simp [cellsS]
  rw [hS, List.length_append]; exact h1
/-- the cells of moves -/
def cellsM (xs : List (Int × Int)) : List Value := xs.flatMap fun m => [.int .i64 m.1, .int .i64 m.2]
theorem cellsM_snoc (xs : List (Int × Int)) (m : Int × Int) : cellsM (xs ++ [m]) = cellsM xs ++ [.int .i64 m.1, .int .i64 m.2] := by simp [cellsM]
theorem cellsM_len (xs : List (Int × Int)) : (cellsM xs).length = xs.length * 2 := by
  induction xs with
  | nil => rfl
  | cons m t ih => simp only [cellsM, List.flatMap_cons, List.length_append, List.length_cons, List.length_nil] at ih ⊢; omega
theorem cellsM_at : ∀ {xs : List (Int × Int)} {j : Nat}, j < xs.length → (cellsM xs)[j * 2]? = some (.int .i64 (ml xs j).1) ∧ (cellsM xs)[j * 2 + 1]? = some (.int .i64 (ml xs j).2)
  | [], j, h => absurd h (Nat.not_lt_zero _)
  | m :: t, 0, _ => ⟨rfl, rfl⟩
  | m :: t, j + 1, h => by
    have := cellsM_at (xs := t) (j := j) (by simpa using h)
    have e1 : (j + 1) * 2 = j * 2 + 2 := by omega
    rw [e1]
    exact this
/-- moves in a row of one's own -/
theorem mreads_own {w : World} {base n : Nat} {v : Value} {xs : List (Int × Int)} (h : w.ownsRow base 54 2 v n (cellsM xs)) (hn : n = xs.length) : MReads w v xs := by
  subst hn
  rcases h.2 with ⟨rfl, h0⟩ | ⟨g, cap, cur, rfl, _, hh, _, _, _, ht⟩
  · exact .inl ⟨List.length_eq_zero_iff.1 h0, none, 0, rfl⟩
  · refine .inr ⟨g, 0, cap, rfl, fun j hj => ?_⟩
    have h1 := cellsM_at hj
    rw [← ht, List.getElem?_take_of_lt (by omega), List.getElem?_take_of_lt (by omega)] at h1
    simp only [World.cell?, hh, Nat.zero_add]
    exact ⟨by simpa using h1.1, by simpa using h1.2⟩
/-- one move behind moves of one's own -/
theorem append_move {w : World} {ops : Array Oper} {rest : List Oper} {o : Oper} {a : Act} {Q : Exit → Act → World → Prop} (hgd : o.guard = none) (s x : Operand)
    (ho : o.op = .call { callee := .builtin .append, args := #[s, x], argTypes := #[36, 36] })
    (base : Nat) (v : Value) (xs : List (Int × Int)) (hs : a.eval s = v) (hown : w.ownsRow base 54 2 v xs.length (cellsM xs)) (g : Nat) (y : Int × Int) (hx : a.eval x = .slice (some ⟨g, 0, none⟩) 1 1)
    (hg : w.cell? ⟨g, 0, none⟩ = some (.int .i64 y.1) ∧ w.cell? ⟨g, 1, none⟩ = some (.int .i64 y.2)) (hb : xs.length ≤ 3000000) (hbase : base ≤ w.heap.size)
    (h : ∀ a' c' w', w'.ownsRow base 54 2 (.slice a' (xs.length + 1) c') (xs ++ [y]).length (cellsM (xs ++ [y])) → Below base w w' → wpList Tryz.prog ops Q rest (a.put o.dst (.slice a' (xs.length + 1) c')) w') : wpList Tryz.prog ops Q (o :: rest) a w := by
  obtain ⟨i0, hi0, hz0, hz1, hz2⟩ := info_parts move_info
  refine wpList_append_own _ hgd s x 36 ho base 54 i0 _ 2 16 Tryz.underlying36 hi0 hz0 hz1 hz2 rfl (by omega) v xs.length (cellsM xs) hs hown ⟨g, 0, none⟩ 1 1 [.int .i64 y.1, .int .i64 y.2] hx rfl
    (fun j u hu => by
      rw [add_plain, Nat.zero_add]
      match j, hu with
      | 0, hu => cases hu; exact hg.1
      | 1, hu => cases hu; exact hg.2
      | j + 2, hu => cases hu) (fun u hu => by simp at hu; rcases hu with rfl | rfl <;> rfl) (by simp only [maxLen]; omega) (by omega) hbase ?_
  intro v' w' h1 h2 _
  obtain ⟨a1, c1, rfl⟩ := own_at h1
  refine h a1 c1 w' ?_ ((Below.refl base w).grown h2 hbase (fun j ej => own_ge hown ej))
  rw [cellsM_snoc, List.length_append]; exact h1

theorem el_getD (xs : List Int) (j : Nat) : xs[j]! = Ints.el xs j := by simp [Ints.el, List.getElem!_eq_getElem?_getD]
/-- is a number one of a slice's -/
theorem hasInt_any (xs : List Int) (v : Value) (x : Int) (w : World) (hr : Ints.Reads w v xs) (hl : xs.length ≤ 1000000) :
    Calls Tryz.prog 153 #[v, .int .i64 x] w fun e w' => e = .returned (.bool (xs.contains x)) ∧ w' = w := by
  rcases hr with ⟨rfl, a, c, rfl⟩ | ⟨b, off, c, rfl, hc⟩
  · exact (Tryz.slices_Contains_int_empty a c x w).mono fun _ _ ⟨h1, h2⟩ => ⟨by rw [h1]; rfl, h2⟩
  · refine (Tryz.slices_Contains_int b off xs.length c xs x w (Nat.le_refl _) (by omega) (fun j hj => ?_)).mono fun _ _ ⟨h1, h2⟩ => ⟨by rw [h1, List.take_length], h2⟩
    have := hc j hj
    simp only [Ints.el] at this
    rw [List.getD_eq_getElem?_getD]; exact this
/-- has one of a slice's numbers a property -/
theorem anyInts_any (xs : List Int) (v : Value) (p : Int → Bool) (g : Nat) (lb : Array Value) (eg : ∀ args w, (callFunc g args).run Tryz.prog w = .ok (.enter g args) w) (w : World) (hr : Ints.Reads w v xs) (hl : xs.length ≤ 1000000) (hp : PredAt Tryz.prog g lb (fun x => Value.int .i64 x) p w) :
    Calls Tryz.prog 149 #[v, .func (.func g) #[] lb] w fun e w' => e = .returned (.bool (xs.any p)) ∧ Below w.heap.size w w' := by
  rcases hr with ⟨rfl, a, c, rfl⟩ | ⟨b, off, c, rfl, hc⟩
  · exact (Tryz.slices_ContainsFunc_empty (α := Int) a c _ w).mono fun _ _ ⟨h1, h2⟩ => ⟨by rw [h1]; rfl, by rw [h2]; exact Below.refl _ _⟩
  · refine (Tryz.slices_ContainsFunc (fun x : Int => Value.int .i64 x) p g lb eg b off xs.length c xs w hp (Nat.le_refl _) (by omega) (fun j hj => by rw [el_getD]; exact hc j hj)).mono fun _ _ ⟨h1, q, h2⟩ => ⟨by rw [h1, List.take_length], by rw [h2]; exact below_draw (Below.refl _ _) q⟩
def encM (m : Int × Int) : List Value := [.int .i64 m.1, .int .i64 m.2]
theorem ml_get (xs : List (Int × Int)) (j : Nat) : xs[j]! = ml xs j := by
  unfold ml
  rw [List.getElem!_eq_getElem?_getD]
  rfl
theorem indexMoves_none (a : Option Addr) (c : Nat) (fv : Value) (w : World) :
    Calls Tryz.prog 199 #[.slice a 0 c, fv] w fun e w' => e = .returned (.int .i64 (-1)) ∧ w' = w := by
  go_enter Tryz.func199, Tryz.ntmps199
  go_wp2
  refine wp_loop_rounds 1 ?_
  rw [rounds_succ]
  go_wp2
  go_ret
  exact ⟨rfl, rfl⟩
theorem anyMoves_none (a : Option Addr) (c : Nat) (fv : Value) (w : World) :
    Calls Tryz.prog 150 #[.slice a 0 c, fv] w fun e w' => e = .returned (.bool false) ∧ w' = w := by
  go_enter Tryz.func150, Tryz.ntmps150
  go_wp2_with (go_at_call 199; refine (indexMoves_none a c fv _).mono ?_; rintro e w' ⟨rfl, rfl⟩)
  go_ret
  exact ⟨rfl, rfl⟩
theorem anyMoves_any (xs : List (Int × Int)) (v : Value) (p : Int × Int → Bool) (g : Nat) (lb : Array Value) (eg : ∀ args w, (callFunc g args).run Tryz.prog w = .ok (.enter g args) w) (w : World) (hr : MReads w v xs) (hl : xs.length ≤ 1000000)
    (hp : PredBelow Tryz.prog g lb (fun x => .agg (encM x).toArray) p w) :
    Calls Tryz.prog 150 #[v, .func (.func g) #[] lb] w fun e w' => e = .returned (.bool (xs.any p)) ∧ Below w.heap.size w w' := by
  by_cases hx : xs = []
  · subst hx
    obtain ⟨a, c, rfl⟩ := hr.shape
    exact (anyMoves_none a c _ w).mono fun _ _ ⟨h1, h2⟩ => ⟨by rw [h1]; rfl, by rw [h2]; exact Below.refl _ _⟩
  · obtain ⟨a, c, rfl⟩ := hr.shape
    obtain ⟨_, b, off, rfl, hc⟩ := hr.at hx
    have hb : b < w.heap.size := cell_lt (hc 0 (List.length_pos_iff.2 hx)).1
    have := AnyQ.slices_ContainsFunc Tryz.laysMv8 2 Tryz.isAgg54 Tryz.sizeOf54 encM (fun _ => rfl) p g lb eg b off xs.length c xs w hp (Nat.le_refl _) (by omega) hb (fun j hj i v hi => by
      have h1 := hc j hj
      rw [ml_get] at hi
      match i, hi with
      | 0, hi => simp [encM] at hi; rw [← hi]; exact h1.1
      | 1, hi => simp [encM] at hi; rw [← hi]; exact h1.2
      | i + 2, hi => simp [encM] at hi)
    rw [List.take_length] at this
    exact this
end Evt
end Go.Proofs.YtkhkhbeolhhomaaGreatDoor
end

section
/- package event: Check, and all that it calls of its own package. -/
namespace Go.Proofs.YtkhkhbeolhhomaaGreatDoor
open Go Go.RowKit Go.Shelf Go.Lib Lmd
attribute [local go_sem] Oper.semAt_some
namespace Evt
open Rul Day Cand Er

abbrev azS : ByteArray := ⟨#[97, 98, 99, 100, 101, 102, 103, 104, 105, 106, 107, 108, 109, 110, 111, 112, 113, 114, 115, 116, 117, 118, 119, 120, 121, 122, 48, 49, 50, 51, 52, 53, 54, 55, 56, 57]⟩
theorem trim_az (s : ByteArray) : (Lib.trimS s.data.toList az).isEmpty = s.data.toList.all (az.contains ·) := by
  rw [Bool.eq_iff_iff, List.isEmpty_iff, trim_nil, List.all_eq_true]
set_option maxHeartbeats 1000000 in
theorem name_any (s : ByteArray) (w : World) (hs : s.size ≤ 9223372036854775807) :
    Calls Tryz.prog 85 #[.string s] w fun e w' => e = .returned (.bool (nameB s)) ∧ Below w.heap.size w w' := by
  have hT := fun W => Any.strings_Trim_laid Tryz.lays160 (by kernel_rfl) s azS W hs (by decide) (ascii_of_all (by decide))
  change ∀ W, Calls Tryz.prog 139 _ W _ at hT
  obtain ⟨T, hTT⟩ : ∃ T, Lib.trimS s.data.toList azS.data.toList = T := ⟨_, rfl⟩
  rw [hTT] at hT
  have hq : nameB s = (decide (s.size ≠ 0) && decide (s.size ≤ 12) && T.isEmpty) := by
    unfold nameB
    rw [← trim_az, ← hTT]; rfl
  obtain ⟨q, hq1⟩ : ∃ q, nameB s = q := ⟨_, rfl⟩
  rw [hq1] at hq ⊢
  have HQ := Lib.hid hq
  have HT := Lib.hid hT
  clear hq hq1 hT hTT
  have he : s.toList.isEmpty = decide (s.size = 0) := by
    rw [ByteArray.toList_eq, Bool.eq_iff_iff, List.isEmpty_iff, decide_eq_true_eq]
    constructor
    · intro h
      show s.data.size = 0
      rw [← Array.length_toList, h]; rfl
    · intro h
      exact List.length_eq_zero_iff.1 (by rw [Array.length_toList]; exact h)
  have HE := Lib.hid he
  clear he
  cases h1 : s.toList.isEmpty with
  | true =>
    have h0 : s.size = 0 := by have := HE.out; rw [h1] at this; exact of_decide_eq_true this.symm
    go_enter Tryz.func85, Tryz.ntmps85
    go_wp2_with fail
    go_ret
    exact ⟨by rw [HQ.out, h0]; simp, Below.refl _ _⟩
  | false =>
    have h0 : ¬ s.size = 0 := by have := HE.out; rw [h1] at this; exact of_decide_eq_false this.symm
    by_cases h2 : (s.size : Int) ≤ 12
    · go_enter Tryz.func85, Tryz.ntmps85
      go_wp2_with (go_at_call 139; refine (HT.out _).mono ?_; rintro e w' ⟨rfl, hb'⟩)
      go_ret
      exact ⟨by rw [HQ.out, decide_eq_true h0, decide_eq_true (show s.size ≤ 12 by omega)]; simp, hb'⟩
    · go_enter Tryz.func85, Tryz.ntmps85
      go_wp2_with fail
      go_ret
      exact ⟨by rw [HQ.out, decide_eq_false (show ¬ s.size ≤ 12 by omega)]; simp, Below.refl _ _⟩
theorem bad_pred (w : World) : PredAt Tryz.prog 141 #[] encR badR w := fun W r _ => by
  unfold FnGives
  obtain ⟨q, hq⟩ : ∃ q, badR r = q := ⟨_, rfl⟩
  rw [hq]
  have HQ := Lib.hid hq
  clear hq
  by_cases h1 : r < 32 <;> by_cases h2 : 126 < r <;> by_cases h3 : r = 124
  all_goals
    have z1 : (r : Int) < 32 ↔ r < 32 := by omega
    have z2 : (126 : Int) < (r : Int) ↔ 126 < r := by omega
    have z3 : (r : Int) = 124 ↔ r = 124 := by omega
    go_enter Tryz.func141, Tryz.ntmps141
    go_wp2
    all_goals first | (exfalso; omega) | (go_ret; exact ⟨by rw [← HQ.out]; simp [badR, h1, h2, h3] <;> omega, 0, rfl⟩)
set_option maxHeartbeats 1000000 in
theorem title_any (s : ByteArray) (w : World) (hs : s.size ≤ 9223372036854775807) :
    Calls Tryz.prog 86 #[.string s] w fun e w' => e = .returned (.bool (titleB s)) ∧ Below w.heap.size w w' := by
  have hT := Any.strings_ContainsFunc Tryz.laysGw17 141 #[] (enters_of Tryz.func141 (by kernel_rfl) rfl) badR s w (bad_pred w)
  change Calls Tryz.prog 140 _ w _ at hT
  rw [title_iff] at hT
  obtain ⟨b, hb⟩ : ∃ b, s.data.toList.all okC = b := ⟨_, rfl⟩
  rw [hb] at hT
  have hq : titleB s = (decide (s.size ≤ 40) && b) := by rw [← hb]; rfl
  obtain ⟨q, hq1⟩ : ∃ q, titleB s = q := ⟨_, rfl⟩
  rw [hq1] at hq ⊢
  have HQ := Lib.hid hq
  have HT := Lib.hid hT
  clear hq hq1 hT hb
  by_cases h1 : (s.size : Int) ≤ 40
  · go_enter Tryz.func86, Tryz.ntmps86
    go_wp2_with (go_at_call 140; refine HT.out.mono ?_; rintro e w' ⟨rfl, hb'⟩)
    go_ret
    exact ⟨by rw [HQ.out, decide_eq_true (show s.size ≤ 40 by omega)]; simp, hb'⟩
  · go_enter Tryz.func86, Tryz.ntmps86
    go_wp2_with fail
    go_ret
    exact ⟨by rw [HQ.out, decide_eq_false (show ¬ s.size ≤ 40 by omega)]; simp, Below.refl _ _⟩
set_option maxRecDepth 100000 in
set_option maxHeartbeats 2000000 in
theorem rising_any (xs : List Int) (v : Value) (w : World) (hr : Ints.Reads w v xs) (hl : xs.length ≤ 1000000) :
    Calls Tryz.prog 148 #[v] w fun e w' => e = .returned (.bool (riseB xs)) ∧ Below w.heap.size w w' := by
  obtain ⟨a, cap, rfl⟩ := hr.shape
  have HR := Lib.hid hr
  clear hr
  go_enter Tryz.func148, Tryz.ntmps148
  go_wp2_with fail
  go_loopw [3] (fun i wr => ∃ (k m : Nat), (k = 0 ∨ k < xs.length) ∧ i = .int .i64 ((k : Int) + 1) ∧ wr = w.drewN m ∧ ∀ j, j < k → Ints.el xs j < Ints.el xs (j + 1)) (fun i _ => xs.length + 1 - (intOf i).toNat)
  case atStart => exact ⟨0, 0, Or.inl rfl, rfl, rfl, fun _ h => absurd h (Nat.not_lt_zero _)⟩
  case round =>
    obtain ⟨k, m, hk, rfl, rfl, hs⟩ := hrel
    have HSo := Lib.hid hs
    clear hs
    by_cases hlt : k + 1 < xs.length
    · obtain ⟨_, b, o, ha, hc⟩ := HR.out.at (by rintro rfl; exact absurd hlt (Nat.not_lt_zero _))
      subst ha
      have c1 : (w.drewN m).cell? ⟨b, o + (k + 1), none⟩ = some (.int .i64 (Ints.el xs (k + 1))) := by exact hc (k + 1) hlt
      have c2 : (w.drewN m).cell? ⟨b, o + k, none⟩ = some (.int .i64 (Ints.el xs k)) := by exact hc k (by omega)
      have hi1 : (k : Int) + 1 < (xs.length : Int) := by omega
      by_cases hq : Ints.el xs (k + 1) ≤ Ints.el xs k
      · have hb := decide_eq_true hq
        have HQ1 := Lib.hid hq
        clear hq
        go_wp2
        go_quiet (fail)
        go_wp2
        go_ret
        exact ⟨by rw [rise_no hlt HQ1.out]; rfl, below_draw (below_drewN (Below.refl _ _) m) _⟩
      · have hb := decide_eq_false hq
        have HQ1 := Lib.hid hq
        clear hq
        go_wp2
        go_quiet (fail)
        go_wp2
        go_roundw
        case rel => exact ⟨k + 1, _, Or.inr hlt, by go_num, rfl, fun j hj => by
          by_cases ej : j = k
          · subst ej; exact HQ1.out
          · exact HSo.out j (by omega)⟩
        case measure => simp [intOf]; omega
    · have hi1 : (xs.length : Int) ≤ (k : Int) + 1 := by omega
      go_wp2
      go_ret
      exact ⟨by rw [rise_yes (show xs.length ≤ k + 1 by omega) HSo.out]; rfl, below_drewN (Below.refl _ _) m⟩
end Evt
end Go.Proofs.YtkhkhbeolhhomaaGreatDoor
end

section
/- package event: froms, lists, Check. -/
namespace Go.Proofs.YtkhkhbeolhhomaaGreatDoor
open Go Go.RowKit Go.Shelf Lmd
attribute [local go_sem] Oper.semAt_some
namespace Evt
open Rul Day Cand Er

/-- the seven errors that events need -/
structure E7 (w : World) (e : Nat → Addr) : Prop where
  s0 : Frame.Sent w 2 (tx [116, 101, 120, 116]) (e 0)
  s1 : Frame.Sent w 3 (tx [98, 111, 117, 110, 100]) (e 1)
  s2 : Frame.Sent w 5 (tx [115, 104, 97, 112, 101]) (e 2)
  s3 : Frame.Sent w 1 (tx [110, 97, 109, 101]) (e 3)
  s5 : Frame.Sent w 7 (tx [101, 120, 105, 115, 116]) (e 5)
  s6 : Frame.Sent w 4 (tx [102, 117, 108, 108]) (e 6)
  s7 : Frame.Sent w 6 (tx [111, 114, 100, 101, 114]) (e 7)
theorem E7.below {w w' : World} {e : Nat → Addr} (h : E7 w e) (hb : Below w.heap.size w w') : E7 w' e := ⟨h.s0.below hb, h.s1.below hb, h.s2.below hb, h.s3.below hb, h.s5.below hb, h.s6.below hb, h.s7.below hb⟩
theorem E7.four {w : World} {e : Nat → Addr} (h : E7 w e) : E4 w e := ⟨h.s1, h.s2, h.s3, h.s7⟩
theorem seven {w : World} {e : Nat → Addr} (h : Errs w e) : E7 w e := ⟨h.s0, h.s1, h.s2, h.s3, h.s5, h.s6, h.s7⟩
/-- an event's cells -/
abbrev Ev.cells (e : Ev) (vd vs vm : Value) : Array Value := #[.string e.id, .string e.ti, .int .i64 e.st, .int .i64 e.lg, .string e.ru.fq, .int .i64 e.ru.ev, vd, .int .i64 e.ru.ct, .int .i64 e.ru.un, vs, vm]
theorem cells11 {w : World} {b : Nat} {a0 a1 a2 a3 a4 a5 a6 a7 a8 a9 a10 : Value} {t : TypeId} (h : w.heap[b]? = some (.cells #[a0, a1, a2, a3, a4, a5, a6, a7, a8, a9, a10] t (0, 0))) :
    w.cell? ⟨b, 0, none⟩ = some a0 ∧ w.cell? ⟨b, 1, none⟩ = some a1 ∧ w.cell? ⟨b, 2, none⟩ = some a2 ∧ w.cell? ⟨b, 3, none⟩ = some a3 ∧ w.cell? ⟨b, 4, none⟩ = some a4 ∧ w.cell? ⟨b, 5, none⟩ = some a5 ∧ w.cell? ⟨b, 6, none⟩ = some a6 ∧ w.cell? ⟨b, 7, none⟩ = some a7 ∧ w.cell? ⟨b, 8, none⟩ = some a8 ∧ w.cell? ⟨b, 9, none⟩ = some a9 ∧ w.cell? ⟨b, 10, none⟩ = some a10 := by
  simp [World.cell?, h]
theorem froms_len (l : List (Int × Int)) : (froms l).length = l.length := by simp [froms]
theorem froms_snoc {l : List (Int × Int)} {k : Nat} (h : k < l.length) : froms (l.take (k + 1)) = froms (l.take k) ++ [(ml l k).1] := by
  rw [List.take_succ_eq_append_getElem h, froms, List.map_append, ml_lt h]; rfl

set_option maxRecDepth 100000 in
set_option maxHeartbeats 2000000 in
theorem froms_any (e : Ev) (vd vs vm : Value) (w : World) (hr : MReads w vm e.mv) (hl : e.mv.length ≤ 1000000) :
    Calls Tryz.prog 146 #[.agg (e.cells vd vs vm)] w fun er w' => ∃ v, er = .returned v ∧ Ints.Reads w' v (froms e.mv) ∧ Below w.heap.size w w' := by
  obtain ⟨a, cap, rfl⟩ := hr.shape
  obtain ⟨W, hW⟩ : ∃ W, w.alloc (.cells (e.cells vd vs (.slice a e.mv.length cap)) 38) = W := ⟨_, rfl⟩
  have hB : Below w.heap.size w W := by rw [← hW]; exact (Below.refl _ w).alloc (Nat.le_refl _) _
  have hx : W.heap[w.heap.size]? = some (.cells (e.cells vd vs (.slice a e.mv.length cap)) 38) := by rw [← hW]; exact heap_new w _
  obtain ⟨k0, k1, k2, k3, k4, k5, k6, k7, k8, k9, k10⟩ := cells11 hx
  have HR := Lib.hid (hr.below hB)
  obtain ⟨mv, hmv⟩ : ∃ mv, e.mv = mv := ⟨_, rfl⟩
  rw [hmv] at hl hW HR k10 ⊢
  have HW := Lib.hid hW
  have HB := Lib.hid hB
  obtain ⟨n, hn⟩ : ∃ n, mv.length = n := ⟨_, rfl⟩
  have HN := Lib.hid hn
  rw [hn] at hl HW HR k10 ⊢
  clear hr hW hB hx hmv hn
  go_enter Tryz.func146, Tryz.ntmps146
  go_wp2_with fail
  rw [HW.out]
  go_loopw [3, 9] (fun v3 p wr => ∃ k : Nat, k ≤ n ∧ p = .int .i64 (k : Int) ∧ (∃ a c, v3 = .slice a k c) ∧ wr.ownsRow W.heap.size 3 1 v3 (froms (mv.take k)).length (cellsOf (froms (mv.take k))) ∧ Below W.heap.size W wr) (fun _ p _ => n - (intOf p).toNat)
  case atStart => exact ⟨0, Nat.zero_le _, rfl, ⟨none, 0, rfl⟩, ⟨by simp [froms, cellsOf], .inl ⟨rfl, rfl⟩⟩, Below.refl _ _⟩
  case round =>
    obtain ⟨k, hk, rfl, ⟨a7, c7, rfl⟩, hown, hbr⟩ := hrel
    have hsr := hbr.size
    have HOWN := Lib.hid hown
    have HBR := Lib.hid hbr
    have hfl : (froms (mv.take k)).length = k := by rw [froms_len, List.length_take, HN.out]; omega
    by_cases hlt : k < n
    · obtain ⟨-, b, o, ha9, hc⟩ := (HR.out.below hbr).at (by intro h; have := HN.out; rw [h] at this; simp at this; omega)
      subst ha9
      obtain ⟨c1, c2⟩ := hc k (by rw [HN.out]; exact hlt)
      have hsn := froms_snoc (l := mv) (k := k) (by rw [HN.out]; exact hlt)
      obtain ⟨m1, hm1⟩ : ∃ m1, (ml mv k).1 = m1 := ⟨_, rfl⟩
      obtain ⟨m2, hm2⟩ : ∃ m2, (ml mv k).2 = m2 := ⟨_, rfl⟩
      rw [hm1] at c1 hsn
      rw [hm2] at c2
      have HSN := Lib.hid hsn
      have HFL := Lib.hid hfl
      clear hown hbr hc hm1 hm2 hsn hfl
      go_wp2_with (at_builtin
                   refine append_int rfl (.tmp 13) (.tmp 16) rfl W.heap.size (.slice a7 k c7) (froms (mv.take k)) rfl ((HOWN.out.alloc _).alloc _) (wr.heap.size + 1) m1 rfl ?_ (by rw [HFL.out]; omega) (by simp; omega) ?_
                   · have h := heap_new (wr.alloc (.cells #[.int .i64 m1, .int .i64 m2] 54)) (.cells #[.int .i64 m1] 3)
                     rw [World.size_alloc] at h
                     exact cell_of h rfl
                   intro a1 c2 wb hown' hbb
                   rw [HFL.out] at hown' ⊢
                   have HOB := Lib.hid hown'
                   have HBB := Lib.hid (HBR.out.trans ((((Below.refl _ wr).alloc hsr _).alloc (by simp; omega) _).trans hbb))
                   clear hown' hbb)
      go_roundw
      case rel => exact ⟨k + 1, by omega, by simp, ⟨a1, c2, rfl⟩, by rw [HSN.out]; exact HOB.out, HBB.out⟩
      case measure => simp [intOf]; omega
    · obtain rfl : k = n := by omega
      have htk : mv.take mv.length = mv := List.take_length
      rw [HN.out] at htk
      rw [htk] at HOWN
      have hrd := reads_own HOWN.out
      have HRD := Lib.hid hrd
      have HBX := Lib.hid (HB.out.trans (hbr.mono HB.out.size))
      clear hown hbr htk hrd
      go_wp2
      go_ret
      exact ⟨_, rfl, HRD.out, HBX.out⟩
theorem bad1_any (d : Int) (w : World) : Calls Tryz.prog 147 #[.int .i64 d] w fun e w' => e = .returned (.bool (!rightB d)) ∧ w' = w := by
  have hR := fun W => right_any d W
  obtain ⟨q, hq⟩ : ∃ q, rightB d = q := ⟨_, rfl⟩
  have hq2 : decide (0 ≤ d ∧ d ≤ 73048) = q := hq
  rw [hq2] at hR
  rw [hq]
  have HR := Lib.hid hR
  clear hq hq2 hR
  go_enter Tryz.func147, Tryz.ntmps147
  go_wp2_with (go_at_call 82; refine (HR.out _).mono ?_; rintro e w' ⟨rfl, rfl⟩)
  go_ret
  exact ⟨rfl, rfl⟩
theorem bad1_pred (w : World) : PredAt Tryz.prog 147 #[] (fun x : Int => Value.int .i64 x) (fun d => !rightB d) w := fun W d _ =>
  (bad1_any d W).mono fun _ _ ⟨h1, h2⟩ => ⟨h1, 0, h2⟩
set_option maxHeartbeats 1000000 in
theorem bad2_pred (w : World) (B : Nat) (hB : B < w.heap.size) (hc : w.cell? ⟨B, 0, none⟩ = some (.func (.func 147) #[] #[])) :
    PredBelow Tryz.prog 151 #[.pointer (some ⟨B, 0, none⟩)] (fun x => .agg (encM x).toArray) (fun m => !rightB m.1 || !rightB m.2) w := fun W m hb => by
  have hc' : W.cell? ⟨B, 0, none⟩ = some (.func (.func 147) #[] #[]) := (hb.cell (p := ⟨B, 0, none⟩) hB).trans hc
  obtain ⟨m1, m2⟩ := m
  have hBW : B < W.heap.size := Nat.lt_of_lt_of_le hB hb.size
  have hne : B ≠ W.heap.size := by omega
  have h1 := fun W => bad1_any m1 W
  have h2 := fun W => bad1_any m2 W
  obtain ⟨q1, hq1⟩ : ∃ q, rightB m1 = q := ⟨_, rfl⟩
  obtain ⟨q2, hq2⟩ : ∃ q, rightB m2 = q := ⟨_, rfl⟩
  rw [hq1] at h1
  rw [hq2] at h2
  have H1 := Lib.hid h1
  have H2 := Lib.hid h2
  have HB := Lib.hid hb
  show Calls Tryz.prog 151 #[.agg #[.int .i64 m1, .int .i64 m2], .pointer (some ⟨B, 0, none⟩)] W fun e w' => e = .returned (.bool (!rightB m1 || !rightB m2)) ∧ Below w.heap.size w w'
  rw [hq1, hq2]
  clear h1 h2 hq1 hq2 hb hc
  cases q1 with
  | false =>
    go_enter Tryz.func151, Tryz.ntmps151
    go_wp2_with (refine (H1.out _).mono ?_; rintro e w' ⟨rfl, rfl⟩)
    go_ret
    exact ⟨rfl, HB.out.alloc HB.out.size _⟩
  | true =>
    go_enter Tryz.func151, Tryz.ntmps151
    go_wp2_with fail
    refine (H1.out _).mono ?_
    rintro e w' ⟨rfl, rfl⟩
    go_wp2_with fail
    refine (H2.out _).mono ?_
    rintro e w' ⟨rfl, rfl⟩
    go_wp2
    go_ret
    exact ⟨by cases q2 <;> rfl, HB.out.alloc HB.out.size _⟩
set_option maxHeartbeats 1000000 in
theorem bad3_pred (w : World) (B : Nat) (e : Ev) (vd vs vm : Value) (hrow : w.heap[B]? = some (.cells (e.cells vd vs vm) 38)) (hs : Ints.Reads w vs e.sk) (hl : e.sk.length ≤ 1000000) :
    PredAt Tryz.prog 152 #[.pointer (some ⟨B, 0, none⟩)] (fun x : Int => Value.int .i64 x) (fun d => e.sk.contains d) w := fun W d hb => by
  have k9 := (cells11 (row_below hrow hb)).2.2.2.2.2.2.2.2.2.1
  have H := hasInt_any e.sk vs d W (hs.below hb) hl
  show Calls Tryz.prog 152 #[.int .i64 d, .pointer (some ⟨B, 0, none⟩)] W fun e' w' => e' = .returned (.bool (e.sk.contains d)) ∧ ∃ q, w' = W.drewN q
  obtain ⟨q, hq⟩ : ∃ q, e.sk.contains d = q := ⟨_, rfl⟩
  rw [hq] at H ⊢
  have H := Lib.hid H
  clear hrow hs hq
  go_enter Tryz.func152, Tryz.ntmps152
  go_wp2_with (go_at_call 153; refine H.out.mono ?_; rintro e' w' ⟨rfl, rfl⟩)
  go_ret
  exact ⟨rfl, 0, rfl⟩

theorem badL_full {e : Ev} (h : 20 < e.sk.length ∨ 20 < e.mv.length) : badL e = 7 := by unfold badL; rw [if_pos h]
theorem badL_order {e : Ev} (h : ¬ (20 < e.sk.length ∨ 20 < e.mv.length)) (h2 : (riseB e.sk && riseB (froms e.mv)) = false) : badL e = 8 := by unfold badL; rw [if_neg h, if_pos h2]
theorem badL_bound {e : Ev} (h : ¬ (20 < e.sk.length ∨ 20 < e.mv.length)) (h2 : (riseB e.sk && riseB (froms e.mv)) = true) (h3 : (e.sk.all rightB && e.mv.all fun m => rightB m.1 && rightB m.2) = false) : badL e = 2 := by
  unfold badL; rw [if_neg h, h2, if_neg (by simp), if_pos h3]
theorem badL_exist {e : Ev} (h : ¬ (20 < e.sk.length ∨ 20 < e.mv.length)) (h2 : (riseB e.sk && riseB (froms e.mv)) = true) (h3 : (e.sk.all rightB && e.mv.all fun m => rightB m.1 && rightB m.2) = true) (h4 : (froms e.mv).any (e.sk.contains ·) = true) : badL e = 6 := by
  unfold badL; rw [if_neg h, h2, if_neg (by simp), h3, if_neg (by simp), if_pos h4]
theorem badL_none {e : Ev} (h : ¬ (20 < e.sk.length ∨ 20 < e.mv.length)) (h2 : (riseB e.sk && riseB (froms e.mv)) = true) (h3 : (e.sk.all rightB && e.mv.all fun m => rightB m.1 && rightB m.2) = true) (h4 : (froms e.mv).any (e.sk.contains ·) = false) : badL e = 0 := by
  unfold badL; rw [if_neg h, h2, if_neg (by simp), h3, if_neg (by simp), h4, if_neg (by simp)]
theorem any_not (xs : List Int) : xs.any (fun d => !rightB d) = !xs.all rightB := by induction xs with | nil => rfl | cons x t ih => simp [ih]
theorem any_not2 (xs : List (Int × Int)) : xs.any (fun m => !rightB m.1 || !rightB m.2) = !xs.all fun m => rightB m.1 && rightB m.2 := by induction xs with | nil => rfl | cons x t ih => simp [ih]

set_option maxRecDepth 100000 in
set_option maxHeartbeats 4000000 in
theorem lists_any (e : Ev) (vd vs vm : Value) (er : Nat → Addr) (w : World) (he : E7 w er) (hr : Rv w e vd vs vm) (hl1 : e.sk.length ≤ 1000000) (hl2 : e.mv.length ≤ 1000000) :
    Calls Tryz.prog 88 #[.agg (e.cells vd vs vm)] w fun r w' => r = .returned (errV er (badL e)) ∧ Below w.heap.size w w' := by
  obtain ⟨a9, c9, rfl⟩ := hr.s.shape
  obtain ⟨a10, c10, rfl⟩ := hr.m.shape
  obtain ⟨W, hW⟩ : ∃ W, w.alloc (.cells (e.cells vd (.slice a9 e.sk.length c9) (.slice a10 e.mv.length c10)) 38) = W := ⟨_, rfl⟩
  have hB : Below w.heap.size w W := by rw [← hW]; exact (Below.refl _ w).alloc (Nat.le_refl _) _
  have hx : W.heap[w.heap.size]? = some (.cells (e.cells vd (.slice a9 e.sk.length c9) (.slice a10 e.mv.length c10)) 38) := by rw [← hW]; exact heap_new w _
  obtain ⟨k0, k1, k2, k3, k4, k5, k6, k7, k8, k9, k10⟩ := cells11 hx
  have hF := froms_any e vd (.slice a9 e.sk.length c9) (.slice a10 e.mv.length c10) W (hr.m.below hB) hl2
  have HF := Lib.hid hF
  have HX := Lib.hid hx
  have HW := Lib.hid hW
  have HB := Lib.hid hB
  have HR := Lib.hid (hr.below hB)
  have HE := Lib.hid (he.below hB)
  have HL1 := Lib.hid hl1
  have HL2 := Lib.hid hl2
  obtain ⟨n, hn⟩ : ∃ n, e.sk.length = n := ⟨_, rfl⟩
  obtain ⟨m, hm⟩ : ∃ m, e.mv.length = m := ⟨_, rfl⟩
  rw [hn] at k9 HF HX HW HR ⊢
  rw [hm] at k10 HF HX HW HR ⊢
  have HN := Lib.hid hn
  have HM := Lib.hid hm
  obtain ⟨q, hq⟩ : ∃ q, badL e = q := ⟨_, rfl⟩
  rw [hq]
  have HQ := Lib.hid hq
  clear he hr hW hB hx hF hl1 hl2 hn hm hq
  go_enter Tryz.func88, Tryz.ntmps88
  go_wp2_with fail
  rw [HW.out]
  (with_reducible refine HF.out.mono ?_)
  rintro e1 w1 ⟨v1, rfl, hr1, hb1⟩
  have hX1 := row_below HX.out hb1
  have hs1 := hb1.size
  obtain ⟨W2, hW2⟩ : ∃ W2, w1.alloc (.cells #[.func (.func 147) #[] #[]] 56) = W2 := ⟨_, rfl⟩
  have hB2 : Below w1.heap.size w1 W2 := by rw [← hW2]; exact (Below.refl _ w1).alloc (Nat.le_refl _) _
  have hy : W2.heap[w1.heap.size]? = some (.cells #[.func (.func 147) #[] #[]] 56) := by rw [← hW2]; exact heap_new w1 _
  have hb12 := hb1.trans (hB2.mono hs1)
  have HX2 := Lib.hid (row_below hX1 hB2)
  have HY := Lib.hid hy
  have HR1 := Lib.hid (hr1.below hB2)
  have HR2 := Lib.hid (HR.out.below hb12)
  have HE2 := Lib.hid (HE.out.below hb12)
  have HBW := Lib.hid (HB.out.trans (hb12.mono HB.out.size))
  have HW2 := Lib.hid hW2
  clear k0 k1 k2 k3 k4 k5 k6 k7 k8 k9 k10 hr1 hb1 hX1 hs1 hW2 hB2 hy hb12
  go_upto_region 3 with fail
  rw [HW2.out]
  obtain ⟨k0, k1, k2, k3, k4, k5, k6, k7, k8, k9, k10⟩ := cells11 HX2.out
  by_cases h1 : (20 : Int) < (n : Int)
  · have g := HE2.out.s6.cell
    go_wp2
    go_ret
    obtain rfl : 7 = q := by rw [← HQ.out]; exact (badL_full (.inl (by rw [HN.out]; omega))).symm
    exact ⟨rfl, HBW.out⟩
  by_cases h2 : (20 : Int) < (m : Int)
  · have g := HE2.out.s6.cell
    go_wp2
    go_ret
    obtain rfl : 7 = q := by rw [← HQ.out]; exact (badL_full (.inr (by rw [HM.out]; omega))).symm
    exact ⟨rfl, HBW.out⟩
  have hsm : ¬ (20 < e.sk.length ∨ 20 < e.mv.length) := by rw [HN.out, HM.out]; omega
  have HSM := Lib.hid hsm
  have hri1 := fun W (h : Below W2.heap.size W2 W) => rising_any e.sk (.slice a9 n c9) W (HR2.out.s.below h) HL1.out
  have hri2 := fun W (h : Below W2.heap.size W2 W) => rising_any (froms e.mv) v1 W (HR1.out.below h) (by rw [froms_len]; exact HL2.out)
  obtain ⟨q1, hq1⟩ : ∃ q1, riseB e.sk = q1 := ⟨_, rfl⟩
  obtain ⟨q2, hq2⟩ : ∃ q2, riseB (froms e.mv) = q2 := ⟨_, rfl⟩
  rw [hq1] at hri1
  rw [hq2] at hri2
  have HRI1 := Lib.hid hri1
  have HRI2 := Lib.hid hri2
  have HQ1 := Lib.hid hq1
  have HQ2 := Lib.hid hq2
  clear hsm hri1 hri2 hq1 hq2
  go_wp2_with fail
  (with_reducible refine (HRI1.out _ (Below.refl _ _)).mono ?_)
  rintro e3 w3 ⟨rfl, hb3⟩
  have HB3 := Lib.hid hb3
  clear hb3
  cases q1 with
  | false =>
    have g := (HE2.out.below HB3.out).s7.cell
    go_wp2
    go_ret
    obtain rfl : 8 = q := by rw [← HQ.out]; exact (badL_order HSM.out (by rw [HQ1.out]; rfl)).symm
    exact ⟨rfl, HBW.out.trans (HB3.out.mono HBW.out.size)⟩
  | true =>
    go_wp2_with fail
    (with_reducible refine (HRI2.out _ HB3.out).mono ?_)
    rintro e4 w4 ⟨rfl, hb4⟩
    have HB4 := Lib.hid (HB3.out.trans (hb4.mono HB3.out.size))
    clear hb4 HB3 HRI1 HRI2 k0 k1 k2 k3 k4 k5 k6 k7 k8 k9 k10
    obtain ⟨k0, k1, k2, k3, k4, k5, k6, k7, k8, k9, k10⟩ := cells11 (row_below HX2.out HB4.out)
    have ky : w4.cell? ⟨w1.heap.size, 0, none⟩ = some (.func (.func 147) #[] #[]) := cell_of (row_below HY.out HB4.out) rfl
    cases q2 with
    | false =>
      have g := (HE2.out.below HB4.out).s7.cell
      go_wp2
      go_ret
      obtain rfl : 8 = q := by rw [← HQ.out]; exact (badL_order HSM.out (by rw [HQ1.out, HQ2.out]; rfl)).symm
      exact ⟨rfl, HBW.out.trans (HB4.out.mono HBW.out.size)⟩
    | true =>
      have HO := Lib.hid (show (riseB e.sk && riseB (froms e.mv)) = true by rw [HQ1.out, HQ2.out]; rfl)
      have eg1 := enters_of Tryz.func147 (by kernel_rfl) rfl
      have eg2 := enters_of Tryz.func151 (by kernel_rfl) rfl
      have eg3 := enters_of Tryz.func152 (by kernel_rfl) rfl
      have hc1 := anyInts_any e.sk (.slice a9 n c9) (fun d => !rightB d) 147 #[] eg1 w4 (HR2.out.s.below HB4.out) HL1.out (bad1_pred w4)
      have hc2 := fun W (h : Below w4.heap.size w4 W) => anyMoves_any e.mv (.slice a10 m c10) (fun m => !rightB m.1 || !rightB m.2) 151 #[.pointer (some ⟨w1.heap.size, 0, none⟩)] eg2 W ((HR2.out.m.below HB4.out).below h) HL2.out
        (bad2_pred W w1.heap.size (cell_lt (p := ⟨w1.heap.size, 0, none⟩) (cell_later h ky)) (cell_later h ky))
      have hc3 := fun W (h : Below w4.heap.size w4 W) => anyInts_any (froms e.mv) v1 (fun d => e.sk.contains d) 152 #[.pointer (some ⟨w.heap.size, 0, none⟩)] eg3 W ((HR1.out.below HB4.out).below h) (by rw [froms_len]; exact HL2.out)
        (bad3_pred W w.heap.size e vd (.slice a9 n c9) (.slice a10 m c10) (row_below (row_below HX2.out HB4.out) h) ((HR2.out.s.below HB4.out).below h) HL1.out)
      rw [any_not] at hc1
      rw [any_not2] at hc2
      obtain ⟨q3, hq3⟩ : ∃ q3, e.sk.all rightB = q3 := ⟨_, rfl⟩
      obtain ⟨q4, hq4⟩ : ∃ q4, (e.mv.all fun m => rightB m.1 && rightB m.2) = q4 := ⟨_, rfl⟩
      obtain ⟨q5, hq5⟩ : ∃ q5, (froms e.mv).any (fun d => e.sk.contains d) = q5 := ⟨_, rfl⟩
      rw [hq3] at hc1
      rw [hq4] at hc2
      rw [hq5] at hc3
      have HC1 := Lib.hid hc1
      have HC2 := Lib.hid hc2
      have HC3 := Lib.hid hc3
      have HQ3 := Lib.hid hq3
      have HQ4 := Lib.hid hq4
      have HQ5 := Lib.hid hq5
      clear hc1 hc2 hc3 hq3 hq4 hq5 eg1 eg2 eg3
      go_wp2_with fail
      (with_reducible refine HC1.out.mono ?_)
      rintro e5 w5 ⟨rfl, hb5⟩
      have HB5 := Lib.hid hb5
      have HY5 := Lib.hid (row_below (row_below HY.out HB4.out) hb5)
      have HX5 := Lib.hid (row_below (row_below HX2.out HB4.out) hb5)
      have HB45 := Lib.hid (HB4.out.trans (hb5.mono HB4.out.size))
      clear hb5 k0 k1 k2 k3 k4 k5 k6 k7 k8 k9 k10 ky
      obtain ⟨k0, k1, k2, k3, k4, k5, k6, k7, k8, k9, k10⟩ := cells11 HX5.out
      cases q3 with
      | false =>
        have g := (HE2.out.below HB45.out).s1.cell
        go_wp2
        go_ret
        obtain rfl : 2 = q := by rw [← HQ.out]; exact (badL_bound HSM.out HO.out (by rw [HQ3.out]; rfl)).symm
        exact ⟨rfl, HBW.out.trans (HB45.out.mono HBW.out.size)⟩
      | true =>
        go_wp2_with fail
        (with_reducible refine (HC2.out _ HB5.out).mono ?_)
        rintro e6 w6 ⟨rfl, hb6⟩
        have HB6 := Lib.hid (HB5.out.trans (hb6.mono HB5.out.size))
        have HB46 := Lib.hid (HB45.out.trans (hb6.mono HB45.out.size))
        clear hb6 k0 k1 k2 k3 k4 k5 k6 k7 k8 k9 k10
        cases q4 with
        | false =>
          have g := (HE2.out.below HB46.out).s1.cell
          go_wp2
          go_ret
          obtain rfl : 2 = q := by rw [← HQ.out]; exact (badL_bound HSM.out HO.out (by rw [HQ3.out, HQ4.out]; rfl)).symm
          exact ⟨rfl, HBW.out.trans (HB46.out.mono HBW.out.size)⟩
        | true =>
          go_wp2_with fail
          (with_reducible refine (HC3.out _ HB6.out).mono ?_)
          rintro e7 w7 ⟨rfl, hb7⟩
          have HB7 := Lib.hid (HB46.out.trans (hb7.mono HB46.out.size))
          have HP := Lib.hid (show (e.sk.all rightB && e.mv.all fun m => rightB m.1 && rightB m.2) = true by rw [HQ3.out, HQ4.out]; rfl)
          clear hb7
          have g := (HE2.out.below HB7.out).s5.cell
          cases q5 with
          | true =>
            go_wp2
            go_ret
            obtain rfl : 6 = q := by rw [← HQ.out]; exact (badL_exist HSM.out HO.out HP.out HQ5.out).symm
            exact ⟨rfl, HBW.out.trans (HB7.out.mono HBW.out.size)⟩
          | false =>
            go_wp2
            go_ret
            obtain rfl : 0 = q := by rw [← HQ.out]; exact (badL_none HSM.out HO.out HP.out HQ5.out).symm
            exact ⟨rfl, HBW.out.trans (HB7.out.mono HBW.out.size)⟩
theorem badE_name {e : Ev} (h : nameB e.id = false) : badE e = 4 := by unfold badE; rw [if_pos h]
theorem badE_text {e : Ev} (h : nameB e.id = true) (h2 : titleB e.ti = false) : badE e = 1 := by unfold badE; rw [h, if_neg (by simp), if_pos h2]
theorem badE_bound {e : Ev} (h : nameB e.id = true) (h2 : titleB e.ti = true) (h3 : (rightB e.st && inB e.lg 1 60) = false) : badE e = 2 := by unfold badE; rw [h, if_neg (by simp), h2, if_neg (by simp), if_pos h3]
theorem badE_rule {e : Ev} (h : nameB e.id = true) (h2 : titleB e.ti = true) (h3 : (rightB e.st && inB e.lg 1 60) = true) (h4 : bad e.ru ≠ 0) : badE e = bad e.ru := by
  unfold badE; rw [h, if_neg (by simp), h2, if_neg (by simp), h3, if_neg (by simp), if_pos h4]
theorem badE_lists {e : Ev} (h : nameB e.id = true) (h2 : titleB e.ti = true) (h3 : (rightB e.st && inB e.lg 1 60) = true) (h4 : bad e.ru = 0) : badE e = badL e := by
  unfold badE; rw [h, if_neg (by simp), h2, if_neg (by simp), h3, if_neg (by simp), h4, if_neg (by simp)]
/-- what a walk asks of an event's size -/
structure Size (e : Ev) : Prop where
  id : e.id.size ≤ 9223372036854775807
  ti : e.ti.size ≤ 9223372036854775807
  ds : e.ru.ds.length < 50000
  sk : e.sk.length ≤ 1000000
  mv : e.mv.length ≤ 1000000

set_option maxRecDepth 100000 in
set_option maxHeartbeats 4000000 in
theorem check_any (e : Ev) (vd vs vm : Value) (er : Nat → Addr) (w : World) (he : E7 w er) (hr : Rv w e vd vs vm) (hz : Size e) :
    Calls Tryz.prog 24 #[.agg (e.cells vd vs vm)] w fun r w' => r = .returned (errV er (badE e)) ∧ Below w.heap.size w w' := by
  obtain ⟨a6, c6, rfl⟩ := hr.d.shape
  obtain ⟨a9, c9, rfl⟩ := hr.s.shape
  obtain ⟨a10, c10, rfl⟩ := hr.m.shape
  obtain ⟨W, hW⟩ : ∃ W, w.alloc (.cells (e.cells (.slice a6 e.ru.ds.length c6) (.slice a9 e.sk.length c9) (.slice a10 e.mv.length c10)) 38) = W := ⟨_, rfl⟩
  have hB : Below w.heap.size w W := by rw [← hW]; exact (Below.refl _ w).alloc (Nat.le_refl _) _
  have hx : W.heap[w.heap.size]? = some (.cells (e.cells (.slice a6 e.ru.ds.length c6) (.slice a9 e.sk.length c9) (.slice a10 e.mv.length c10)) 38) := by rw [← hW]; exact heap_new w _
  have hE := he.below hB
  have hR := hr.below hB
  have hN := fun W => name_any e.id W hz.id
  have hT := fun W => title_any e.ti W hz.ti
  have hG := fun W => right_any e.st W
  have hK := fun W' (h : Below W.heap.size W W') => chk_any e.ru _ er W' (hE.below h).four (hR.d.below h) hz.ds
  have hL := fun W' (h : Below W.heap.size W W') => lists_any e _ _ _ er W' (hE.below h) (hR.below h) hz.sk hz.mv
  obtain ⟨q1, hq1⟩ : ∃ q, nameB e.id = q := ⟨_, rfl⟩
  obtain ⟨q2, hq2⟩ : ∃ q, titleB e.ti = q := ⟨_, rfl⟩
  obtain ⟨q3, hq3⟩ : ∃ q, rightB e.st = q := ⟨_, rfl⟩
  obtain ⟨q4, hq4⟩ : ∃ q, bad e.ru = q := ⟨_, rfl⟩
  obtain ⟨q5, hq5⟩ : ∃ q, badL e = q := ⟨_, rfl⟩
  obtain ⟨q, hq⟩ : ∃ q, badE e = q := ⟨_, rfl⟩
  have hq3' : decide (0 ≤ e.st ∧ e.st ≤ 73048) = q3 := hq3
  rw [hq1] at hN
  rw [hq2] at hT
  rw [hq3'] at hG
  rw [hq4] at hK
  rw [hq5] at hL
  rw [hq]
  have HN := Lib.hid hN
  have HT := Lib.hid hT
  have HG := Lib.hid hG
  have HK := Lib.hid hK
  have HL := Lib.hid hL
  have HQ1 := Lib.hid hq1
  have HQ2 := Lib.hid hq2
  have HQ3 := Lib.hid hq3
  have HQ4 := Lib.hid hq4
  have HQ5 := Lib.hid hq5
  have HQ := Lib.hid hq
  have HE := Lib.hid hE
  have HX := Lib.hid hx
  have HB := Lib.hid hB
  have HW := Lib.hid hW
  obtain ⟨n6, hn6⟩ : ∃ n, e.ru.ds.length = n := ⟨_, rfl⟩
  obtain ⟨n9, hn9⟩ : ∃ n, e.sk.length = n := ⟨_, rfl⟩
  obtain ⟨n10, hn10⟩ : ∃ n, e.mv.length = n := ⟨_, rfl⟩
  rw [hn6] at HK HL HX HW ⊢
  rw [hn9] at HL HX HW ⊢
  rw [hn10] at HL HX HW ⊢
  clear he hr hz hW hB hx hE hR hN hT hG hK hL hq1 hq2 hq3 hq3' hq4 hq5 hq hn6 hn9 hn10
  go_enter Tryz.func24, Tryz.ntmps24
  obtain ⟨k0, k1, k2, k3, k4, k5, k6, k7, k8, k9, k10⟩ := cells11 HX.out
  go_upto_region 1 with fail
  rw [HW.out]
  go_wp2_with fail
  (with_reducible refine (HN.out _).mono ?_)
  rintro e1 w1 ⟨rfl, hb1⟩
  have HB1 := Lib.hid hb1
  clear hb1 k0 k1 k2 k3 k4 k5 k6 k7 k8 k9 k10
  obtain ⟨k0, k1, k2, k3, k4, k5, k6, k7, k8, k9, k10⟩ := cells11 (row_below HX.out HB1.out)
  cases q1 with
  | false =>
    have g := (HE.out.below HB1.out).s3.cell
    go_wp2
    go_ret
    obtain rfl : 4 = q := by rw [← HQ.out]; exact (badE_name HQ1.out).symm
    exact ⟨rfl, HB.out.trans (HB1.out.mono HB.out.size)⟩
  | true =>
    go_wp2_with fail
    (with_reducible refine (HT.out _).mono ?_)
    rintro e2 w2 ⟨rfl, hb2⟩
    have HB2 := Lib.hid (HB1.out.trans (hb2.mono HB1.out.size))
    clear hb2 k0 k1 k2 k3 k4 k5 k6 k7 k8 k9 k10
    obtain ⟨k0, k1, k2, k3, k4, k5, k6, k7, k8, k9, k10⟩ := cells11 (row_below HX.out HB2.out)
    cases q2 with
    | false =>
      have g := (HE.out.below HB2.out).s0.cell
      go_wp2
      go_ret
      obtain rfl : 1 = q := by rw [← HQ.out]; exact (badE_text HQ1.out HQ2.out).symm
      exact ⟨rfl, HB.out.trans (HB2.out.mono HB.out.size)⟩
    | true =>
      have g := (HE.out.below HB2.out).s1.cell
      go_wp2_with fail
      (with_reducible refine (HG.out _).mono ?_)
      rintro e3 w3 ⟨rfl, rfl⟩
      cases q3 with
      | false =>
        go_wp2
        go_ret
        obtain rfl : 2 = q := by rw [← HQ.out]; exact (badE_bound HQ1.out HQ2.out (by rw [HQ3.out]; rfl)).symm
        exact ⟨rfl, HB.out.trans (HB2.out.mono HB.out.size)⟩
      | true =>
        by_cases hl1 : e.lg < 1
        · go_wp2
          go_ret
          obtain rfl : 2 = q := by rw [← HQ.out]; exact (badE_bound HQ1.out HQ2.out (by rw [HQ3.out]; simp [inB]; omega)).symm
          exact ⟨rfl, HB.out.trans (HB2.out.mono HB.out.size)⟩
        by_cases hl2 : 60 < e.lg
        · go_wp2
          go_ret
          obtain rfl : 2 = q := by rw [← HQ.out]; exact (badE_bound HQ1.out HQ2.out (by rw [HQ3.out]; simp [inB]; omega)).symm
          exact ⟨rfl, HB.out.trans (HB2.out.mono HB.out.size)⟩
        have HQ34 := Lib.hid (show (rightB e.st && inB e.lg 1 60) = true by rw [HQ3.out]; simp [inB]; omega)
        clear g
        go_wp2_with fail
        (with_reducible refine (HK.out _ HB2.out).mono ?_)
        rintro e4 w4 ⟨rfl, hb4⟩
        have HB4 := Lib.hid (HB2.out.trans (hb4.mono HB2.out.size))
        clear hb4 k0 k1 k2 k3 k4 k5 k6 k7 k8 k9 k10
        obtain ⟨k0, k1, k2, k3, k4, k5, k6, k7, k8, k9, k10⟩ := cells11 (row_below HX.out HB4.out)
        cases q4 with
        | succ q4 =>
          simp only [errV, ev]
          go_wp2
          go_ret
          obtain rfl : q4 + 1 = q := by rw [← HQ.out, badE_rule HQ1.out HQ2.out HQ34.out (by rw [HQ4.out]; omega)]; exact HQ4.out.symm
          exact ⟨rfl, HB.out.trans (HB4.out.mono HB.out.size)⟩
        | zero =>
          simp only [errV]
          go_wp2_with fail
          (with_reducible refine (HL.out _ HB4.out).mono ?_)
          rintro e5 w5 ⟨rfl, hb5⟩
          have HB5 := Lib.hid (HB4.out.trans (hb5.mono HB4.out.size))
          clear hb5 k0 k1 k2 k3 k4 k5 k6 k7 k8 k9 k10
          obtain rfl : q5 = q := by rw [← HQ.out, badE_lists HQ1.out HQ2.out HQ34.out HQ4.out]; exact HQ5.out.symm
          obtain ⟨ve, hve⟩ : ∃ ve, errV er q5 = ve := ⟨_, rfl⟩
          rw [hve]
          go_wp2
          go_ret
          exact ⟨by rw [hve]; rfl, HB.out.trans (HB5.out.mono HB.out.size)⟩
end Evt
end Go.Proofs.YtkhkhbeolhhomaaGreatDoor
end
