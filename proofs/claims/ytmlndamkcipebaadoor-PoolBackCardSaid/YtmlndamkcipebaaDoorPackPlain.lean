/- Plain: deltas. -/
import Derived.Test.YtmlndamkcipebaaDoorTapePlain
namespace Go.Proofs.YtmlndamkcipebaaDoor
open Go Go.RowKit Go.Shelf Lmd
namespace Pk
open Rul Tp

/-- an operation of a delta: a copy, or bytes of its own -/
structure Op where
  (at_ n : Int) (text : List UInt8)
def noOp : Op := ⟨0, 0, []⟩

/-! the first operation -/
/-- a copy, behind its letter: two numbers -/
def copyOk (r : List UInt8) : Bool := lenOk 44 r && lenOk 59 (lenR 44 r) && decide (0 < lenN 59 (lenR 44 r))
def copyOp (r : List UInt8) : Op := ⟨lenN 44 r, lenN 59 (lenR 44 r), []⟩
def copyR (r : List UInt8) : List UInt8 := lenR 59 (lenR 44 r)
/-- an insert, behind its letter: a number, and so many bytes -/
def insOk (r : List UInt8) : Bool := lenOk 58 r && decide (1 ≤ lenN 58 r) && decide (lenN 58 r < ((lenR 58 r).length : Int)) && decide ((lenR 58 r)[(lenN 58 r).toNat]? = some 59)
def insOp (r : List UInt8) : Op := ⟨0, lenN 58 r, (lenR 58 r).take (lenN 58 r).toNat⟩
def insR (r : List UInt8) : List UInt8 := (lenR 58 r).drop ((lenN 58 r).toNat + 1)
/-- the first operation: is there one, which, and what follows it -/
def fst1 (d : List UInt8) : Bool × Op × List UInt8 :=
  match d with
  | 99 :: r => if copyOk r = true then (true, copyOp r, copyR r) else (false, noOp, [])
  | 105 :: r => if insOk r = true then (true, insOp r, insR r) else (false, noOp, [])
  | _ => (false, noOp, [])

theorem len_more {c : UInt8} {l : List UInt8} (h : lenOk c l = true) (t : List UInt8) : lenOk c (l ++ t) = true ∧ lenN c (l ++ t) = lenN c l ∧ lenR c (l ++ t) = lenR c l ++ t := by
  unfold lenOk lenN lenR at *
  simp only [Bool.and_eq_true] at h
  by_cases hm : c ∈ l
  · obtain ⟨a, r, rfl, ha⟩ := split_at hm
    have e : a ++ c :: r ++ t = a ++ c :: (r ++ t) := by simp
    rw [cut_hit ha] at h
    rw [e, cut_hit (a := a) (r := r ++ t) ha, cut_hit (a := a) (r := r) ha]
    exact ⟨by simp [h.2], rfl, rfl⟩
  · rw [cut_miss hm] at h
    exact absurd h.1 (by simp)
theorem fst_more {d : List UInt8} (h : (fst1 d).1 = true) (t : List UInt8) : fst1 (d ++ t) = (true, (fst1 d).2.1, (fst1 d).2.2 ++ t) := by
  unfold fst1 at h ⊢
  split at h
  · rename_i r
    split at h
    · rename_i hc
      simp only [List.cons_append]
      unfold copyOk at hc
      simp only [Bool.and_eq_true, decide_eq_true_eq] at hc
      obtain ⟨⟨h1, h2⟩, h3⟩ := hc
      obtain ⟨a1, a2, a3⟩ := len_more h1 t
      obtain ⟨b1, b2, b3⟩ := len_more h2 t
      have hc2 : copyOk (r ++ t) = true := by unfold copyOk; rw [a1, a3, b1, b2]; simp [h3]
      have hc1 : copyOk r = true := by unfold copyOk; rw [h1, h2]; simp [h3]
      rw [if_pos hc2, if_pos hc1]
      unfold copyOp copyR
      rw [a2, a3, b2, b3]
    · cases h
  · rename_i r
    split at h
    · rename_i hc
      simp only [List.cons_append]
      have hc1 := hc
      unfold insOk at hc
      simp only [Bool.and_eq_true, decide_eq_true_eq] at hc
      obtain ⟨⟨⟨h1, h2⟩, h3⟩, h4⟩ := hc
      obtain ⟨a1, a2, a3⟩ := len_more h1 t
      have hlt : (lenN 58 r).toNat < (lenR 58 r).length := by omega
      have hc2 : insOk (r ++ t) = true := by
        unfold insOk
        rw [a1, a2, a3, List.getElem?_append_left hlt, h4]
        simp; omega
      rw [if_pos hc2, if_pos hc1]
      unfold insOp insR
      rw [a2, a3, List.take_append_of_le_length (by omega), List.drop_append_of_le_length (by omega)]
    · cases h
  · cases h
theorem fst_len {d : List UInt8} (h : (fst1 d).1 = true) : (fst1 d).2.2.length < d.length := by
  have hr : ∀ (c : UInt8) (l : List UInt8), (lenR c l).length ≤ l.length := by
    intro c l
    unfold lenR Lib.cut
    split
    · rw [List.length_drop]; omega
    · simp
  unfold fst1 at h ⊢
  split at h
  · rename_i r
    split
    · have h1 := hr 59 (lenR 44 r)
      have h2 := hr 44 r
      simp only [copyR, List.length_cons]; omega
    · simp
  · rename_i r
    split
    · have h2 := hr 58 r
      simp only [insR, List.length_drop, List.length_cons]; omega
    · simp
  · cases h
/-- an operation is a copy of some bytes, or some bytes -/
def Fit (o : Op) : Prop := (o.text = [] ∧ 0 ≤ o.at_ ∧ 1 ≤ o.n ∧ o.at_ < 1000000000 ∧ o.n < 1000000000) ∨ (o.text ≠ [] ∧ o.at_ = 0 ∧ o.n = (o.text.length : Int) ∧ o.n < 1000000000)
theorem fst_fit {d : List UInt8} (h : (fst1 d).1 = true) : Fit (fst1 d).2.1 := by
  unfold fst1 at h ⊢
  split at h
  · rename_i r
    split at h
    · rename_i hc
      rw [if_pos hc]
      unfold copyOk at hc
      simp only [Bool.and_eq_true, decide_eq_true_eq] at hc
      obtain ⟨⟨h1, h2⟩, h3⟩ := hc
      obtain ⟨_, a1, a2⟩ := len_split h1
      obtain ⟨_, b1, b2⟩ := len_split h2
      exact .inl ⟨rfl, a1, by show 1 ≤ lenN 59 (lenR 44 r); omega, a2, b2⟩
    · cases h
  · rename_i r
    split at h
    · rename_i hc
      rw [if_pos hc]
      unfold insOk at hc
      simp only [Bool.and_eq_true, decide_eq_true_eq] at hc
      obtain ⟨⟨⟨h1, h2⟩, h3⟩, h4⟩ := hc
      obtain ⟨_, a1, a2⟩ := len_split h1
      refine .inr ⟨?_, rfl, ?_, a2⟩
      · show (lenR 58 r).take (lenN 58 r).toNat ≠ []
        intro e
        have := congrArg List.length e
        rw [List.length_take, List.length_nil] at this
        omega
      · show lenN 58 r = (((lenR 58 r).take (lenN 58 r).toNat).length : Int)
        rw [List.length_take]; omega
    · cases h
  · cases h

/-- the operations of a delta: are there such -/
def opsT : Nat → List UInt8 → Option (List Op)
  | 0, d => if d = [] then some [] else none
  | k + 1, d => if d = [] then some [] else if (fst1 d).1 = true then (opsT k (fst1 d).2.2).map ((fst1 d).2.1 :: ·) else none
theorem opsT_fuel : ∀ (k j : Nat) (d : List UInt8), d.length ≤ k → d.length ≤ j → opsT k d = opsT j d
  | 0, j, d, h, _ => by
    have : d = [] := List.length_eq_zero_iff.1 (by omega)
    subst this
    cases j <;> rfl
  | k + 1, 0, d, _, h => by
    have : d = [] := List.length_eq_zero_iff.1 (by omega)
    subst this; rfl
  | k + 1, j + 1, d, h1, h2 => by
    simp only [opsT]
    split
    · rfl
    · split
      · rename_i h
        have := fst_len h
        rw [opsT_fuel k j _ (by omega) (by omega)]
      · rfl
def opsF (d : List UInt8) : Option (List Op) := opsT d.length d
theorem opsF_nil : opsF [] = some [] := rfl
theorem opsF_bad {d : List UInt8} (hd : d ≠ []) (h : (fst1 d).1 = false) : opsF d = none := by
  obtain ⟨x, r, rfl⟩ := List.exists_cons_of_ne_nil hd
  show opsT (r.length + 1) (x :: r) = none
  simp [opsT, h]
theorem opsF_one {d : List UInt8} (hd : d ≠ []) (h : (fst1 d).1 = true) : opsF d = (opsF (fst1 d).2.2).map ((fst1 d).2.1 :: ·) := by
  have hl := fst_len h
  obtain ⟨x, r, rfl⟩ := List.exists_cons_of_ne_nil hd
  show opsT (r.length + 1) (x :: r) = _
  simp only [opsT, h, if_true, reduceCtorEq, if_false]
  rw [List.length_cons] at hl
  rw [opsF, opsT_fuel r.length _ _ (by omega) (Nat.le_refl _)]
theorem opsF_more : ∀ (k : Nat) (d e : List UInt8) (l : List Op), d.length ≤ k → opsF d = some l → opsF (d ++ e) = (opsF e).map (l ++ ·)
  | 0, d, e, l, hk, h => by
    have : d = [] := List.length_eq_zero_iff.1 (by omega)
    subst this
    rw [opsF_nil] at h
    cases h
    cases hx : opsF e <;> simp [hx]
  | k + 1, d, e, l, hk, h => by
    by_cases hd : d = []
    · subst hd
      rw [opsF_nil] at h
      cases h
      cases hx : opsF e <;> simp [hx]
    · cases hf : (fst1 d).1 with
      | false => rw [opsF_bad hd hf] at h; cases h
      | true =>
        have hl := fst_len hf
        rw [opsF_one hd hf] at h
        have hm := fst_more hf e
        have hm1 : (fst1 (d ++ e)).1 = true := by rw [hm]
        rw [opsF_one (by simp [hd]) hm1, hm]
        cases hr : opsF (fst1 d).2.2 with
        | none => rw [hr] at h; cases h
        | some l2 =>
          rw [hr] at h
          cases h
          rw [opsF_more k _ e l2 (by omega) hr]
          cases opsF e <;> rfl
theorem opsF_fit : ∀ (k : Nat) (d : List UInt8) (l : List Op), d.length ≤ k → opsF d = some l → ∀ o ∈ l, Fit o
  | 0, d, l, hk, h => by
    have : d = [] := List.length_eq_zero_iff.1 (by omega)
    subst this
    rw [opsF_nil] at h
    cases h
    simp
  | k + 1, d, l, hk, h => by
    by_cases hd : d = []
    · subst hd
      rw [opsF_nil] at h
      cases h
      simp
    · cases hf : (fst1 d).1 with
      | false => rw [opsF_bad hd hf] at h; cases h
      | true =>
        have hl := fst_len hf
        rw [opsF_one hd hf] at h
        cases hr : opsF (fst1 d).2.2 with
        | none => rw [hr] at h; cases h
        | some l2 =>
          rw [hr] at h
          cases h
          intro o ho
          rcases List.mem_cons.1 ho with rfl | ho
          · exact fst_fit hf
          · exact opsF_fit k _ l2 (by omega) hr o ho

/-! what a delta makes -/
/-- does an operation fit a text, and what was made before -/
def badOp (a : List UInt8) (out : List UInt8) (o : Op) : Bool := (decide (o.text = []) && (decide ((a.length : Int) < o.at_) || decide ((a.length : Int) - o.at_ < o.n))) || decide (10000 - (out.length : Int) < o.n)
def opBytes (a : List UInt8) (o : Op) : List UInt8 := if o.text = [] then (a.drop o.at_.toNat).take o.n.toNat else o.text
def makes (a : List UInt8) : List Op → List UInt8 → Option (List UInt8)
  | [], out => some out
  | o :: l, out => if badOp a out o = true then none else makes a l (out ++ opBytes a o)
theorem op_len {a out : List UInt8} {o : Op} (hf : Fit o) (h : badOp a out o = false) : ((opBytes a o).length : Int) = o.n ∧ (out ++ opBytes a o).length ≤ 10000 := by
  unfold badOp at h
  simp only [Bool.or_eq_false_iff, Bool.and_eq_false_iff, decide_eq_false_iff_not] at h
  obtain ⟨h1, h2⟩ := h
  have hn : ((opBytes a o).length : Int) = o.n := by
    unfold opBytes
    rcases hf with ⟨ht, f1, f2, f3, f4⟩ | ⟨ht, f1, f2, f3⟩
    · rw [if_pos ht, List.length_take, List.length_drop]
      rcases h1 with h1 | ⟨h1, h3⟩
      · exact absurd ht h1
      · omega
    · rw [if_neg ht]; exact f2.symm
  refine ⟨hn, ?_⟩
  rw [List.length_append]; omega
/-- bytes that stand ahead change nothing but the length -/
theorem makes_more (a : List UInt8) : ∀ (l : List Op) (p out t : List UInt8), (∀ o ∈ l, Fit o) → makes a l out = some t → (makes a l (p ++ out) = some (p ++ t) ∧ (p ++ t).length ≤ 10000 ∨ l = []) ∨ (makes a l (p ++ out) = none ∧ 10000 < (p ++ t).length)
  | [], p, out, t, _, _ => .inl (.inr rfl)
  | o :: l, p, out, t, hf, h => by
    simp only [makes] at h
    cases hb : badOp a out o with
    | true => rw [hb] at h; cases h
    | false =>
      rw [hb] at h
      simp only [Bool.false_eq_true, if_false] at h
      obtain ⟨hn, hlen⟩ := op_len (hf o (by simp)) hb
      have hge : ∀ (l : List Op) (x y : List UInt8), makes a l x = some y → x.length ≤ y.length := by
        intro l
        induction l with
        | nil => intro x y h; cases h; exact Nat.le_refl _
        | cons o l ih =>
          intro x y h
          simp only [makes] at h
          split at h
          · cases h
          · have := ih _ _ h
            rw [List.length_append] at this; omega
      have hg := hge _ _ _ h
      cases hb2 : badOp a (p ++ out) o with
      | true =>
        right
        refine ⟨by simp only [makes, hb2, if_true], ?_⟩
        unfold badOp at hb hb2
        simp only [Bool.or_eq_false_iff, Bool.and_eq_false_iff, decide_eq_false_iff_not, Bool.or_eq_true, Bool.and_eq_true, decide_eq_true_eq, List.length_append] at hb hb2
        rw [List.length_append] at hg ⊢
        rcases hb2 with ⟨h1, h2⟩ | h2
        · obtain ⟨h3, _⟩ := hb
          rcases h3 with h3 | ⟨h3, h4⟩
          · exact absurd h1 h3
          · omega
        · omega
      | false =>
        obtain ⟨hn2, hlen2⟩ := op_len (hf o (by simp)) hb2
        have ih := makes_more a l p (out ++ opBytes a o) t (fun o ho => hf o (by simp [ho])) h
        have e : makes a (o :: l) (p ++ out) = makes a l (p ++ (out ++ opBytes a o)) := by
          simp only [makes, hb2, Bool.false_eq_true, if_false, List.append_assoc]
        rw [e]
        rcases ih with (⟨i1, i2⟩ | rfl) | ⟨i1, i2⟩
        · exact .inl (.inl ⟨i1, i2⟩)
        · left; left
          simp only [makes] at h ⊢
          cases h
          refine ⟨rfl, ?_⟩
          rw [← List.append_assoc]; exact hlen2
        · exact .inr ⟨i1, i2⟩
theorem makes_app (a : List UInt8) : ∀ (l1 l2 : List Op) (out t : List UInt8), makes a l1 out = some t → makes a (l1 ++ l2) out = makes a l2 t
  | [], l2, out, t, h => by cases h; rfl
  | o :: l1, l2, out, t, h => by
    simp only [makes, List.cons_append] at h ⊢
    split at h
    · cases h
    · rename_i hb
      rw [if_neg hb]
      exact makes_app a l1 l2 _ t h
/-- a delta, applied: the error's number, and what it makes -/
def apply (a d : List UInt8) : Nat × List UInt8 :=
  match opsF d with
  | none => (1, [])
  | some l => match makes a l [] with
    | none => (2, [])
    | some t => (0, t)
theorem apply_bad {a d : List UInt8} (h : (apply a d).1 ≠ 0) : (apply a d).2 = [] := by
  unfold apply at *
  split
  · rfl
  · split
    · rfl
    · rename_i h1 _ _ h2
      rw [h1] at h
      simp only [h2] at h
      exact absurd rfl h
/-- two deltas, one behind the other -/
theorem apply_join {a d e : List UInt8} (h1 : (apply a d).1 = 0) (h2 : (apply a e).1 = 0) : ((apply a (d ++ e)).1 ≠ 0 ∧ 10000 < (apply a d).2.length + (apply a e).2.length) ∨ ((apply a (d ++ e)).1 = 0 ∧ (apply a (d ++ e)).2 = (apply a d).2 ++ (apply a e).2) := by
  cases hd : opsF d with
  | none => unfold apply at h1; rw [hd] at h1; cases h1
  | some l1 =>
    cases he : opsF e with
    | none => unfold apply at h2; rw [he] at h2; cases h2
    | some l2 =>
      cases hm1 : makes a l1 [] with
      | none => unfold apply at h1; rw [hd] at h1; simp only [hm1] at h1; cases h1
      | some s =>
        cases hm2 : makes a l2 [] with
        | none => unfold apply at h2; rw [he] at h2; simp only [hm2] at h2; cases h2
        | some t =>
          have e1 : apply a d = (0, s) := by unfold apply; rw [hd]; simp only [hm1]
          have e2 : apply a e = (0, t) := by unfold apply; rw [he]; simp only [hm2]
          have hde : opsF (d ++ e) = some (l1 ++ l2) := by rw [opsF_more _ d e l1 (Nat.le_refl _) hd, he]; rfl
          have hmm := makes_app a l1 l2 [] s hm1
          rw [e1, e2]
          rcases makes_more a l2 s [] t (opsF_fit _ e l2 (Nat.le_refl _) he) hm2 with (⟨h3, _⟩ | rfl) | ⟨h3, h4⟩
          · right
            rw [List.append_nil] at h3
            have : apply a (d ++ e) = (0, s ++ t) := by unfold apply; rw [hde]; simp only [hmm, h3]
            rw [this]; exact ⟨rfl, rfl⟩
          · right
            cases hm2
            have : apply a (d ++ e) = (0, s) := by unfold apply; rw [hde]; simp only [hmm]; rfl
            rw [this]; exact ⟨rfl, (List.append_nil s).symm⟩
          · left
            rw [List.append_nil] at h3
            have : apply a (d ++ e) = (2, []) := by unfold apply; rw [hde]; simp only [hmm, h3]
            rw [this, ← List.length_append]
            exact ⟨by decide, h4⟩
end Pk
end Go.Proofs.YtmlndamkcipebaaDoor
