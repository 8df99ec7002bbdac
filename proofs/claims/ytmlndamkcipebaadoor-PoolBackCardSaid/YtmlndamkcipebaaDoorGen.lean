/- General facts about boxes, rows and iterators' rounds. -/
import Derived.Test.YtmlndamkcipebaaDoorRange
import Derived.Test.YtmlndamkcipebaaDoorRuleCheck
import Derived.Test.YtmlndamkcipebaaDoorOwnRule
import Derived.OwnWalkIn
namespace Go.Proofs.YtmlndamkcipebaaDoor
open Go Go.RowKit Go.Shelf Lmd
attribute [local go_sem] Oper.semAt_some
namespace Cand
open Rul Day Er

theorem stay_cell {O : Nat → Prop} {hi : Nat} {W W' : World} {p : Addr} {v : Value} (h : Rng.Stay O hi W W') (hc : W.cell? p = some v) (hO : ¬ O p.block) (hl : p.block < hi) : W'.cell? p = some v := by
  obtain ⟨o, ho⟩ : ∃ o, W.heap[p.block]? = some o := by
    cases hx : W.heap[p.block]? with
    | none => simp [World.cell?, hx] at hc
    | some o => exact ⟨o, rfl⟩
  have h1 := h.same _ o ho (.inr ⟨hO, hl⟩)
  simp only [World.cell?, ho] at hc
  simp only [World.cell?, h1]
  exact hc
theorem cell_lt {W : World} {p : Addr} {v : Value} (hc : W.cell? p = some v) : p.block < W.heap.size := by
  cases hx : W.heap[p.block]? with
  | none => simp [World.cell?, hx] at hc
  | some o => exact (Array.getElem?_eq_some_iff.1 hx).1
theorem rng_stay (O : Nat → Prop) (hi : Nat) (W0 : World) : Rng.Stable W0.heap.size (fun (_ : Nat) (_ : List Int) W' => Rng.Stay O hi W0 W') := by
  intro hi' s A B row hB hs hg hr
  refine ⟨hg.os.trans hs.os, hg.tape.trans hs.tape, hg.output.trans hs.output, Nat.le_trans hs.size hg.size, fun b o hb ho => ?_⟩
  have hlt := (Array.getElem?_eq_some_iff.1 hb).1
  rw [hg.block b (Nat.lt_of_lt_of_le hlt hs.size) (fun e => by have := (hr b e.symm).1; omega)]
  exact hs.same b o hb ho
theorem rng_boxed {B b : Nat} {t : TypeId} {f : List Int → Value} (hb : b < B) : Rng.Stable B (fun (_ : Nat) pre W' => Boxed W' b t (f pre)) := by
  intro hi s A C row hB hs hg hr
  exact hs.kept hg (fun e => by have := (hr b e.symm).1; omega)
theorem rng_and {B : Nat} {J K : Nat → List Int → World → Prop} (h1 : Rng.Stable B J) (h2 : Rng.Stable B K) : Rng.Stable B (fun hi s W => J hi s W ∧ K hi s W) :=
  fun hi s A C row hB hs hg hr => ⟨h1 hi s A C row hB hs.1 hg hr, h2 hi s A C row hB hs.2 hg hr⟩
theorem rng_const {B : Nat} (p : List Int → Prop) : Rng.Stable B (fun (_ : Nat) s (_ : World) => p s) := fun _ _ _ _ _ _ hs _ _ => hs
theorem round_in {m m' l2 : Nat} {P : Program} {l : Nat} {f : FuncId} {tmps : Array Value} {assign body : Code} {w : World} {R : Ending → World → Prop}
    (h : RoundIn Fence.wide m P l f tmps assign body w R) : RoundIn (Fence.wide.inRound l2) m' P l f tmps assign body w R := ⟨h.1, fun c cs _ => h.2 c cs (Rng.room_wide _)⟩
theorem rest_refl (B : Nat) (W : World) : Rng.Rest B W W := fun _ _ _ h _ => h
theorem reads_lt {w : World} {v : Value} {xs : List Int} (h : Ints.Reads w v xs) {b o n c : Nat} (hv : v = .slice (some ⟨b, o, none⟩) n c) (hn : n ≠ 0) : b < w.heap.size := by
  rcases h with ⟨rfl, a, cap, e⟩ | ⟨b', off, cap, e, hc⟩
  · rw [e] at hv; cases hv; exact absurd rfl hn
  · rw [e] at hv; cases hv
    exact cell_lt (hc 0 (by omega))
theorem stay_below {O : Nat → Prop} {hi B : Nat} {W W' : World} (h : Rng.Stay O hi W W') (hO : ∀ b, O b → B ≤ b) (hB : B ≤ hi) (hz : B ≤ W.heap.size) : Below B W W' := by
  refine ⟨h.os, h.tape, h.output, h.size, fun k hk => ?_⟩
  obtain ⟨o, ho⟩ : ∃ o, W.heap[k]? = some o := ⟨W.heap[k]'(by omega), by simp⟩
  rw [h.same k o ho (.inr ⟨fun x => by have := hO k x; omega, by omega⟩), ho]
theorem rest_set {B : Nat} {W W' : World} (h : Rng.Rest B W W') (p : Addr) (hp : p.block < B) (v : Value) : Rng.Rest B W (W'.setCell p v) := fun b o hb hc ho => by
  rw [Below.heap_setCell _ _ _ _ (by omega)]
  exact h b o hb hc ho
theorem own_any (r : Ru) (v : Value) (w : World) (hr : Ints.Reads w v r.ds) (hl : r.ds.length ≤ 65536) :
    Calls Tryd.prog 40 #[.agg #[.string r.fq, .int .i64 r.ev, v, .int .i64 r.ct, .int .i64 r.un]] w fun e w' => ∃ v', e = .returned (.agg #[.string r.fq, .int .i64 r.ev, v', .int .i64 r.ct, .int .i64 r.un]) ∧ Ints.Reads w' v' r.ds ∧ Below w.heap.size w w' := ownRule_any r v w hr hl
theorem chk_any (r : Ru) (v : Value) (e : Nat → Addr) (w : World) (he : E4 w e) (hr : Ints.Reads w v r.ds) (hl : r.ds.length < 1000) :
    Calls Tryd.prog 41 #[.agg #[.string r.fq, .int .i64 r.ev, v, .int .i64 r.ct, .int .i64 r.un]] w fun e' w' => e' = .returned (errV e (bad r)) ∧ Below w.heap.size w w' := check_any r v e w he hr hl
theorem row_below {w w' : World} {b : Nat} {o : Obj} (h : w.heap[b]? = some o) (hb : Below w.heap.size w w') : w'.heap[b]? = some o := by
  rw [hb.block b (Array.getElem?_eq_some_iff.1 h).1]; exact h
theorem cells5 {w : World} {b : Nat} {a0 a1 a2 a3 a4 : Value} {t : TypeId} (h : w.heap[b]? = some (.cells #[a0, a1, a2, a3, a4] t (0, 0))) :
    w.cell? ⟨b, 0, none⟩ = some a0 ∧ w.cell? ⟨b, 1, none⟩ = some a1 ∧ w.cell? ⟨b, 2, none⟩ = some a2 ∧ w.cell? ⟨b, 3, none⟩ = some a3 ∧ w.cell? ⟨b, 4, none⟩ = some a4 ∧ (w.frozen? ⟨b, 3, none⟩ = false ∧ w.frozen? ⟨b, 4, none⟩ = false ∧ w.frozen? ⟨b, 1, none⟩ = false) := by
  simp [World.cell?, World.frozen?, h]
theorem bad_parts {r : Ru} (h : bad r = 0) : Lib.containsS freqs r.fq = true ∧ boundB r = true ∧ daysB r.ds = true ∧ shapeB r = true ∧ riseB r.ds = true := by
  unfold bad at h
  by_cases h1 : Lib.containsS freqs r.fq = false
  · rw [if_pos h1] at h; cases h
  · rw [if_neg h1] at h
    by_cases h2 : (boundB r && daysB r.ds) = false
    · rw [if_pos h2] at h; cases h
    · rw [if_neg h2] at h
      by_cases h3 : shapeB r = false
      · rw [if_pos h3] at h; cases h
      · rw [if_neg h3] at h
        by_cases h4 : riseB r.ds = false
        · rw [if_pos h4] at h; cases h
        · simp only [Bool.not_eq_false, Bool.and_eq_true] at h1 h2 h3 h4
          exact ⟨h1, h2.1, h2.2, h3, h4⟩
theorem bound_parts {r : Ru} (h : boundB r = true) : (1 ≤ r.ev ∧ r.ev ≤ 100) ∧ (0 ≤ r.ct ∧ r.ct ≤ 1000) ∧ -1 ≤ r.un ∧ r.un ≤ 73048 := by
  simpa [boundB, inB, and_assoc] using h
theorem freqs_mem {fq : ByteArray} (h : Lib.containsS freqs fq = true) : fq = once ∨ fq = daily ∨ fq = weekly ∨ fq = monthly ∨ fq = yearly := by
  have := (Lib.containsS_iff _ _).1 h
  simpa [freqs] using this
theorem bad_change {r : Ru} (ev ct un : Int) (h : bad r = 0) (hone : (r.fq.toList == [111, 110, 99, 101]) = false) (h1 : 0 ≤ ct ∧ ct ≤ 1000) (h2 : -1 ≤ un ∧ un ≤ 73048) (h3 : ct = 0 ∨ un = -1) (h4 : 1 ≤ ev ∧ ev ≤ 100) : bad { r with ev := ev, ct := ct, un := un } = 0 := by
  obtain ⟨a1, a2, a3, a4, a5⟩ := bad_parts h
  have ho : ¬ r.fq.toList = [111, 110, 99, 101] := by simpa using hone
  refine bad_none a1 ?_ ?_ a5
  · have : boundB { r with ev := ev, ct := ct, un := un } = true := by simp [boundB, inB, h1, h2, h4]
    rw [this]; exact a3
  · simp only [shapeB, ho, decide_false, Bool.not_false, Bool.true_or, Bool.true_and, Bool.and_eq_true] at a4 ⊢
    refine ⟨a4.1, ?_⟩
    simpa using h3
theorem cellsOf_snoc (xs : List Int) (x : Int) : cellsOf (xs ++ [x]) = cellsOf xs ++ [.int .i64 x] := by
  apply List.ext_getElem?
  intro i
  by_cases h : i < xs.length
  · rw [List.getElem?_append_left (by rw [cellsOf_len]; exact h), cellsOf_get h, cellsOf_get (by simp; omega), Ints.el_lt h, Ints.el_lt (by simp; omega), List.getElem_append_left h]
  · by_cases h2 : i = xs.length
    · subst h2
      rw [cellsOf_get (by simp), List.getElem?_append_right (by rw [cellsOf_len]; exact Nat.le_refl _), cellsOf_len, Nat.sub_self, Ints.el_lt (by simp)]
      simp
    · rw [List.getElem?_eq_none (by rw [cellsOf_len, List.length_append]; simp; omega), List.getElem?_eq_none (by rw [List.length_append, cellsOf_len]; simp; omega)]
/-- a box that holds a slice of numbers of its own, above a line -/
def Holds (b : Nat) (hi : Nat) (l : List Int) (W : World) : Prop :=
  ∃ v, Boxed W b 44 v ∧ W.ownsRow hi 3 1 v l.length (cellsOf l)
theorem ownBlock_ge {W : World} {base : Nat} {e : TypeId} {size : Nat} {v : Value} {k : Nat} {xs : List Value} (h : W.ownsRow base e size v k xs) {r : Nat} (hr : v.ownBlock = some r) : base ≤ r := by
  rcases h.2 with ⟨rfl, _⟩ | ⟨g, cap, cur, rfl, hb, _⟩
  · simp [Value.ownBlock] at hr
  · obtain rfl : g = r := by simpa [Value.ownBlock] using hr
    exact hb
theorem holds_kept {b hi : Nat} {l : List Int} {W W' : World} {row : Option Nat} (h : Holds b hi l W) (hg : W.grownBy W' row) (hb : ∀ r, row = some r → r ≠ b) (hr : ∀ r, row = some r → r < hi) : Holds b hi l W' := by
  obtain ⟨v, h1, h2⟩ := h
  refine ⟨v, h1.kept hg (fun e => hb b e.symm rfl), h2.kept hg ?_⟩
  cases hv : v.ownBlock with
  | none =>
    rcases h2.2 with ⟨rfl, _⟩ | ⟨g, cap, cur, rfl, _⟩
    · exact .inl rfl
    · simp [Value.ownBlock] at hv
  | some g =>
    exact .inr fun e => by have := ownBlock_ge h2 hv; have := hr g e.symm; omega
theorem holds_reads {b hi : Nat} {l : List Int} {W : World} (h : Holds b hi l W) : ∃ a c, Boxed W b 44 (.slice a l.length c) ∧ W.ownsRow hi 3 1 (.slice a l.length c) l.length (cellsOf l) ∧ Ints.Reads W (.slice a l.length c) l := by
  obtain ⟨v, h1, h2⟩ := h
  have h3 := reads_own h2
  obtain ⟨a, c, rfl⟩ := h3.shape
  exact ⟨a, c, h1, h2, h3⟩
theorem rng_holds {B b : Nat} (hb : b < B) : Rng.Stable B (fun hi pre W' => Holds b hi pre W') := by
  intro hi s A C row hB hs hg hr
  exact holds_kept hs hg (fun r e => by have := (hr r e).1; omega) (fun r e => (hr r e).2)
theorem rng_size {B : Nat} : Rng.Stable B (fun hi (_ : List Int) W' => hi ≤ W'.heap.size) := fun _ _ _ _ _ _ hs hg _ => Nat.le_trans hs hg.size
/-- behind an append to a boxed slice and the store of it -/
theorem holds_append {b hi : Nat} {l : List Int} {x : Int} {W w1 : World} {v v' : Value} {O : Nat → Prop} (hv : Boxed W b 44 v) (hrow : W.ownsRow hi 3 1 v l.length (cellsOf l))
    (hO : O b) (hown : w1.ownsRow hi 3 1 v' (l.length + 1) (cellsOf l ++ [.int .i64 x])) (hg : (W.alloc (.cells #[.int .i64 x] 3)).grownBy w1 v.ownBlock) :
    Boxed w1 b 44 v ∧ Holds b hi (l ++ [x]) (w1.setCell ⟨b, 0, none⟩ v') ∧ Rng.Stay O hi W (w1.setCell ⟨b, 0, none⟩ v') := by
  have hte : 44 ≠ 3 := by decide
  have hv1 : Boxed w1 b 44 v := (hv.alloc _).kept hg (hv.not_row hte hrow)
  refine ⟨hv1, ⟨v', hv1.set v', ?_⟩, ?_⟩
  · rw [cellsOf_snoc, List.length_append]
    exact hown.kept (grownBy_setCell' w1 b v') (.inr (hv1.not_row hte hown).symm)
  · have h1 : Rng.Stay O hi W (W.alloc (.cells #[.int .i64 x] 3)) := Rng.Stay.of_below ((Below.refl _ W).alloc (Nat.le_refl _) _)
    have h2 : Rng.Stay O hi (W.alloc (.cells #[.int .i64 x] 3)) w1 := by
      refine ⟨hg.os, hg.tape, hg.output, hg.size, fun k o hk ho => ?_⟩
      have hlt := (Array.getElem?_eq_some_iff.1 hk).1
      rw [hg.block k hlt ?_]
      · exact hk
      · intro e
        have hge := ownBlock_ge hrow e.symm
        rcases ho with ho | ⟨_, ho⟩
        · rcases (hrow.alloc (.cells #[.int .i64 x] 3)).2 with ⟨rfl, _⟩ | ⟨g, cap, cur, rfl, _, hgb, _⟩
          · simp [Value.ownBlock] at e
          · obtain rfl : g = k := by simpa [Value.ownBlock] using e.symm
            rw [hgb] at hk; cases hk; cases ho
        · omega
    refine (h1.trans h2).setCell (.inl hO) (fun o ho => ?_) _
    rw [show W.heap[b]? = _ from hv] at ho; cases ho; rfl
end Cand
end Go.Proofs.YtmlndamkcipebaaDoor
