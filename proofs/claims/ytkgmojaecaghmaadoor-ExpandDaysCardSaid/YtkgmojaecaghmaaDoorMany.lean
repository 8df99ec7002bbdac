/- Many: slices.Collect, slices.AppendSeq, over what the iterator of all days gives. -/
import Derived.Test.YtkgmojaecaghmaaDoorCounts
import Derived.OwnWalkIn
namespace Go.Proofs.YtkgmojaecaghmaaDoor
open Go Go.RowKit Go.Shelf Lmd
attribute [local go_sem] Oper.semAt_some
namespace Cand
open Rul Day Er

theorem cellsOf_snoc (xs : List Int) (x : Int) : cellsOf (xs ++ [x]) = cellsOf xs ++ [.int .i64 x] := by
  apply List.ext_getElem?
  intro i
  by_cases h : i < xs.length
  · rw [List.getElem?_append_left (by rw [cellsOf_len]; exact h), cellsOf_get h, cellsOf_get (by simp; omega), Ints.el_lt h, Ints.el_lt (by simp; omega), List.getElem_append_left h]
  · by_cases h2 : i = xs.length
    · subst h2
      rw [cellsOf_get (by simp), List.getElem?_append_right (by rw [cellsOf_len]; exact Nat.le_refl _), cellsOf_len, Nat.sub_self, Ints.el_lt (by simp)]
      simp
    · rw [List.getElem?_eq_none (by rw [cellsOf_len, List.length_append]; simp; omega), List.getElem?_eq_none (by rw [List.length_append, cellsOf_len]; simp; omega)]
/-- a box that holds a slice of numbers of its own, above a line -/
def Holds (b : Nat) (hi : Nat) (l : List Int) (W : World) : Prop :=
  ∃ v, Boxed W b 22 v ∧ W.ownsRow hi 3 1 v l.length (cellsOf l)
theorem ownBlock_ge {W : World} {base : Nat} {e : TypeId} {size : Nat} {v : Value} {k : Nat} {xs : List Value} (h : W.ownsRow base e size v k xs) {r : Nat} (hr : v.ownBlock = some r) : base ≤ r := by
  rcases h.2 with ⟨rfl, _⟩ | ⟨g, cap, cur, rfl, hb, _⟩
  · simp [Value.ownBlock] at hr
  · obtain rfl : g = r := by simpa [Value.ownBlock] using hr
    exact hb
theorem holds_kept {b hi : Nat} {l : List Int} {W W' : World} {row : Option Nat} (h : Holds b hi l W) (hg : W.grownBy W' row) (hb : ∀ r, row = some r → r ≠ b) (hr : ∀ r, row = some r → r < hi) : Holds b hi l W' := by
  obtain ⟨v, h1, h2⟩ := h
  refine ⟨v, h1.kept hg (fun e => hb b e.symm rfl), h2.kept hg ?_⟩
  cases hv : v.ownBlock with
  | none =>
    rcases h2.2 with ⟨rfl, _⟩ | ⟨g, cap, cur, rfl, _⟩
    · exact .inl rfl
    · simp [Value.ownBlock] at hv
  | some g =>
    exact .inr fun e => by have := ownBlock_ge h2 hv; have := hr g e.symm; omega
theorem holds_reads {b hi : Nat} {l : List Int} {W : World} (h : Holds b hi l W) : ∃ a c, Boxed W b 22 (.slice a l.length c) ∧ W.ownsRow hi 3 1 (.slice a l.length c) l.length (cellsOf l) ∧ Ints.Reads W (.slice a l.length c) l := by
  obtain ⟨v, h1, h2⟩ := h
  have h3 := reads_own h2
  obtain ⟨a, c, rfl⟩ := h3.shape
  exact ⟨a, c, h1, h2, h3⟩

theorem rng_holds {B b : Nat} (hb : b < B) : Rng.Stable B (fun hi pre W' => Holds b hi pre W') := by
  intro hi s A C row hB hs hg hr
  exact holds_kept hs hg (fun r e => by have := (hr r e).1; omega) (fun r e => (hr r e).2)
theorem rng_size {B : Nat} : Rng.Stable B (fun hi (_ : List Int) W' => hi ≤ W'.heap.size) := fun _ _ _ _ _ _ hs hg _ => Nat.le_trans hs hg.size
/-- behind an append to a boxed slice and the store of it -/
theorem holds_append {b hi : Nat} {l : List Int} {x : Int} {W w1 : World} {v v' : Value} {O : Nat → Prop} (hv : Boxed W b 22 v) (hrow : W.ownsRow hi 3 1 v l.length (cellsOf l))
    (hO : O b) (hown : w1.ownsRow hi 3 1 v' (l.length + 1) (cellsOf l ++ [.int .i64 x])) (hg : (W.alloc (.cells #[.int .i64 x] 3)).grownBy w1 v.ownBlock) :
    Boxed w1 b 22 v ∧ Holds b hi (l ++ [x]) (w1.setCell ⟨b, 0, none⟩ v') ∧ Rng.Stay O hi W (w1.setCell ⟨b, 0, none⟩ v') := by
  have hte : 22 ≠ 3 := by decide
  have hv1 : Boxed w1 b 22 v := (hv.alloc _).kept hg (hv.not_row hte hrow)
  refine ⟨hv1, ⟨v', hv1.set v', ?_⟩, ?_⟩
  · rw [cellsOf_snoc, List.length_append]
    exact hown.kept (grownBy_setCell' w1 b v') (.inr (hv1.not_row hte hown).symm)
  · have h1 : Rng.Stay O hi W (W.alloc (.cells #[.int .i64 x] 3)) := Rng.Stay.of_below ((Below.refl _ W).alloc (Nat.le_refl _) _)
    have h2 : Rng.Stay O hi (W.alloc (.cells #[.int .i64 x] 3)) w1 := by
      refine ⟨hg.os, hg.tape, hg.output, hg.size, fun k o hk ho => ?_⟩
      have hlt := (Array.getElem?_eq_some_iff.1 hk).1
      rw [hg.block k hlt ?_]
      · exact hk
      · intro e
        have hge := ownBlock_ge hrow e.symm
        rcases ho with ho | ⟨_, ho⟩
        · rcases (hrow.alloc (.cells #[.int .i64 x] 3)).2 with ⟨rfl, _⟩ | ⟨g, cap, cur, rfl, _, hgb, _⟩
          · simp [Value.ownBlock] at e
          · obtain rfl : g = k := by simpa [Value.ownBlock] using e.symm
            rw [hgb] at hk; cases hk; cases ho
        · omega
    refine (h1.trans h2).setCell (.inl hO) (fun o ho => ?_) _
    rw [show W.heap[b]? = _ from hv] at ho; cases ho; rfl

set_option maxRecDepth 100000 in
set_option maxHeartbeats 4000000 in
theorem appendSeq_any (base br bs : Nat) (v : Value) (l : List Int) (w : World)
    (hseq : Rng.Seq Tryd.prog 74 (la br bs) (fun x : Int => #[.int .i64 x]) (Apart base br bs v) (fun xs => xs = l) (fun pre => pre <+: l) 100000 w)
    (hA : Apart base br bs v (fun b => b = w.heap.size)) :
    Calls Tryd.prog 82 #[.slice none 0 0, .func (.func 74) #[] (la br bs)] w fun e' w' => ∃ v', e' = .returned v' ∧ Ints.Reads w' v' l ∧ Below w.heap.size w w' := by
  obtain ⟨i0, hi0, hz0, hz1, hz2⟩ := info_parts int_info
  refine (callsIn_wide (n := Rng.dp + 1)).1 ?_
  refine callsIn_of_wp_marks Tryd.func82 rfl trivial ?_ rfl
  simp only [Tryd.ntmps82, List.size_toArray, List.length_cons, List.length_nil, Nat.reduceAdd, Nat.reduceSub, Array.replicate_succ, Array.replicate_zero, List.push_toArray, List.append_toArray, List.nil_append, List.cons_append]
  have HS := Lib.hid hseq
  clear hseq
  gi_wp2
  have bB := Boxed.new w 22 (.slice none 0 0)
  obtain ⟨W0, hW0⟩ : ∃ W0, w.alloc (.cells #[.slice none 0 0] 22) = W0 := ⟨_, rfl⟩
  have hB0 : Below w.heap.size w W0 := by rw [← hW0]; exact (Below.refl _ w).alloc (Nat.le_refl _) _
  have hz : W0.heap.size = w.heap.size + 1 := by rw [← hW0]; simp
  rw [hW0] at bB ⊢
  clear hW0
  refine Rng.range_law (n := Rng.dp + 1) (by decide) (gf := 74) (lb := la br bs) rfl (enters_of Tryd.func74 (by kernel_rfl) rfl)
    HS.out hB0 (fun _ => rfl) (fun b => b = w.heap.size) (fun b hb => by omega) hA
    (fun hi pre W' => (Holds w.heap.size hi pre W' ∧ hi ≤ W'.heap.size) ∧ Rng.Stay (fun b => b = w.heap.size) W0.heap.size W0 W')
    (fun _ _ _ _ => False)
    (rng_and (rng_and (rng_holds (by omega)) rng_size) (rng_stay _ _ _)) (fun _ _ _ _ _ _ _ hs _ _ => hs) ?h0
    (fun x => { tmps := #[.slice none 0 0, .func (.func 74) #[] (la br bs), .pointer (some ⟨w.heap.size, 0, none⟩), undef, .slice none 0 0, .int .i64 x, .func (.func 74) #[] (la br bs), .int .i64 x, undef, undef, undef, undef, undef], defers := [] }) ?assign ?body ?done ?stop
  case h0 =>
    intro W' hW'
    refine ⟨⟨⟨.slice none 0 0, bB.kept (Rng.grownBy_of_below hW') (by simp), ?_⟩, Nat.le_refl _⟩, Rng.Stay.of_below hW'⟩
    exact ⟨by simp [cellsOf], .inl ⟨rfl, rfl⟩⟩
  case assign =>
    intro l2 x W' K hK
    gi_wp2
    exact hK
  case body =>
    rintro hi l2 pre x W' hhi ⟨⟨hh, hsz⟩, hst⟩ hlen
    obtain ⟨a, c, hbx, hown, _⟩ := holds_reads hh
    have y1 := hbx.cell
    have HB := Lib.hid hbx
    have HOWN := Lib.hid hown
    have HST := Lib.hid hst
    have HSZ := Lib.hid hsz
    have HL := Lib.hid hlen
    have HB0 := Lib.hid bB
    clear hbx hown hst hsz hh hlen bB
    gi_wp2_with (gi_at_builtin
                 refine wpListIn_append_own _ rfl (.tmp 8) (.tmp 10) _ rfl hi 3 i0 _ 1 8 Tryd.underlying22 hi0 hz0 hz1 hz2 rfl (by omega) (.slice a pre.length c) pre.length (cellsOf pre) rfl
                   (HOWN.out.alloc _) ⟨W'.heap.size, 0, none⟩ 1 1 [.int .i64 x] rfl rfl
                   (fun j u hu => by
                     cases j with
                     | zero => simp at hu; subst hu; exact (Boxed.new W' _ _).cell
                     | succ j => simp at hu) (fun u hu => by simp at hu; subst hu; rfl) (by have := HL.out; simp only [maxLen]; omega) (by have := HL.out; omega) (by have := HSZ.out; simp; omega) ?_
                 intro v1 w1 hown' hg hnil
                 have hap := holds_append (O := fun b => b = w.heap.size) HB.out HOWN.out rfl hown' hg
                 obtain ⟨a1, c1, e1⟩ : ∃ a1 c1, v1 = .slice a1 (pre.length + 1) c1 := by
                   have h3 := reads_own (xs := pre ++ [x]) (by rw [cellsOf_snoc, List.length_append]; exact hown')
                   obtain ⟨a1, c1, e⟩ := h3.shape
                   exact ⟨a1, c1, by rw [e, List.length_append]; rfl⟩
                 subst e1
                 have z1 := hap.1.cell
                 have z2 := hap.1.frozen
                 have HAP := Lib.hid hap
                 clear hown' hg hnil hap)
    have hs2 := HAP.out.2.2
    refine ⟨hs2, ⟨HAP.out.2.1, Nat.le_trans HSZ.out hs2.size⟩, HST.out.trans (hs2.mono (fun _ _ h => h) (by omega))⟩
  case done =>
    rintro D hi xs W' hD hDh rfl ⟨⟨hh, hsz⟩, hst⟩ hK
    obtain ⟨a, c, hbx, hown, _⟩ := holds_reads hh
    have y1 := hbx.cell
    gi_wp2
    refine ⟨by simp, .inl ⟨_, _, rfl, run_takeDeferred hK, ?_⟩⟩
    have hb := (stay_below hst (B := w.heap.size) (fun b h => by omega) (by omega) (by omega))
    exact ⟨_, results_tmp rfl _ _ _, _, rfl, reads_own (ownsRow_putObj hown _ hK rfl), (hB0.trans hb).trans (belowK_b (w := w) (Nat.le_refl _) W' D _ _ (by omega) hK rfl rfl)⟩
  case stop =>
    intro D hi c pre W' _ _ _ h _
    exact h.elim

set_option maxHeartbeats 1000000 in
theorem collect_any (base br bs : Nat) (v : Value) (l : List Int) (w : World)
    (hseq : Rng.Seq Tryd.prog 74 (la br bs) (fun x : Int => #[.int .i64 x]) (Apart base br bs v) (fun xs => xs = l) (fun pre => pre <+: l) 100000 w)
    (hA : Apart base br bs v (fun b => b = w.heap.size)) :
    Calls Tryd.prog 53 #[.func (.func 74) #[] (la br bs)] w fun e' w' => ∃ a c, e' = .returned (.slice a l.length c) ∧ Ints.Reads w' (.slice a l.length c) l ∧ Below w.heap.size w w' := by
  have h := appendSeq_any base br bs v l w hseq hA
  have HC := Lib.hid h
  clear h hseq hA
  go_enter Tryd.func53, Tryd.ntmps53
  go_wp2_with (go_at_call 82; refine HC.out.mono ?_; rintro e' w1 ⟨v1, rfl, hr1, hb1⟩; obtain ⟨a1, c1, rfl⟩ := hr1.shape)
  go_ret
  exact ⟨a1, c1, rfl, hr1, hb1⟩

set_option maxRecDepth 100000 in
set_option maxHeartbeats 1000000 in
theorem many_any (start : Int) (r : Ru) (v : Value) (l : List Int) (e : Nat → Addr) (w : World) (hG : Gives start r v l w) (he : E4 w e) (hr : Ints.Reads w v r.ds) :
    Calls Tryd.prog 22 #[.int .i64 start, .agg #[.string r.fq, .int .i64 r.ev, v, .int .i64 r.ct, .int .i64 r.un]] w fun e' w' => e' = .returned (.int .i64 l.length) ∧ Below w.heap.size w w' := by
  obtain ⟨Wa, hWa⟩ : ∃ Wa, w.alloc (.cells #[.string r.fq, .int .i64 r.ev, v, .int .i64 r.ct, .int .i64 r.un] 24) = Wa := ⟨_, rfl⟩
  have hBa : Below w.heap.size w Wa := by rw [← hWa]; exact (Below.refl _ w).alloc (Nat.le_refl _) _
  have hza : Wa.heap.size = w.heap.size + 1 := by rw [← hWa]; simp
  have hxa := heap_new w (.cells #[.string r.fq, .int .i64 r.ev, v, .int .i64 r.ct, .int .i64 r.un] 24)
  rw [hWa] at hxa
  obtain ⟨q0, q1, q2, q3, q4, _⟩ := cells5 hxa
  have hBX := boxes_new start r v Wa (hr.below hBa) 3 24
  have hB0 : Below Wa.heap.size Wa ((Wa.alloc (.cells #[.int .i64 start] 3)).alloc (.cells #[.string r.fq, .int .i64 r.ev, v, .int .i64 r.ct, .int .i64 r.un] 24)) := ((Below.refl _ Wa).alloc (Nat.le_refl _) _).alloc (by simp) _
  have hz : ((Wa.alloc (.cells #[.int .i64 start] 3)).alloc (.cells #[.string r.fq, .int .i64 r.ev, v, .int .i64 r.ct, .int .i64 r.un] 24)).heap.size = Wa.heap.size + 2 := by simp
  have hBw := hBa.trans (hB0.mono (by omega))
  have hgl : 1 < w.heap.size := cell_lt he.s1.1
  have hall := all_any start r v Wa
  simp only [Ru.val] at hall
  generalize (Wa.alloc (.cells #[.int .i64 start] 3)).alloc (.cells #[.string r.fq, .int .i64 r.ev, v, .int .i64 r.ct, .int .i64 r.un] 24) = W0 at *
  have hc := collect_any _ (Wa.heap.size + 1) Wa.heap.size v l W0 (hG W0 _ _ hBw hBX) ⟨by omega, by omega, fun b o n c hv hn => by have := reads_lt hr hv hn; omega, fun b h => by omega⟩
  simp only [la, hza] at hc
  have HALL := Lib.hid hall
  have HC := Lib.hid hc
  have HBW := Lib.hid hBw
  have hsz := hBw.size
  clear hall hc hBX hB0 hBa hG he hr hBw hxa
  go_enter Tryd.func22, Tryd.ntmps22
  go_wp2_with fail
  refine HALL.out.mono ?_
  rintro e' w1 ⟨rfl, rfl⟩
  go_wp2_with fail
  refine HC.out.mono ?_
  rintro e' w2 ⟨a1, c1, rfl, hr1, hb1⟩
  have HBF := Lib.hid (HBW.out.trans (hb1.mono hsz))
  clear hr1 hb1
  go_wp2
  go_ret
  exact ⟨rfl, HBF.out⟩
end Cand
end Go.Proofs.YtkgmojaecaghmaaDoor
