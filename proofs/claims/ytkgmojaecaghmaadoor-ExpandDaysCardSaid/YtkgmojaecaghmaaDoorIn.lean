/- In: the days in a span. -/
import Derived.Test.YtkgmojaecaghmaaDoorMany
import Derived.Test.YtkgmojaecaghmaaDoorExpLaw
import Derived.Stop.RegionWithIn
namespace Go.Proofs.YtkgmojaecaghmaaDoor
open Go Go.RowKit Go.Shelf Lmd
attribute [local go_sem] Oper.semAt_some
namespace Cand
open Rul Day Er

theorem span_snoc (l : List Int) (x a b : Int) : spanOf (l ++ [x]) a b = spanOf l a b ++ (if a ≤ x ∧ x ≤ b then [x] else []) := by
  unfold spanOf
  rw [List.filter_append]
  congr 1
  simp only [List.filter_cons, List.filter_nil, decide_eq_true_eq]
theorem span_stop {l p : List Int} {x a b : Int} (h : l.Pairwise (· < ·)) (hp : p ++ [x] <+: l) (hx : b < x) : spanOf l a b = spanOf p a b := by
  obtain ⟨t, rfl⟩ := hp
  unfold spanOf
  have h2 : ([x] ++ t).filter (fun z => decide (a ≤ z ∧ z ≤ b)) = [] := by
    rw [List.filter_eq_nil_iff]
    intro z hz
    have h1 : x ≤ z := by
      rcases List.mem_append.1 hz with hz | hz
      · simp at hz; omega
      · have := (List.pairwise_append.1 h).2.2 x (by simp) z hz; omega
    simp; omega
  rw [List.append_assoc, List.filter_append, h2, List.append_nil]
theorem span_many {l p : List Int} {x a b : Int} (hp : p ++ [x] <+: l) (hx : a ≤ x ∧ x ≤ b) : (spanOf p a b).length < (spanOf l a b).length := by
  obtain ⟨t, rfl⟩ := hp
  have := span_snoc p x a b
  rw [if_pos hx] at this
  unfold spanOf at this ⊢
  rw [List.filter_append, this, List.length_append, List.length_append]
  simp; omega
theorem rng_span {B b : Nat} (ka kb : Int) (hb : b < B) : Rng.Stable B (fun hi pre W' => Holds b hi (spanOf pre ka kb) W') := by
  intro hi s A C row hB hs hg hr
  exact holds_kept hs hg (fun r e => by have := (hr r e).1; omega) (fun r e => (hr r e).2)

set_option maxRecDepth 100000 in
set_option maxHeartbeats 4000000 in
theorem in_good (start : Int) (r : Ru) (v : Value) (ka kb : Int) (l : List Int) (e : Nat → Addr) (w : World) (hs : 0 ≤ start ∧ start ≤ 73048) (hbad : bad r = 0) (hG : Gives start r v l w) (hrise : l.Pairwise (· < ·)) (he : Errs w e) (hr : Ints.Reads w v r.ds) (hl : r.ds.length < 1000) :
    Calls Tryd.prog 31 #[.int .i64 start, .agg #[.string r.fq, .int .i64 r.ev, v, .int .i64 r.ct, .int .i64 r.un], .int .i64 ka, .int .i64 kb] w fun e' w' =>
      ∃ v' er, e' = .returned (.tuple #[v', er]) ∧ ((1000 < (spanOf l ka kb).length ∧ v' = .slice none 0 0 ∧ er = ev (e 6)) ∨ ((spanOf l ka kb).length ≤ 1000 ∧ er = .nilIface ∧ Ints.Reads w' v' (spanOf l ka kb))) ∧ Below w.heap.size w w' := by
  obtain ⟨i0, hi0, hz0, hz1, hz2⟩ := info_parts int_info
  refine (callsIn_wide (n := Rng.dp + 1)).1 ?_
  refine callsIn_of_wp_marks Tryd.func31 rfl trivial ?_ rfl
  simp only [Tryd.ntmps31, List.size_toArray, List.length_cons, List.length_nil, Nat.reduceAdd, Nat.reduceSub, Array.replicate_succ, Array.replicate_zero, List.push_toArray, List.append_toArray, List.nil_append, List.cons_append]
  have hck : ∀ w', Below w.heap.size w w' → Calls Tryd.prog 15 #[.agg #[.string r.fq, .int .i64 r.ev, v, .int .i64 r.ct, .int .i64 r.un]] w' fun e' w1 => e' = .returned .nilIface ∧ Below w'.heap.size w' w1 := fun w' h => by
    have := chk_any r v e w' (four (he.below h)) (hr.below h) hl
    rw [hbad] at this
    exact this
  have hall := fun w' => all_any start r v w'
  simp only [Ru.val] at hall
  have HCK := Lib.hid hck
  have HALL := Lib.hid hall
  have HR := Lib.hid hr
  have HE := Lib.hid he
  have HG := Lib.hid hG
  have HRISE := Lib.hid hrise
  clear hr he hG hrise hbad hck hall
  gi_wp2_with fail
  obtain ⟨W5, hW5⟩ : ∃ W5, ((((w.alloc (.cells #[.string r.fq, .int .i64 r.ev, v, .int .i64 r.ct, .int .i64 r.un] 24)).alloc (.cells #[.int .i64 ka] 3)).alloc (.cells #[.int .i64 kb] 3)).alloc (.cells #[.slice none 0 0] 22)).alloc (.cells #[.nilIface] 29) = W5 := ⟨_, rfl⟩
  have hz5 : W5.heap.size = w.heap.size + 5 := by rw [← hW5]; simp
  have hB5 : Below w.heap.size w W5 := by
    rw [← hW5]
    exact (((((Below.refl _ w).alloc (Nat.le_refl _) _).alloc (by simp) _).alloc (by simp; omega) _).alloc (by simp; omega) _).alloc (by simp; omega) _
  have x5 : W5.heap[w.heap.size]? = some (.cells #[.string r.fq, .int .i64 r.ev, v, .int .i64 r.ct, .int .i64 r.un] 24) := by
    rw [← hW5]
    exact (Below.heap_alloc _ _ _ (by simp; omega)).trans ((Below.heap_alloc _ _ _ (by simp; omega)).trans ((Below.heap_alloc _ _ _ (by simp; omega)).trans ((Below.heap_alloc _ _ _ (by simp)).trans (heap_new w _))))
  have b6 : Boxed W5 (w.heap.size + 1) 3 (.int .i64 ka) := by
    have h := (((Boxed.new (w.alloc (.cells #[.string r.fq, .int .i64 r.ev, v, .int .i64 r.ct, .int .i64 r.un] 24)) 3 (.int .i64 ka)).alloc (.cells #[.int .i64 kb] 3)).alloc (.cells #[.slice none 0 0] 22)).alloc (.cells #[.nilIface] 29)
    rw [hW5] at h; simpa only [World.size_alloc] using h
  have b7 : Boxed W5 (w.heap.size + 1 + 1) 3 (.int .i64 kb) := by
    have h := ((Boxed.new ((w.alloc (.cells #[.string r.fq, .int .i64 r.ev, v, .int .i64 r.ct, .int .i64 r.un] 24)).alloc (.cells #[.int .i64 ka] 3)) 3 (.int .i64 kb)).alloc (.cells #[.slice none 0 0] 22)).alloc (.cells #[.nilIface] 29)
    rw [hW5] at h; simpa only [World.size_alloc] using h
  have b8 : Boxed W5 (w.heap.size + 1 + 1 + 1) 22 (.slice none 0 0) := by
    have h := (Boxed.new (((w.alloc (.cells #[.string r.fq, .int .i64 r.ev, v, .int .i64 r.ct, .int .i64 r.un] 24)).alloc (.cells #[.int .i64 ka] 3)).alloc (.cells #[.int .i64 kb] 3)) 22 (.slice none 0 0)).alloc (.cells #[.nilIface] 29)
    rw [hW5] at h; simpa only [World.size_alloc] using h
  have b9 : Boxed W5 (w.heap.size + 1 + 1 + 1 + 1) 29 .nilIface := by
    have h := Boxed.new ((((w.alloc (.cells #[.string r.fq, .int .i64 r.ev, v, .int .i64 r.ct, .int .i64 r.un] 24)).alloc (.cells #[.int .i64 ka] 3)).alloc (.cells #[.int .i64 kb] 3)).alloc (.cells #[.slice none 0 0] 22)) 29 .nilIface
    rw [hW5] at h; simpa only [World.size_alloc] using h
  rw [hW5]
  clear hW5
  refine ⟨trivial, (callsIn_wide.2 (HCK.out W5 hB5)).mono ?_⟩
  rintro e1 w1 ⟨rfl, hb1⟩
  have hs1 := hb1.size
  have hb1' : Below w1.heap.size w1 (w1.alloc (.cells #[.slice none 0 0] 22)) := (Below.refl _ w1).alloc (Nat.le_refl _) _
  obtain ⟨q0, q1, q2, q3, q4, _⟩ := cells5 (row_below (row_below x5 hb1) hb1')
  have HB1 := Lib.hid hb1
  clear hb1 hb1'
  gi_wp2_with (first
    | (refine ⟨trivial, ?_⟩; gi_at_call 54; refine (callsIn_wide.2 (right_yes _ _ hs)).mono ?_; rintro e' w2 ⟨rfl, rfl⟩)
    | (refine ⟨trivial, ?_⟩; gi_at_call 50; refine (callsIn_wide.2 (HALL.out _)).mono ?_; rintro e' w2 ⟨rfl, rfl⟩))
  have hBa : Below w.heap.size w (w1.alloc (.cells #[.slice none 0 0] 22)) := (hB5.trans (HB1.out.mono (by omega))).alloc (by omega) _
  have hBX := boxes_new start r v (w1.alloc (.cells #[.slice none 0 0] 22)) (HR.out.below hBa) 3 24
  have bO := ((Boxed.new w1 22 (.slice none 0 0)).alloc (.cells #[.int .i64 start] 3)).alloc (.cells #[.string r.fq, .int .i64 r.ev, v, .int .i64 r.ct, .int .i64 r.un] 24)
  obtain ⟨W0, hW0⟩ : ∃ W0, ((w1.alloc (.cells #[.slice none 0 0] 22)).alloc (.cells #[.int .i64 start] 3)).alloc (.cells #[.string r.fq, .int .i64 r.ev, v, .int .i64 r.ct, .int .i64 r.un] 24) = W0 := ⟨_, rfl⟩
  have hB0 : Below W5.heap.size W5 W0 := by rw [← hW0]; exact ((HB1.out.alloc hs1 _).alloc (by simp; omega) _).alloc (by simp; omega) _
  have hz : W0.heap.size = w1.heap.size + 3 := by rw [← hW0]; simp
  rw [World.size_alloc] at hBX
  rw [hW0] at hBX bO ⊢
  have hBw : Below w.heap.size w W0 := hB5.trans (hB0.mono (by omega))
  have b60 := b6.kept (Rng.grownBy_of_below hB0) (by simp)
  have b70 := b7.kept (Rng.grownBy_of_below hB0) (by simp)
  have b80 := b8.kept (Rng.grownBy_of_below hB0) (by simp)
  have b90 := b9.kept (Rng.grownBy_of_below hB0) (by simp)
  have cF := cell_later hBw HE.out.s6.1
  have hgl : 1 < w.heap.size := cell_lt HE.out.s1.1
  have hgf : 6 < w.heap.size := cell_lt HE.out.s6.1
  have hte : 22 ≠ 3 := by decide
  clear hW0 b6 b7 b8 b9 hBa q0 q1 q2 q3 q4
  refine Rng.range_law (n := Rng.dp + 1) (by decide) (gf := 74) (lb := la (w1.heap.size + 1 + 1) (w1.heap.size + 1)) rfl (enters_of Tryd.func74 (by kernel_rfl) rfl)
    (HG.out W0 _ _ hBw hBX) (Below.refl _ _) (fun _ => rfl) (fun b => b = w.heap.size + 1 + 1 + 1 ∨ b = w.heap.size + 1 + 1 + 1 + 1 ∨ b = w1.heap.size) (fun b hb => by omega) ?hR
    (fun hi pre W' => ((Boxed W' (w.heap.size + 1) 3 (.int .i64 ka) ∧ Boxed W' (w.heap.size + 1 + 1) 3 (.int .i64 kb) ∧ Boxed W' (w.heap.size + 1 + 1 + 1) 22 (.slice none 0 0) ∧ Boxed W' (w.heap.size + 1 + 1 + 1 + 1) 29 .nilIface) ∧ Holds w1.heap.size hi (spanOf pre ka kb) W' ∧ hi ≤ W'.heap.size) ∧ Rng.Stay (fun b => b = w.heap.size + 1 + 1 + 1 ∨ b = w.heap.size + 1 + 1 + 1 + 1 ∨ b = w1.heap.size) W0.heap.size W0 W' ∧ (∀ x ∈ pre, x ≤ kb) ∧ (spanOf pre ka kb).length ≤ 1000)
    (fun c hi pre W' => (c = .exit 0 ∧ ∃ p x, pre = p ++ [x] ∧ kb < x ∧ ((Boxed W' (w.heap.size + 1) 3 (.int .i64 ka) ∧ Boxed W' (w.heap.size + 1 + 1) 3 (.int .i64 kb) ∧ Boxed W' (w.heap.size + 1 + 1 + 1) 22 (.slice none 0 0) ∧ Boxed W' (w.heap.size + 1 + 1 + 1 + 1) 29 .nilIface) ∧ Holds w1.heap.size hi (spanOf p ka kb) W' ∧ hi ≤ W'.heap.size) ∧ Rng.Stay (fun b => b = w.heap.size + 1 + 1 + 1 ∨ b = w.heap.size + 1 + 1 + 1 + 1 ∨ b = w1.heap.size) W0.heap.size W0 W' ∧ (∀ x ∈ p, x ≤ kb) ∧ (spanOf p ka kb).length ≤ 1000) ∨
      (c = .ret ∧ ∃ p x, pre = p ++ [x] ∧ ka ≤ x ∧ x ≤ kb ∧ (spanOf p ka kb).length = 1000 ∧ (Boxed W' (w.heap.size + 1 + 1 + 1) 22 (.slice none 0 0) ∧ Boxed W' (w.heap.size + 1 + 1 + 1 + 1) 29 (ev (e 6))) ∧ Rng.Stay (fun b => b = w.heap.size + 1 + 1 + 1 ∨ b = w.heap.size + 1 + 1 + 1 + 1 ∨ b = w1.heap.size) W0.heap.size W0 W'))
    ?hI ?hIx ?h0 (fun x => { tmps := #[.int .i64 start, .agg #[.string r.fq, .int .i64 r.ev, v, .int .i64 r.ct, .int .i64 r.un], .int .i64 ka, .int .i64 kb, undef, .pointer (some ⟨w.heap.size, 0, none⟩), .pointer (some ⟨w.heap.size + 1, 0, none⟩), .pointer (some ⟨w.heap.size + 1 + 1, 0, none⟩), .pointer (some ⟨w.heap.size + 1 + 1 + 1, 0, none⟩), .pointer (some ⟨w.heap.size + 1 + 1 + 1 + 1, 0, none⟩), .nilIface, .pointer (some ⟨w1.heap.size, 0, none⟩), .int .i64 x, .agg #[.string r.fq, .int .i64 r.ev, v, .int .i64 r.ct, .int .i64 r.un], .nilIface, .nilIface, .bool false, undef, .int .i64 start, .bool true, .bool false, undef, .int .i64 start, .agg #[.string r.fq, .int .i64 r.ev, v, .int .i64 r.ct, .int .i64 r.un], .func (.func 74) #[] (la (w1.heap.size + 1 + 1) (w1.heap.size + 1)), .int .i64 x, undef, undef, undef, undef, undef, undef, undef, undef, undef, undef, undef, undef, undef, undef, undef], defers := [] }) ?assign ?body ?done ?stop
  case hR =>
    refine ⟨fun h => by omega, fun h => by omega, ?_, fun b h => by omega⟩
    intro b o m c hv hm h
    have := reads_lt HR.out hv hm
    omega
  case hI =>
    exact rng_and (rng_and (rng_and (rng_boxed (f := fun _ => .int .i64 ka) (by omega)) (rng_and (rng_boxed (f := fun _ => .int .i64 kb) (by omega)) (rng_and (rng_boxed (f := fun _ => .slice none 0 0) (by omega)) (rng_boxed (f := fun _ => .nilIface) (by omega))))) (rng_and (rng_span ka kb (by omega)) rng_size)) (rng_and (rng_stay _ _ _) (rng_const (fun pre => (∀ x ∈ pre, x ≤ kb) ∧ (spanOf pre ka kb).length ≤ 1000)))
  case hIx =>
    intro c hi s A B row hB hs hg hr
    rcases hs with ⟨hc, p, x, e1, hx, ⟨⟨c6, c7, c8, c9⟩, hh, hsz⟩, hst, h3, h4⟩ | ⟨hc, p, x, e1, hx1, hx2, hn, ⟨c8, c9⟩, hst⟩
    · refine .inl ⟨hc, p, x, e1, hx, ⟨⟨c6.kept hg ?_, c7.kept hg ?_, c8.kept hg ?_, c9.kept hg ?_⟩, holds_kept hh hg (fun r e => by have := (hr r e).1; omega) (fun r e => (hr r e).2), Nat.le_trans hsz hg.size⟩, rng_stay _ _ _ hi s A B row hB hst hg hr, h3, h4⟩ <;> (intro e; have := (hr _ e.symm).1; omega)
    · refine .inr ⟨hc, p, x, e1, hx1, hx2, hn, ⟨c8.kept hg ?_, c9.kept hg ?_⟩, rng_stay _ _ _ hi s A B row hB hst hg hr⟩ <;> (intro e; have := (hr _ e.symm).1; omega)
  case h0 =>
    intro W' hW'
    refine ⟨⟨⟨b60.kept (Rng.grownBy_of_below hW') (by simp), b70.kept (Rng.grownBy_of_below hW') (by simp), b80.kept (Rng.grownBy_of_below hW') (by simp), b90.kept (Rng.grownBy_of_below hW') (by simp)⟩, ⟨.slice none 0 0, bO.kept (Rng.grownBy_of_below hW') (by simp), by simp [spanOf, cellsOf], .inl ⟨rfl, rfl⟩⟩, Nat.le_refl _⟩, Rng.Stay.of_below hW', by simp, by simp [spanOf]⟩
  case assign =>
    intro l2 x W' K hK
    gi_wp2
    exact hK
  case body =>
    rintro hi l2 pre x W' hhi ⟨⟨⟨c6, c7, c8, c9⟩, hh, hsz⟩, hst, hle, hln⟩ hlen
    obtain ⟨a, c, hbx, hown, _⟩ := holds_reads hh
    have y1 := c6.cell
    have y2 := c7.cell
    have y3 := c8.cell
    have y4 := c9.cell
    have y5 := hbx.cell
    have f3 := c8.frozen
    have f4 := c9.frozen
    have f5 := hbx.frozen
    have HZ := Lib.hid hz
    have HST := Lib.hid hst
    have C6 := Lib.hid c6
    have C7 := Lib.hid c7
    have C8 := Lib.hid c8
    have C9 := Lib.hid c9
    have HH := Lib.hid hh
    have HB := Lib.hid hbx
    have HOWN := Lib.hid hown
    have HSZ := Lib.hid hsz
    have HLE := Lib.hid hle
    have HLN := Lib.hid hln
    have HHI := Lib.hid hhi
    have hcf := stay_cell hst cF (fun h => by dsimp only at h; omega) (cell_lt cF)
    have cl : ∀ {b : Nat} {t : TypeId} {u : Value} {A : World}, Boxed A b t u → ∀ o, A.heap[b]? = some o → o.isCells = true := fun hb o ho => by
      rw [show _ = _ from hb] at ho; cases ho; rfl
    have CL8 := Lib.hid (cl b80)
    have CL9 := Lib.hid (cl b90)
    clear hz hst c6 c7 c8 c9 hh hbx hown hsz hle hhi cl
    by_cases h1 : kb < x
    · gi_wp2
      exact ⟨rest_refl _ _, .inl ⟨rfl, pre, x, rfl, h1, ⟨⟨C6.out, C7.out, C8.out, C9.out⟩, HH.out, HSZ.out⟩, HST.out, HLE.out, HLN.out⟩⟩
    have hle2 : ∀ z ∈ pre ++ [x], z ≤ kb := fun z hz => by
      rcases List.mem_append.1 hz with hz | hz
      · exact HLE.out z hz
      · simp at hz; omega
    have HLE2 := Lib.hid hle2
    clear hle2
    by_cases h2 : x < ka
    · have hsn := span_snoc pre x ka kb
      rw [if_neg (by omega), List.append_nil] at hsn
      have HSN := Lib.hid hsn
      clear hsn
      gi_wp2
      exact ⟨Rng.Stay.refl _ _ _, ⟨⟨C6.out, C7.out, C8.out, C9.out⟩, by rw [HSN.out]; exact HH.out, HSZ.out⟩, HST.out, HLE2.out, by rw [HSN.out]; exact HLN.out⟩
    by_cases h3 : (spanOf pre ka kb).length = 1000
    · have H3 := Lib.hid h3
      gi_wp2
      gi_region_with (fail)
      all_goals gi_wp2
      all_goals (
        have hzz := HZ.out
        have hX : Rng.Stay (fun b => b = w.heap.size + 1 + 1 + 1 ∨ b = w.heap.size + 1 + 1 + 1 + 1 ∨ b = w1.heap.size) W0.heap.size W0 (W'.drewN 1) := HST.out.trans (Rng.Stay.of_below (below_draw (Below.refl _ _) 1))
        have d8 : Boxed (W'.drewN 1) (w.heap.size + 1 + 1 + 1) 22 (.slice none 0 0) := C8.out
        have d9 : Boxed (W'.drewN 1) (w.heap.size + 1 + 1 + 1 + 1) 29 .nilIface := C9.out
        have hR : Rng.Rest W0.heap.size W' (W'.drewN 1) := fun _ _ _ h _ => h
        first
          | exact ⟨rest_set (rest_set hR ⟨w.heap.size + 1 + 1 + 1, 0, none⟩ (by show w.heap.size + 1 + 1 + 1 < _; omega) _) ⟨w.heap.size + 1 + 1 + 1 + 1, 0, none⟩ (by show w.heap.size + 1 + 1 + 1 + 1 < _; omega) _, .inr ⟨rfl, pre, x, rfl, by omega, by omega, H3.out,
              ⟨(d8.set _).other (by omega) _, (d9.other (by omega) _).set _⟩, (hX.setCell (p := ⟨w.heap.size + 1 + 1 + 1, 0, none⟩) (.inl (.inl rfl)) CL8.out _).setCell (p := ⟨w.heap.size + 1 + 1 + 1 + 1, 0, none⟩) (.inl (.inr (.inl rfl))) CL9.out _⟩⟩
          | exact ⟨rest_set (rest_set hR ⟨w.heap.size + 1 + 1 + 1 + 1, 0, none⟩ (by show w.heap.size + 1 + 1 + 1 + 1 < _; omega) _) ⟨w.heap.size + 1 + 1 + 1, 0, none⟩ (by show w.heap.size + 1 + 1 + 1 < _; omega) _, .inr ⟨rfl, pre, x, rfl, by omega, by omega, H3.out,
              ⟨(d8.other (by omega) _).set _, (d9.set _).other (by omega) _⟩, (hX.setCell (p := ⟨w.heap.size + 1 + 1 + 1 + 1, 0, none⟩) (.inl (.inr (.inl rfl))) CL9.out _).setCell (p := ⟨w.heap.size + 1 + 1 + 1, 0, none⟩) (.inl (.inl rfl)) CL8.out _⟩⟩)
    · have hsn := span_snoc pre x ka kb
      rw [if_pos (by omega)] at hsn
      have HSN := Lib.hid hsn
      have h3' : (((spanOf pre ka kb).length : Int) == 1000) = false := by simp; omega
      have hln2 : (spanOf pre ka kb).length < 1000 := by omega
      obtain ⟨L, hL⟩ : ∃ L, spanOf pre ka kb = L := ⟨_, rfl⟩
      rw [hL] at h3 h3' hln2 y5 HOWN HB
      have HL := Lib.hid hL
      clear hsn hL h3 hln
      gi_wp2_with (gi_at_builtin
                   refine wpListIn_append_own _ rfl (.tmp 36) (.tmp 38) _ rfl hi 3 i0 _ 1 8 Tryd.underlying22 hi0 hz0 hz1 hz2 rfl (by omega) (.slice a L.length c) L.length (cellsOf L) rfl
                     (HOWN.out.alloc _) ⟨W'.heap.size, 0, none⟩ 1 1 [.int .i64 x] rfl rfl
                     (fun j u hu => by
                       cases j with
                       | zero => simp at hu; subst hu; exact (Boxed.new W' _ _).cell
                       | succ j => simp at hu) (fun u hu => by simp at hu; subst hu; rfl) (by simp only [maxLen]; omega) (by omega) (by have := HSZ.out; simp; omega) ?_
                   intro v1 wz hown' hg hnil
                   have hap := holds_append (O := (fun b => b = w.heap.size + 1 + 1 + 1 ∨ b = w.heap.size + 1 + 1 + 1 + 1 ∨ b = w1.heap.size)) HB.out HOWN.out (.inr (.inr rfl)) hown' hg
                   obtain ⟨a1, c1, e1⟩ : ∃ a1 c1, v1 = .slice a1 (L.length + 1) c1 := by
                     have h3 := reads_own (xs := L ++ [x]) (by rw [cellsOf_snoc, List.length_append]; exact hown')
                     obtain ⟨a1, c1, e⟩ := h3.shape
                     exact ⟨a1, c1, by rw [e, List.length_append]; rfl⟩
                   subst e1
                   have z1 := hap.1.cell
                   have z2 := hap.1.frozen
                   have HAP := Lib.hid hap
                   have hkp : ∀ (b : Nat) (t : TypeId) (u : Value), Boxed W' b t u → b < hi → Boxed wz b t u := fun b t u hb hlt => (hb.alloc _).kept hg (fun e => by have := ownBlock_ge HOWN.out e.symm; omega)
                   have HKP := Lib.hid hkp
                   clear hown' hg hnil hap hkp)
      have hs2 := HAP.out.2.2
      have hzz := HZ.out
      have hh2 := HHI.out
      refine ⟨hs2, ⟨⟨?_, ?_, ?_, ?_⟩, by rw [HSN.out, HL.out]; exact HAP.out.2.1, Nat.le_trans HSZ.out hs2.size⟩, HST.out.trans (hs2.mono (fun _ _ h => h) (by have := HHI.out; omega)), HLE2.out, by rw [HSN.out, HL.out, List.length_append]; simp; omega⟩
      · exact (HKP.out _ _ _ C6.out (by omega)).other (by omega) _
      · exact (HKP.out _ _ _ C7.out (by omega)).other (by omega) _
      · exact (HKP.out _ _ _ C8.out (by omega)).other (by omega) _
      · exact (HKP.out _ _ _ C9.out (by omega)).other (by omega) _
  case done =>
    rintro D hi xs W' hD hDh rfl ⟨⟨⟨c6, c7, c8, c9⟩, hh, hsz⟩, hst, hle, hln⟩ hK
    obtain ⟨a, c, hbx, hown, _⟩ := holds_reads hh
    have y3 := c8.cell
    have y4 := c9.cell
    have y5 := hbx.cell
    have f3 := c8.frozen
    have f4 := c9.frozen
    have HST := Lib.hid hst
    have HK := Lib.hid hK
    have C8 := Lib.hid c8
    have C9 := Lib.hid c9
    have HOWN := Lib.hid hown
    have HHZ := Lib.hid hz
    have HLN := Lib.hid hln
    clear hst hK c8 c9 hown hbx hh hz c6 c7 hln
    gi_wp2
    have g1 : Boxed ((W'.setCell ⟨w.heap.size + 1 + 1 + 1, 0, none⟩ (.slice a (spanOf xs ka kb).length c)).setCell ⟨w.heap.size + 1 + 1 + 1 + 1, 0, none⟩ .nilIface) (w.heap.size + 1 + 1 + 1) 22 (.slice a (spanOf xs ka kb).length c) := (C8.out.set _).other (by omega) _
    have g2 : Boxed ((W'.setCell ⟨w.heap.size + 1 + 1 + 1, 0, none⟩ (.slice a (spanOf xs ka kb).length c)).setCell ⟨w.heap.size + 1 + 1 + 1 + 1, 0, none⟩ .nilIface) (w.heap.size + 1 + 1 + 1 + 1) 29 .nilIface := (C9.out.other (by omega) _).set _
    have hz := HHZ.out
    have hK : ((W'.setCell ⟨w.heap.size + 1 + 1 + 1, 0, none⟩ (.slice a (spanOf xs ka kb).length c)).setCell ⟨w.heap.size + 1 + 1 + 1 + 1, 0, none⟩ .nilIface).heap[D]? = some (.deferred (some [])) := by
      rw [Below.heap_setCell _ _ _ _ (by show D ≠ w.heap.size + 1 + 1 + 1 + 1; omega), Below.heap_setCell _ _ _ _ (by show D ≠ w.heap.size + 1 + 1 + 1; omega)]; exact HK.out
    have ho2 := own_far (u := .nilIface) (p := ⟨w.heap.size + 1 + 1 + 1 + 1, 0, none⟩) (own_far (u := .slice a (spanOf xs ka kb).length c) (p := ⟨w.heap.size + 1 + 1 + 1, 0, none⟩) HOWN.out (by show w.heap.size + 1 + 1 + 1 < hi; omega)) (by show w.heap.size + 1 + 1 + 1 + 1 < hi; omega)
    have cl : ∀ {b : Nat} {t : TypeId} {u : Value} {A : World}, Boxed A b t u → ∀ o, A.heap[b]? = some o → o.isCells = true := fun hb o ho => by
      rw [show _ = _ from hb] at ho; cases ho; rfl
    have hst2 := (HST.out.setCell (p := ⟨w.heap.size + 1 + 1 + 1, 0, none⟩) (.inl (.inl rfl)) (cl b80) (.slice a (spanOf xs ka kb).length c)).setCell (p := ⟨w.heap.size + 1 + 1 + 1 + 1, 0, none⟩) (.inl (.inr (.inl rfl))) (cl b90) .nilIface
    refine ⟨by simp, .inl ⟨_, _, rfl, run_takeDeferred hK, ?_⟩⟩
    have r1 := (g1.kept (grownBy_putObj' _ D (.deferred none)) (by simp; omega)).cell
    have r2 := (g2.kept (grownBy_putObj' _ D (.deferred none)) (by simp; omega)).cell
    have hb := (stay_below hst2 (B := w.heap.size) (fun b h => by omega) (by omega) (by omega))
    refine ⟨.tuple #[.slice a (spanOf xs ka kb).length c, .nilIface], ?_, _, _, rfl, .inr ⟨?_, rfl, ?_⟩, ?_⟩
    · simp [results, Tryd.f31, go_sem, r1, r2]
    · exact HLN.out
    · exact reads_own (ownsRow_putObj ho2 _ hK rfl)
    · exact (hBw.trans hb).trans (belowK_b (w := w) (Nat.le_refl _) _ D _ _ (by omega) hK rfl rfl)
  case stop =>
    rintro D hi c pre W' hD hDh hpre (⟨rfl, p, x, rfl, hx, ⟨⟨c6, c7, c8, c9⟩, hh, hsz⟩, hst, hle, hln⟩ | ⟨rfl, p, x, rfl, hx1, hx2, hn, ⟨c8, c9⟩, hst⟩) hK
    · have hsp := span_stop (a := ka) HRISE.out hpre hx
      obtain ⟨a, c, hbx, hown, _⟩ := holds_reads hh
      have y3 := c8.cell
      have y4 := c9.cell
      have y5 := hbx.cell
      have f3 := c8.frozen
      have f4 := c9.frozen
      have HST := Lib.hid hst
      have HK := Lib.hid hK
      have C8 := Lib.hid c8
      have C9 := Lib.hid c9
      have HOWN := Lib.hid hown
      have HHZ := Lib.hid hz
      have HLN := Lib.hid hln
      clear hst hK c8 c9 hown hbx hh hz c6 c7 hln
      gi_wp2
      have g1 : Boxed ((W'.setCell ⟨w.heap.size + 1 + 1 + 1, 0, none⟩ (.slice a (spanOf p ka kb).length c)).setCell ⟨w.heap.size + 1 + 1 + 1 + 1, 0, none⟩ .nilIface) (w.heap.size + 1 + 1 + 1) 22 (.slice a (spanOf p ka kb).length c) := (C8.out.set _).other (by omega) _
      have g2 : Boxed ((W'.setCell ⟨w.heap.size + 1 + 1 + 1, 0, none⟩ (.slice a (spanOf p ka kb).length c)).setCell ⟨w.heap.size + 1 + 1 + 1 + 1, 0, none⟩ .nilIface) (w.heap.size + 1 + 1 + 1 + 1) 29 .nilIface := (C9.out.other (by omega) _).set _
      have hz := HHZ.out
      have hK : ((W'.setCell ⟨w.heap.size + 1 + 1 + 1, 0, none⟩ (.slice a (spanOf p ka kb).length c)).setCell ⟨w.heap.size + 1 + 1 + 1 + 1, 0, none⟩ .nilIface).heap[D]? = some (.deferred (some [])) := by
        rw [Below.heap_setCell _ _ _ _ (by show D ≠ w.heap.size + 1 + 1 + 1 + 1; omega), Below.heap_setCell _ _ _ _ (by show D ≠ w.heap.size + 1 + 1 + 1; omega)]; exact HK.out
      have ho2 := own_far (u := .nilIface) (p := ⟨w.heap.size + 1 + 1 + 1 + 1, 0, none⟩) (own_far (u := .slice a (spanOf p ka kb).length c) (p := ⟨w.heap.size + 1 + 1 + 1, 0, none⟩) HOWN.out (by show w.heap.size + 1 + 1 + 1 < hi; omega)) (by show w.heap.size + 1 + 1 + 1 + 1 < hi; omega)
      have cl : ∀ {b : Nat} {t : TypeId} {u : Value} {A : World}, Boxed A b t u → ∀ o, A.heap[b]? = some o → o.isCells = true := fun hb o ho => by
        rw [show _ = _ from hb] at ho; cases ho; rfl
      have hst2 := (HST.out.setCell (p := ⟨w.heap.size + 1 + 1 + 1, 0, none⟩) (.inl (.inl rfl)) (cl b80) (.slice a (spanOf p ka kb).length c)).setCell (p := ⟨w.heap.size + 1 + 1 + 1 + 1, 0, none⟩) (.inl (.inr (.inl rfl))) (cl b90) .nilIface
      refine ⟨by simp, .inl ⟨_, _, rfl, run_takeDeferred hK, ?_⟩⟩
      have r1 := (g1.kept (grownBy_putObj' _ D (.deferred none)) (by simp; omega)).cell
      have r2 := (g2.kept (grownBy_putObj' _ D (.deferred none)) (by simp; omega)).cell
      have hb := (stay_below hst2 (B := w.heap.size) (fun b h => by omega) (by omega) (by omega))
      refine ⟨.tuple #[.slice a (spanOf p ka kb).length c, .nilIface], ?_, _, _, rfl, .inr ⟨?_, rfl, ?_⟩, ?_⟩
      · simp [results, Tryd.f31, go_sem, r1, r2]
      · rw [hsp]; exact HLN.out
      · rw [hsp]; exact reads_own (ownsRow_putObj ho2 _ hK rfl)
      · exact (hBw.trans hb).trans (belowK_b (w := w) (Nat.le_refl _) _ D _ _ (by omega) hK rfl rfl)
    · gi_wp2
      refine ⟨by simp, .inl ⟨_, _, rfl, run_takeDeferred hK, ?_⟩⟩
      have r1 := (c8.kept (grownBy_putObj' W' D (.deferred none)) (by simp; omega)).cell
      have r2 := (c9.kept (grownBy_putObj' W' D (.deferred none)) (by simp; omega)).cell
      have hm := span_many (a := ka) (b := kb) hpre ⟨hx1, hx2⟩
      have hb := (stay_below hst (B := w.heap.size) (fun b h => by omega) (by omega) (by omega))
      refine ⟨.tuple #[.slice none 0 0, ev (e 6)], ?_, _, _, rfl, .inl ⟨by omega, rfl, rfl⟩, ?_⟩
      · simp [results, Tryd.f31, go_sem, r1, r2]
      · exact (hBw.trans hb).trans (belowK_b (w := w) (Nat.le_refl _) W' D _ _ (by omega) hK rfl rfl)
end Cand
end Go.Proofs.YtkgmojaecaghmaaDoor
