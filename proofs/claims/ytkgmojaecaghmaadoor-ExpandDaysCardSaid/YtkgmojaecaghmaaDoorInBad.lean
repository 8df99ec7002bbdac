/- In, and the iterator of all days, where the rule or the start is not well. -/
import Derived.Test.YtkgmojaecaghmaaDoorIn
import Derived.Deep.QuietTactic
import Derived.BigQuiet
namespace Go.Proofs.YtkgmojaecaghmaaDoor
open Go Go.RowKit Go.Shelf Lmd
attribute [local go_sem] Oper.semAt_some
namespace Cand
open Rul Day Er

set_option maxRecDepth 100000 in
set_option maxHeartbeats 4000000 in
theorem none_seq (base br bs : Nat) (start : Int) (r : Ru) (v : Value) (e : Nat → Addr) (w : World) (hB : Boxes w br bs start r v) (he : E4 w e) (hb : ¬ (0 ≤ start ∧ start ≤ 73048) ∨ bad r ≠ 0) (hl : r.ds.length < 1000) :
    Rng.Seq Tryd.prog 74 (la br bs) (fun x : Int => #[.int .i64 x]) (Apart base br bs v) (fun xs => xs = []) (fun pre => pre <+: []) 100000 w := by
  intro O l J Jx W hW hO hOb hlt hJ hJx hY h0
  refine (callsIn_wide (n := Rng.dp + 1)).1 ?_
  refine callsIn_of_wp Tryd.func74 rfl trivial ?_ rfl
  simp only [Tryd.ntmps74, la, List.size_toArray, List.length_cons, List.length_nil, Nat.reduceAdd, Nat.reduceSub, Array.replicate_succ, Array.replicate_zero, List.push_toArray, List.append_toArray, List.nil_append, List.cons_append]
  have k0 := cell_later hW hB.r0
  have k1 := cell_later hW hB.r1
  have k2 := cell_later hW hB.r2
  have k3 := cell_later hW hB.r3
  have k4 := cell_later hW hB.r4
  have ks := cell_later hW hB.s
  have hR := hB.rd.below hW
  have hE := he.below hW
  have hbr := cell_lt k1
  have hbs := cell_lt ks
  have hchk : ∀ w', Below W.heap.size W w' → Calls Tryd.prog 15 #[.agg #[.string r.fq, .int .i64 r.ev, v, .int .i64 r.ct, .int .i64 r.un]] w' fun e' w1 => e' = .returned (errV e (bad r)) ∧ Below w'.heap.size w' w1 := fun w' h => chk_any r v e w' (hE.below h) (hR.below h) hl
  have HCHK := Lib.hid hchk
  have HH := Lib.hid h0
  clear hB he hchk hY h0 hO hOb hR hE hJ hJx hW
  by_cases hs : 0 ≤ start ∧ start ≤ 73048
  · have hbad : bad r ≠ 0 := by rcases hb with h | h; exact absurd hs h; exact h
    obtain ⟨q, hq⟩ : ∃ q, bad r = q + 1 := ⟨bad r - 1, by omega⟩
    have hc := HCHK.out _ ((Below.refl _ W).alloc (Nat.le_refl _) (.cells #[.func (.yield l) #[] #[]] 55))
    rw [hq] at hc
    simp only [errV, ev] at hc
    have HC := Lib.hid hc
    clear hc HCHK hb hbad hq
    gi_wp2_with (first
      | (refine ⟨trivial, ?_⟩; gi_at_call 54; refine (callsIn_wide.2 (right_yes _ _ hs)).mono ?_; rintro e' w1 ⟨rfl, rfl⟩)
      | (refine ⟨trivial, ?_⟩; gi_at_call 15; refine (callsIn_wide.2 HC.out).mono ?_; rintro e' w1 ⟨rfl, hb1⟩))
    refine bodyPost_ret (results_none rfl _ _ _) rfl ?_
    have hbw : Below W.heap.size W w1 := ((Below.refl _ W).alloc (Nat.le_refl _) _).trans (hb1.mono (by simp))
    exact ⟨⟨_, rfl⟩, w1.heap.size, hbw.size, .inl ⟨[], rfl, HH.out w1 hbw⟩⟩
  · clear HCHK hb
    gi_wp2_with (refine ⟨trivial, ?_⟩; gi_at_call 54; refine (callsIn_wide.2 (right_no _ _ hs)).mono ?_; rintro e' w1 ⟨rfl, rfl⟩)
    refine ⟨trivial, ?_⟩
    gi_wp2
    refine bodyPost_ret (results_none rfl _ _ _) rfl ?_
    have hbw : Below W.heap.size W (W.alloc (.cells #[.func (.yield l) #[] #[]] 55)) := (Below.refl _ W).alloc (Nat.le_refl _) _
    exact ⟨⟨_, rfl⟩, _, hbw.size, .inl ⟨[], rfl, HH.out _ hbw⟩⟩
theorem gives_none (start : Int) (r : Ru) (v : Value) (e : Nat → Addr) (w : World) (he : E4 w e) (hb : ¬ (0 ≤ start ∧ start ≤ 73048) ∨ bad r ≠ 0) (hl : r.ds.length < 1000) : Gives start r v [] w :=
  fun W0 br bs hW hB => none_seq (1 + 1) br bs start r v e W0 hB (he.below hW) hb hl

set_option maxRecDepth 100000 in
set_option maxHeartbeats 4000000 in
theorem in_bad (start : Int) (r : Ru) (v : Value) (ka kb : Int) (e : Nat → Addr) (w : World) (hb : bad r ≠ 0) (he : E4 w e) (hr : Ints.Reads w v r.ds) (hl : r.ds.length < 1000) :
    Calls Tryd.prog 31 #[.int .i64 start, .agg #[.string r.fq, .int .i64 r.ev, v, .int .i64 r.ct, .int .i64 r.un], .int .i64 ka, .int .i64 kb] w fun e' w' =>
      e' = .returned (.tuple #[.slice none 0 0, errV e (bad r)]) ∧ Below w.heap.size w w' := by
  obtain ⟨q, hq⟩ : ∃ q, bad r = q + 1 := ⟨bad r - 1, by omega⟩
  have hck : ∀ w', Below w.heap.size w w' → Calls Tryd.prog 15 #[.agg #[.string r.fq, .int .i64 r.ev, v, .int .i64 r.ct, .int .i64 r.un]] w' fun e' w1 => e' = .returned (ev (e q)) ∧ Below w'.heap.size w' w1 := fun w' h => by
    have := chk_any r v e w' (he.below h) (hr.below h) hl
    rw [hq] at this
    exact this
  rw [hq]
  simp only [errV, ev] at hck ⊢
  have HCK := Lib.hid hck
  clear hck hq hb he hr
  go_enter Tryd.func31, Tryd.ntmps31
  go_wp2_with fail
  obtain ⟨W5, hW5⟩ : ∃ W5, ((((w.alloc (.cells #[.string r.fq, .int .i64 r.ev, v, .int .i64 r.ct, .int .i64 r.un] 24)).alloc (.cells #[.int .i64 ka] 3)).alloc (.cells #[.int .i64 kb] 3)).alloc (.cells #[.slice none 0 0] 22)).alloc (.cells #[.nilIface] 29) = W5 := ⟨_, rfl⟩
  have hz5 : W5.heap.size = w.heap.size + 5 := by rw [← hW5]; simp
  have hB5 : Below w.heap.size w W5 := by
    rw [← hW5]
    exact (((((Below.refl _ w).alloc (Nat.le_refl _) _).alloc (by simp) _).alloc (by simp; omega) _).alloc (by simp; omega) _).alloc (by simp; omega) _
  have x5 : W5.heap[w.heap.size]? = some (.cells #[.string r.fq, .int .i64 r.ev, v, .int .i64 r.ct, .int .i64 r.un] 24) := by
    rw [← hW5]
    exact (Below.heap_alloc _ _ _ (by simp; omega)).trans ((Below.heap_alloc _ _ _ (by simp; omega)).trans ((Below.heap_alloc _ _ _ (by simp; omega)).trans ((Below.heap_alloc _ _ _ (by simp)).trans (heap_new w _))))
  have b6 : Boxed W5 (w.heap.size + 1) 3 (.int .i64 ka) := by
    have h := (((Boxed.new (w.alloc (.cells #[.string r.fq, .int .i64 r.ev, v, .int .i64 r.ct, .int .i64 r.un] 24)) 3 (.int .i64 ka)).alloc (.cells #[.int .i64 kb] 3)).alloc (.cells #[.slice none 0 0] 22)).alloc (.cells #[.nilIface] 29)
    rw [hW5] at h; simpa only [World.size_alloc] using h
  have b7 : Boxed W5 (w.heap.size + 1 + 1) 3 (.int .i64 kb) := by
    have h := ((Boxed.new ((w.alloc (.cells #[.string r.fq, .int .i64 r.ev, v, .int .i64 r.ct, .int .i64 r.un] 24)).alloc (.cells #[.int .i64 ka] 3)) 3 (.int .i64 kb)).alloc (.cells #[.slice none 0 0] 22)).alloc (.cells #[.nilIface] 29)
    rw [hW5] at h; simpa only [World.size_alloc] using h
  have b8 : Boxed W5 (w.heap.size + 1 + 1 + 1) 22 (.slice none 0 0) := by
    have h := (Boxed.new (((w.alloc (.cells #[.string r.fq, .int .i64 r.ev, v, .int .i64 r.ct, .int .i64 r.un] 24)).alloc (.cells #[.int .i64 ka] 3)).alloc (.cells #[.int .i64 kb] 3)) 22 (.slice none 0 0)).alloc (.cells #[.nilIface] 29)
    rw [hW5] at h; simpa only [World.size_alloc] using h
  have b9 : Boxed W5 (w.heap.size + 1 + 1 + 1 + 1) 29 .nilIface := by
    have h := Boxed.new ((((w.alloc (.cells #[.string r.fq, .int .i64 r.ev, v, .int .i64 r.ct, .int .i64 r.un] 24)).alloc (.cells #[.int .i64 ka] 3)).alloc (.cells #[.int .i64 kb] 3)).alloc (.cells #[.slice none 0 0] 22)) 29 .nilIface
    rw [hW5] at h; simpa only [World.size_alloc] using h
  rw [hW5]
  clear hW5
  refine (HCK.out W5 hB5).mono ?_
  rintro e1 w1 ⟨rfl, hb1⟩
  have c8 := b8.kept (Rng.grownBy_of_below hb1) (by simp)
  have c9 := b9.kept (Rng.grownBy_of_below hb1) (by simp)
  have hbw : Below w.heap.size w w1 := hB5.trans (hb1.mono (by omega))
  have y3 := c8.cell
  have y4 := c9.cell
  have f3 := c8.frozen
  have f4 := c9.frozen
  have HBW := Lib.hid hbw
  have C8 := Lib.hid c8
  have C9 := Lib.hid c9
  clear c8 c9 hbw hb1 b6 b7 b8 b9 x5 hB5
  go_wp2
  have r1 := ((C8.out.set (.slice none 0 0)).other (B' := w.heap.size + 1 + 1 + 1 + 1) (by omega) (.iface 80 (.pointer (some (e q))))).cell
  have r2 := ((C9.out.other (B' := w.heap.size + 1 + 1 + 1) (by omega) (.slice none 0 0)).set (.iface 80 (.pointer (some (e q))))).cell
  refine bodyPost_ret (v := .tuple #[.slice none 0 0, .iface 80 (.pointer (some (e q)))]) (by simp [results, Tryd.f31, go_sem, r1, r2]) rfl ?_
  exact ⟨rfl, (HBW.out.setCell (p := ⟨w.heap.size + 1 + 1 + 1, 0, none⟩) (by show w.heap.size ≤ w.heap.size + 1 + 1 + 1; omega) _).setCell (p := ⟨w.heap.size + 1 + 1 + 1 + 1, 0, none⟩) (by show w.heap.size ≤ w.heap.size + 1 + 1 + 1 + 1; omega) _⟩

set_option maxRecDepth 100000 in
set_option maxHeartbeats 4000000 in
theorem in_off (start : Int) (r : Ru) (v : Value) (ka kb : Int) (e : Nat → Addr) (w : World) (hbad : bad r = 0) (hs : ¬ (0 ≤ start ∧ start ≤ 73048)) (he : E4 w e) (hr : Ints.Reads w v r.ds) (hl : r.ds.length < 1000) :
    Calls Tryd.prog 31 #[.int .i64 start, .agg #[.string r.fq, .int .i64 r.ev, v, .int .i64 r.ct, .int .i64 r.un], .int .i64 ka, .int .i64 kb] w fun e' w' =>
      e' = .returned (.tuple #[.slice none 0 0, ev (e 1)]) ∧ Below w.heap.size w w' := by
  have hck : ∀ w', Below w.heap.size w w' → Calls Tryd.prog 15 #[.agg #[.string r.fq, .int .i64 r.ev, v, .int .i64 r.ct, .int .i64 r.un]] w' fun e' w1 => e' = .returned .nilIface ∧ Below w'.heap.size w' w1 := fun w' h => by
    have := chk_any r v e w' (he.below h) (hr.below h) hl
    rw [hbad] at this
    exact this
  simp only [ev]
  have HCK := Lib.hid hck
  have HE := Lib.hid he
  clear hck hbad he hr
  go_enter Tryd.func31, Tryd.ntmps31
  go_wp2_with fail
  obtain ⟨W5, hW5⟩ : ∃ W5, ((((w.alloc (.cells #[.string r.fq, .int .i64 r.ev, v, .int .i64 r.ct, .int .i64 r.un] 24)).alloc (.cells #[.int .i64 ka] 3)).alloc (.cells #[.int .i64 kb] 3)).alloc (.cells #[.slice none 0 0] 22)).alloc (.cells #[.nilIface] 29) = W5 := ⟨_, rfl⟩
  have hz5 : W5.heap.size = w.heap.size + 5 := by rw [← hW5]; simp
  have hB5 : Below w.heap.size w W5 := by
    rw [← hW5]
    exact (((((Below.refl _ w).alloc (Nat.le_refl _) _).alloc (by simp) _).alloc (by simp; omega) _).alloc (by simp; omega) _).alloc (by simp; omega) _
  have x5 : W5.heap[w.heap.size]? = some (.cells #[.string r.fq, .int .i64 r.ev, v, .int .i64 r.ct, .int .i64 r.un] 24) := by
    rw [← hW5]
    exact (Below.heap_alloc _ _ _ (by simp; omega)).trans ((Below.heap_alloc _ _ _ (by simp; omega)).trans ((Below.heap_alloc _ _ _ (by simp; omega)).trans ((Below.heap_alloc _ _ _ (by simp)).trans (heap_new w _))))
  have b6 : Boxed W5 (w.heap.size + 1) 3 (.int .i64 ka) := by
    have h := (((Boxed.new (w.alloc (.cells #[.string r.fq, .int .i64 r.ev, v, .int .i64 r.ct, .int .i64 r.un] 24)) 3 (.int .i64 ka)).alloc (.cells #[.int .i64 kb] 3)).alloc (.cells #[.slice none 0 0] 22)).alloc (.cells #[.nilIface] 29)
    rw [hW5] at h; simpa only [World.size_alloc] using h
  have b7 : Boxed W5 (w.heap.size + 1 + 1) 3 (.int .i64 kb) := by
    have h := ((Boxed.new ((w.alloc (.cells #[.string r.fq, .int .i64 r.ev, v, .int .i64 r.ct, .int .i64 r.un] 24)).alloc (.cells #[.int .i64 ka] 3)) 3 (.int .i64 kb)).alloc (.cells #[.slice none 0 0] 22)).alloc (.cells #[.nilIface] 29)
    rw [hW5] at h; simpa only [World.size_alloc] using h
  have b8 : Boxed W5 (w.heap.size + 1 + 1 + 1) 22 (.slice none 0 0) := by
    have h := (Boxed.new (((w.alloc (.cells #[.string r.fq, .int .i64 r.ev, v, .int .i64 r.ct, .int .i64 r.un] 24)).alloc (.cells #[.int .i64 ka] 3)).alloc (.cells #[.int .i64 kb] 3)) 22 (.slice none 0 0)).alloc (.cells #[.nilIface] 29)
    rw [hW5] at h; simpa only [World.size_alloc] using h
  have b9 : Boxed W5 (w.heap.size + 1 + 1 + 1 + 1) 29 .nilIface := by
    have h := Boxed.new ((((w.alloc (.cells #[.string r.fq, .int .i64 r.ev, v, .int .i64 r.ct, .int .i64 r.un] 24)).alloc (.cells #[.int .i64 ka] 3)).alloc (.cells #[.int .i64 kb] 3)).alloc (.cells #[.slice none 0 0] 22)) 29 .nilIface
    rw [hW5] at h; simpa only [World.size_alloc] using h
  rw [hW5]
  clear hW5
  refine (HCK.out W5 hB5).mono ?_
  rintro e1 w1 ⟨rfl, hb1⟩
  have c8 := b8.kept (Rng.grownBy_of_below hb1) (by simp)
  have c9 := b9.kept (Rng.grownBy_of_below hb1) (by simp)
  have hbw : Below w.heap.size w w1 := hB5.trans (hb1.mono (by omega))
  have y3 := c8.cell
  have y4 := c9.cell
  have f3 := c8.frozen
  have f4 := c9.frozen
  have yb := cell_later hbw HE.out.s1.1
  have HBW := Lib.hid hbw
  have C8 := Lib.hid c8
  have C9 := Lib.hid c9
  have hgl : 1 < w.heap.size := cell_lt HE.out.s1.1
  clear c8 c9 hbw hb1 b6 b7 b8 b9 x5 hB5
  go_wp2_with (go_at_call 54; refine (right_no _ _ hs).mono ?_; rintro e' w2 ⟨rfl, rfl⟩)
  go_region_with (fail)
  all_goals go_wp2_with fail
  all_goals (
    have r1 : ((w1.setCell ⟨w.heap.size + 1 + 1 + 1, 0, none⟩ (.slice none 0 0)).setCell ⟨w.heap.size + 1 + 1 + 1 + 1, 0, none⟩ (.iface 80 (.pointer (some (e 1))))).drew.cell? ⟨w.heap.size + 1 + 1 + 1, 0, none⟩ = some (.slice none 0 0) := ((C8.out.set (.slice none 0 0)).other (B' := w.heap.size + 1 + 1 + 1 + 1) (by omega) (.iface 80 (.pointer (some (e 1))))).cell
    have r2 : ((w1.setCell ⟨w.heap.size + 1 + 1 + 1, 0, none⟩ (.slice none 0 0)).setCell ⟨w.heap.size + 1 + 1 + 1 + 1, 0, none⟩ (.iface 80 (.pointer (some (e 1))))).drew.cell? ⟨w.heap.size + 1 + 1 + 1 + 1, 0, none⟩ = some (.iface 80 (.pointer (some (e 1)))) := ((C9.out.other (B' := w.heap.size + 1 + 1 + 1) (by omega) (.slice none 0 0)).set (.iface 80 (.pointer (some (e 1))))).cell
    refine bodyPost_ret (v := .tuple #[.slice none 0 0, .iface 80 (.pointer (some (e 1)))]) (by simp only [results, Tryd.f31]; simp [go_sem, r1, r2]) rfl ?_
    exact ⟨rfl, below_draw ((HBW.out.setCell (p := ⟨w.heap.size + 1 + 1 + 1, 0, none⟩) (by show w.heap.size ≤ w.heap.size + 1 + 1 + 1; omega) _).setCell (p := ⟨w.heap.size + 1 + 1 + 1 + 1, 0, none⟩) (by show w.heap.size ≤ w.heap.size + 1 + 1 + 1 + 1; omega) _) 1⟩)
end Cand
end Go.Proofs.YtkgmojaecaghmaaDoor
