/- Is, over what the iterator of all days gives. -/
import Derived.Test.YtkhkhbeolhhomaaGreatDoorGives
namespace Go.Proofs.YtkhkhbeolhhomaaGreatDoor
open Go Go.RowKit Go.Shelf Lmd
attribute [local go_sem] Oper.semAt_some
namespace Cand
open Rul Day Er

theorem isB_hit {l p : List Int} {x d : Int} (h : p ++ [x] <+: l) (hp : ∀ y ∈ p, y < d) (hx : d ≤ x) : isB l d = decide (x = d) := by
  obtain ⟨t, rfl⟩ := h
  unfold isB
  have h1 : List.find? (fun x => decide (d ≤ x)) (p ++ [x] ++ t) = some x := by
    rw [List.append_assoc, List.find?_append, List.find?_eq_none.2 (fun y hy => by have := hp y hy; simp; omega)]
    simp [hx]
  rw [h1]
theorem isB_miss {l : List Int} {d : Int} (hp : ∀ y ∈ l, y < d) : isB l d = false := by
  unfold isB
  rw [List.find?_eq_none.2 (fun y hy => by have := hp y hy; simp; omega)]

set_option maxRecDepth 100000 in
set_option maxHeartbeats 4000000 in
theorem is_any (start : Int) (r : Ru) (v : Value) (dd : Int) (l : List Int) (e : Nat → Addr) (w : World) (hG : Gives start r v l w) (he : E4 w e) (hr : Ints.Reads w v r.ds) :
    Calls Tryz.prog 91 #[.int .i64 start, r.val v, .int .i64 dd] w fun e' w' => e' = .returned (.bool (isB l dd)) ∧ Below w.heap.size w w' := by
  refine (callsIn_wide (n := Rng.dp + 1)).1 ?_
  refine callsIn_of_wp_marks Tryz.func91 rfl trivial ?_ rfl
  simp only [Tryz.ntmps91, Ru.val, List.size_toArray, List.length_cons, List.length_nil, Nat.reduceAdd, Nat.reduceSub, Array.replicate_succ, Array.replicate_zero, List.push_toArray, List.append_toArray, List.nil_append, List.cons_append]
  have HR := Lib.hid hr
  have HE := Lib.hid he
  have HG := Lib.hid hG
  clear hr he hG
  gi_wp2_with (refine ⟨trivial, ?_⟩; gi_at_call 89; refine (callsIn_wide.2 (all_any start r v _)).mono ?_; rintro e' w2 ⟨rfl, rfl⟩)
  obtain ⟨Wa, hWa⟩ : ∃ Wa, ((w.alloc (.cells #[.string r.fq, .int .i64 r.ev, v, .int .i64 r.ct, .int .i64 r.un] 35)).alloc (.cells #[.int .i64 dd] 3)).alloc (.cells #[.bool false] 4) = Wa := ⟨_, rfl⟩
  have hza : Wa.heap.size = w.heap.size + 1 + 1 + 1 := by rw [← hWa]; simp
  have hBa : Below w.heap.size w Wa := by
    rw [← hWa]
    exact (((Below.refl _ w).alloc (Nat.le_refl _) _).alloc (by simp) _).alloc (by simp; omega) _
  have bN : Boxed Wa (w.heap.size + 1) 3 (.int .i64 dd) := by
    have h := (Boxed.new (w.alloc (.cells #[.string r.fq, .int .i64 r.ev, v, .int .i64 r.ct, .int .i64 r.un] 35)) 3 (.int .i64 dd)).alloc (.cells #[.bool false] 4)
    rw [hWa] at h; simpa only [World.size_alloc] using h
  have b6 : Boxed Wa (w.heap.size + 1 + 1) 4 (.bool false) := by
    have h := Boxed.new ((w.alloc (.cells #[.string r.fq, .int .i64 r.ev, v, .int .i64 r.ct, .int .i64 r.un] 35)).alloc (.cells #[.int .i64 dd] 3)) 4 (.bool false)
    rw [hWa] at h; simpa only [World.size_alloc] using h
  rw [hWa]
  clear hWa
  have hBX := boxes_new start r v Wa (HR.out.below hBa) 3 35
  obtain ⟨W0, hW0⟩ : ∃ W0, (Wa.alloc (.cells #[.int .i64 start] 3)).alloc (.cells #[.string r.fq, .int .i64 r.ev, v, .int .i64 r.ct, .int .i64 r.un] 35) = W0 := ⟨_, rfl⟩
  rw [hW0] at hBX ⊢
  have hB0 : Below Wa.heap.size Wa W0 := by rw [← hW0]; exact ((Below.refl _ Wa).alloc (Nat.le_refl _) _).alloc (by simp) _
  have hz : W0.heap.size = w.heap.size + 5 := by rw [← hW0]; simp [hza]
  rw [hza] at hBX
  have bN0 := bN.kept (Rng.grownBy_of_below hB0) (by simp)
  have b60 := b6.kept (Rng.grownBy_of_below hB0) (by simp)
  have hBw : Below w.heap.size w W0 := hBa.trans (hB0.mono (by omega))
  have hgl : 3 < w.heap.size := cell_lt HE.out.s1.1
  clear hW0 bN b6 hBa hB0
  refine Rng.range_law (n := Rng.dp + 1) (by decide) (gf := 154) (lb := la (w.heap.size + 1 + 1 + 1 + 1) (w.heap.size + 1 + 1 + 1)) rfl (enters_of Tryz.func154 (by kernel_rfl) rfl)
    (HG.out W0 _ _ hBw hBX) (Below.refl _ _) (fun _ => rfl) (fun b => b = w.heap.size + 1 + 1) (fun b hb => by omega) ?hR
    (fun hi pre W' => (Boxed W' (w.heap.size + 1) 3 (.int .i64 dd) ∧ Boxed W' (w.heap.size + 1 + 1) 4 (.bool false)) ∧ Rng.Stay (fun b => b = w.heap.size + 1 + 1) W0.heap.size W0 W' ∧ ∀ y ∈ pre, y < dd)
    (fun c hi pre W' => c = .ret ∧ (∃ p x, pre = p ++ [x] ∧ (∀ y ∈ p, y < dd) ∧ dd ≤ x ∧ Boxed W' (w.heap.size + 1 + 1) 4 (.bool (decide (x = dd)))) ∧ Rng.Stay (fun b => b = w.heap.size + 1 + 1) W0.heap.size W0 W')
    ?hI ?hIx ?h0 (fun x => { tmps := #[.int .i64 start, .agg #[.string r.fq, .int .i64 r.ev, v, .int .i64 r.ct, .int .i64 r.un], .int .i64 dd, undef, .pointer (some ⟨w.heap.size, 0, none⟩), .pointer (some ⟨w.heap.size + 1, 0, none⟩), .pointer (some ⟨w.heap.size + 1 + 1, 0, none⟩), .int .i64 x, .int .i64 start, .agg #[.string r.fq, .int .i64 r.ev, v, .int .i64 r.ct, .int .i64 r.un], .func (.func 154) #[] (la (w.heap.size + 1 + 1 + 1 + 1) (w.heap.size + 1 + 1 + 1)), .int .i64 x, undef, undef, undef, undef, undef, undef], defers := [] }) ?assign ?body ?done ?stop
  case hR =>
    refine ⟨fun h => by omega, fun h => by omega, ?_, fun b h => by omega⟩
    intro b o m c hv hm h
    have := reads_lt HR.out hv hm
    omega
  case hI =>
    exact rng_and (rng_and (rng_boxed (f := fun _ => .int .i64 dd) (by omega)) (rng_boxed (f := fun _ => .bool false) (by omega))) (rng_and (rng_stay _ _ _) (rng_const _))
  case hIx =>
    intro c hi s A B row hB hs hg hr
    obtain ⟨hc, ⟨p, x, e1, hn, hx, g1⟩, hst⟩ := hs
    exact ⟨hc, ⟨p, x, e1, hn, hx, g1.kept hg (fun e => by have := (hr _ e.symm).1; omega)⟩, rng_stay _ _ _ hi s A B row hB hst hg hr⟩
  case h0 =>
    intro W' hW'
    exact ⟨⟨bN0.kept (Rng.grownBy_of_below hW') (by simp), b60.kept (Rng.grownBy_of_below hW') (by simp)⟩, Rng.Stay.of_below hW', by simp⟩
  case assign =>
    intro l2 x W' K hK
    gi_wp2
    exact hK
  case body =>
    rintro hi l2 pre x W' hhi ⟨⟨cn, c6⟩, hst, hno⟩ hlen
    have y1 := cn.cell
    have y2 := c6.cell
    have f2 := c6.frozen
    have HST := Lib.hid hst
    have HC6 := Lib.hid c6
    have HCN := Lib.hid cn
    have HNO := Lib.hid hno
    clear hst c6 cn hno hlen
    have cl : ∀ {b : Nat} {t : TypeId} {u : Value} {A : World}, Boxed A b t u → ∀ o, A.heap[b]? = some o → o.isCells = true := fun hb o ho => by
      rw [show _ = _ from hb] at ho; cases ho; rfl
    have CL0 := Lib.hid (cl b60)
    clear cl
    by_cases hn : dd ≤ x
    · by_cases hq : x = dd
      · have hq' : (x == dd) = true := by simpa using hq
        subst hq
        gi_wp2
        exact ⟨rest_set (rest_refl _ _) _ (by show w.heap.size + 1 + 1 < _; omega) _, rfl,
          ⟨pre, x, rfl, HNO.out, hn, by simpa using HC6.out.set (.bool true)⟩,
          HST.out.setCell (.inl rfl) CL0.out _⟩
      · have hq' : (x == dd) = false := by simpa using hq
        have hd : decide (x = dd) = false := decide_eq_false hq
        gi_wp2
        exact ⟨rest_set (rest_refl _ _) _ (by show w.heap.size + 1 + 1 < _; omega) _, rfl,
          ⟨pre, x, rfl, HNO.out, hn, by rw [hd]; first | exact HC6.out.set (.bool false) | (have := HC6.out.set (.bool (x == dd)); rwa [hq'] at this)⟩,
          HST.out.setCell (.inl rfl) CL0.out _⟩
    · gi_wp2
      exact ⟨Rng.Stay.refl _ _ _, ⟨HCN.out, HC6.out⟩, (by first | exact HST.out | (have h := HST.out; rwa [hz] at h)), fun y hy => by
        rcases List.mem_append.1 hy with hy | hy
        · exact HNO.out y hy
        · simp at hy; omega⟩
  case done =>
    rintro D hi xs W' hD hDh rfl ⟨⟨cn, c6⟩, hst, hno⟩ hK
    have y2 := c6.cell
    have f2 := c6.frozen
    have HST := Lib.hid hst
    have HK := Lib.hid hK
    clear hst hK
    gi_wp2
    have g1 : Boxed (W'.setCell ⟨w.heap.size + 1 + 1, 0, none⟩ (.bool false)) (w.heap.size + 1 + 1) 4 (.bool false) := c6.set _
    have hK : (W'.setCell ⟨w.heap.size + 1 + 1, 0, none⟩ (.bool false)).heap[D]? = some (.deferred (some [])) := by
      rw [Below.heap_setCell _ _ _ _ (by show D ≠ w.heap.size + 1 + 1; omega)]; exact HK.out
    have cl : ∀ {b : Nat} {t : TypeId} {u : Value} {A : World}, Boxed A b t u → ∀ o, A.heap[b]? = some o → o.isCells = true := fun hb o ho => by
      rw [show _ = _ from hb] at ho; cases ho; rfl
    have hst2 := HST.out.setCell (p := ⟨w.heap.size + 1 + 1, 0, none⟩) (.inl rfl) (cl b60) (.bool false)
    refine ⟨by simp, .inl ⟨_, _, rfl, run_takeDeferred hK, ?_⟩⟩
    have r1 := (g1.kept (grownBy_putObj' _ D (.deferred none)) (by simp; omega)).cell
    have hb := (stay_below hst2 (B := w.heap.size) (fun b h => by omega) (by omega) (by omega))
    refine ⟨.bool false, ?_, by rw [isB_miss hno], ?_⟩
    · simp [results, Tryz.f91, go_sem, r1]
    · exact (hBw.trans hb).trans (belowK_b (w := w) (Nat.le_refl _) _ D _ _ (by omega) hK rfl rfl)
  case stop =>
    rintro D hi c pre W' hD hDh hpre ⟨rfl, ⟨p, x, rfl, hn, hx, g1⟩, hst⟩ hK
    gi_wp2
    refine ⟨by simp, .inl ⟨_, _, rfl, run_takeDeferred hK, ?_⟩⟩
    have r1 := (g1.kept (grownBy_putObj' W' D (.deferred none)) (by simp; omega)).cell
    have hb := (stay_below hst (B := w.heap.size) (fun b h => by omega) (by omega) (by omega))
    refine ⟨.bool (decide (x = dd)), ?_, by rw [isB_hit hpre hn hx], ?_⟩
    · simp [results, Tryz.f91, go_sem, r1]
    · exact (hBw.trans hb).trans (belowK_b (w := w) (Nat.le_refl _) W' D _ _ (by omega) hK rfl rfl)
end Cand
end Go.Proofs.YtkhkhbeolhhomaaGreatDoor
