/- Nth and Is, over what the iterator of all days gives. -/
import Derived.Test.YtkgmojaecaghmaaDoorAllSeq
namespace Go.Proofs.YtkgmojaecaghmaaDoor
open Go Go.RowKit Go.Shelf Lmd
attribute [local go_sem] Oper.semAt_some
namespace Cand
open Rul Day Er

theorem stay_below {O : Nat → Prop} {hi B : Nat} {W W' : World} (h : Rng.Stay O hi W W') (hO : ∀ b, O b → B ≤ b) (hB : B ≤ hi) (hz : B ≤ W.heap.size) : Below B W W' := by
  refine ⟨h.os, h.tape, h.output, h.size, fun k hk => ?_⟩
  obtain ⟨o, ho⟩ : ∃ o, W.heap[k]? = some o := ⟨W.heap[k]'(by omega), by simp⟩
  rw [h.same k o ho (.inr ⟨fun x => by have := hO k x; omega, by omega⟩), ho]

theorem rest_set {B : Nat} {W W' : World} (h : Rng.Rest B W W') (p : Addr) (hp : p.block < B) (v : Value) : Rng.Rest B W (W'.setCell p v) := fun b o hb hc ho => by
  rw [Below.heap_setCell _ _ _ _ (by omega)]
  exact h b o hb hc ho
/-- what the iterator of all days gives -/
def Gives (start : Int) (r : Ru) (v : Value) (l : List Int) (w : World) : Prop :=
  ∀ (W0 : World) (br bs : Nat), Below w.heap.size w W0 → Boxes W0 br bs start r v → Rng.Seq Tryd.prog 74 (la br bs) (fun x : Int => #[.int .i64 x]) (Apart (1 + 1) br bs v) (fun xs => xs = l) (fun pre => pre <+: l) 100000 W0

theorem gives_all (start y m d : Int) (r : Ru) (v : Value) (e : Nat → Addr) (w : World) (he : E4 w e) (hb : bad r = 0) (hl : r.ds.length < 1000) (ha : Cal.At start y m d) : Gives start r v (daysOf r.ct r.un (cands start y m d r)) w :=
  fun W0 br bs hW hB => all_seq (1 + 1) br bs start y m d r v e W0 hB (he.below hW) hb hl ha (by omega)
theorem Gives.below {start : Int} {r : Ru} {v : Value} {l : List Int} {w w' : World} (h : Gives start r v l w) (hb : Below w.heap.size w w') : Gives start r v l w' :=
  fun W0 br bs hW hB => h W0 br bs (hb.trans (hW.mono hb.size)) hB

theorem nthB_hit {l p : List Int} {x n : Int} (h : p ++ [x] <+: l) (hn : (p.length : Int) = n) : nthB l n = true ∧ nthV l n = x := by
  obtain ⟨t, rfl⟩ := h
  subst hn
  have hl : p.length < (p ++ [x] ++ t).length := by simp
  refine ⟨nth_yes hl, ?_⟩
  rw [nth_el hl]
  simp
theorem nthB_miss {l : List Int} {n : Int} (h : ¬ (0 ≤ n ∧ n < l.length)) : nthB l n = false ∧ nthV l n = 0 := by
  have h1 : nthB l n = false := decide_eq_false h
  exact ⟨h1, by unfold nthV; rw [h1]; rfl⟩

set_option maxRecDepth 100000 in
set_option maxHeartbeats 4000000 in
theorem nth_any (start : Int) (r : Ru) (v : Value) (n : Int) (l : List Int) (e : Nat → Addr) (w : World) (hG : Gives start r v l w) (he : E4 w e) (hr : Ints.Reads w v r.ds) :
    Calls Tryd.prog 16 #[.int .i64 start, r.val v, .int .i64 n] w fun e' w' => e' = .returned (.tuple #[.int .i64 (nthV l n), .bool (nthB l n)]) ∧ Below w.heap.size w w' := by
  refine (callsIn_wide (n := Rng.dp + 1)).1 ?_
  refine callsIn_of_wp_marks Tryd.func16 rfl trivial ?_ rfl
  simp only [Tryd.ntmps16, Ru.val, List.size_toArray, List.length_cons, List.length_nil, Nat.reduceAdd, Nat.reduceSub, Array.replicate_succ, Array.replicate_zero, List.push_toArray, List.append_toArray, List.nil_append, List.cons_append]
  have HR := Lib.hid hr
  have HE := Lib.hid he
  have HG := Lib.hid hG
  clear hr he hG
  gi_wp2_with (refine ⟨trivial, ?_⟩; gi_at_call 50; refine (callsIn_wide.2 (all_any start r v _)).mono ?_; rintro e' w2 ⟨rfl, rfl⟩)
  obtain ⟨Wa, hWa⟩ : ∃ Wa, ((((w.alloc (.cells #[.string r.fq, .int .i64 r.ev, v, .int .i64 r.ct, .int .i64 r.un] 24)).alloc (.cells #[.int .i64 n] 3)).alloc (.cells #[.int .i64 0] 3)).alloc (.cells #[.bool false] 4)).alloc (.cells #[.int .i64 0] 3) = Wa := ⟨_, rfl⟩
  have hza : Wa.heap.size = w.heap.size + 1 + 1 + 1 + 1 + 1 := by rw [← hWa]; simp
  have hBa : Below w.heap.size w Wa := by
    rw [← hWa]
    exact (((((Below.refl _ w).alloc (Nat.le_refl _) _).alloc (by simp) _).alloc (by simp; omega) _).alloc (by simp; omega) _).alloc (by simp; omega) _
  have bN : Boxed Wa (w.heap.size + 1) 3 (.int .i64 n) := by
    have h := (((Boxed.new (w.alloc (.cells #[.string r.fq, .int .i64 r.ev, v, .int .i64 r.ct, .int .i64 r.un] 24)) 3 (.int .i64 n)).alloc (.cells #[.int .i64 0] 3)).alloc (.cells #[.bool false] 4)).alloc (.cells #[.int .i64 0] 3)
    rw [hWa] at h; simpa only [World.size_alloc] using h
  have b6 : Boxed Wa (w.heap.size + 1 + 1) 3 (.int .i64 0) := by
    have h := ((Boxed.new ((w.alloc (.cells #[.string r.fq, .int .i64 r.ev, v, .int .i64 r.ct, .int .i64 r.un] 24)).alloc (.cells #[.int .i64 n] 3)) 3 (.int .i64 0)).alloc (.cells #[.bool false] 4)).alloc (.cells #[.int .i64 0] 3)
    rw [hWa] at h; simpa only [World.size_alloc] using h
  have b7 : Boxed Wa (w.heap.size + 1 + 1 + 1) 4 (.bool false) := by
    have h := (Boxed.new (((w.alloc (.cells #[.string r.fq, .int .i64 r.ev, v, .int .i64 r.ct, .int .i64 r.un] 24)).alloc (.cells #[.int .i64 n] 3)).alloc (.cells #[.int .i64 0] 3)) 4 (.bool false)).alloc (.cells #[.int .i64 0] 3)
    rw [hWa] at h; simpa only [World.size_alloc] using h
  have bK : Boxed Wa (w.heap.size + 1 + 1 + 1 + 1) 3 (.int .i64 0) := by
    have h := Boxed.new ((((w.alloc (.cells #[.string r.fq, .int .i64 r.ev, v, .int .i64 r.ct, .int .i64 r.un] 24)).alloc (.cells #[.int .i64 n] 3)).alloc (.cells #[.int .i64 0] 3)).alloc (.cells #[.bool false] 4)) 3 (.int .i64 0)
    rw [hWa] at h; simpa only [World.size_alloc] using h
  rw [hWa]
  clear hWa
  have hBX := boxes_new start r v Wa (HR.out.below hBa) 3 24
  obtain ⟨W0, hW0⟩ : ∃ W0, (Wa.alloc (.cells #[.int .i64 start] 3)).alloc (.cells #[.string r.fq, .int .i64 r.ev, v, .int .i64 r.ct, .int .i64 r.un] 24) = W0 := ⟨_, rfl⟩
  rw [hW0] at hBX ⊢
  have hB0 : Below Wa.heap.size Wa W0 := by rw [← hW0]; exact ((Below.refl _ Wa).alloc (Nat.le_refl _) _).alloc (by simp) _
  have hz : W0.heap.size = w.heap.size + 7 := by rw [← hW0]; simp [hza]
  rw [hza] at hBX
  have bN0 := bN.kept (Rng.grownBy_of_below hB0) (by simp)
  have b60 := b6.kept (Rng.grownBy_of_below hB0) (by simp)
  have b70 := b7.kept (Rng.grownBy_of_below hB0) (by simp)
  have bK0 := bK.kept (Rng.grownBy_of_below hB0) (by simp)
  have hBw : Below w.heap.size w W0 := hBa.trans (hB0.mono (by omega))
  have hgl : 1 < w.heap.size := cell_lt HE.out.s1.1
  clear hW0 bN b6 b7 bK hBa hB0
  refine Rng.range_law (n := Rng.dp + 1) (by decide) (gf := 74) (lb := la (w.heap.size + 1 + 1 + 1 + 1 + 1 + 1) (w.heap.size + 1 + 1 + 1 + 1 + 1)) rfl (enters_of Tryd.func74 (by kernel_rfl) rfl)
    (HG.out W0 _ _ hBw hBX) (Below.refl _ _) (fun _ => rfl) (fun b => b = w.heap.size + 1 + 1 ∨ b = w.heap.size + 1 + 1 + 1 ∨ b = w.heap.size + 1 + 1 + 1 + 1) (fun b hb => by omega) ?hR
    (fun hi pre W' => (Boxed W' (w.heap.size + 1) 3 (.int .i64 n) ∧ Boxed W' (w.heap.size + 1 + 1) 3 (.int .i64 0) ∧ Boxed W' (w.heap.size + 1 + 1 + 1) 4 (.bool false) ∧ Boxed W' (w.heap.size + 1 + 1 + 1 + 1) 3 (.int .i64 (pre.length : Int))) ∧ Rng.Stay (fun b => b = w.heap.size + 1 + 1 ∨ b = w.heap.size + 1 + 1 + 1 ∨ b = w.heap.size + 1 + 1 + 1 + 1) W0.heap.size W0 W' ∧ ¬ (0 ≤ n ∧ n < pre.length))
    (fun c hi pre W' => c = .ret ∧ (∃ p x, pre = p ++ [x] ∧ (p.length : Int) = n ∧ Boxed W' (w.heap.size + 1 + 1) 3 (.int .i64 x) ∧ Boxed W' (w.heap.size + 1 + 1 + 1) 4 (.bool true)) ∧ Rng.Stay (fun b => b = w.heap.size + 1 + 1 ∨ b = w.heap.size + 1 + 1 + 1 ∨ b = w.heap.size + 1 + 1 + 1 + 1) W0.heap.size W0 W')
    ?hI ?hIx ?h0 (fun x => { tmps := #[.int .i64 start, .agg #[.string r.fq, .int .i64 r.ev, v, .int .i64 r.ct, .int .i64 r.un], .int .i64 n, undef, .pointer (some ⟨w.heap.size, 0, none⟩), .pointer (some ⟨w.heap.size + 1, 0, none⟩), .pointer (some ⟨w.heap.size + 1 + 1, 0, none⟩), .pointer (some ⟨w.heap.size + 1 + 1 + 1, 0, none⟩), .pointer (some ⟨w.heap.size + 1 + 1 + 1 + 1, 0, none⟩), .int .i64 x, .int .i64 start, .agg #[.string r.fq, .int .i64 r.ev, v, .int .i64 r.ct, .int .i64 r.un], .func (.func 74) #[] (la (w.heap.size + 1 + 1 + 1 + 1 + 1 + 1) (w.heap.size + 1 + 1 + 1 + 1 + 1)), .int .i64 x, undef, undef, undef, undef, undef, undef], defers := [] }) ?assign ?body ?done ?stop
  case hR =>
    refine ⟨fun h => by omega, fun h => by omega, ?_, fun b h => by omega⟩
    intro b o m c hv hm h
    have := reads_lt HR.out hv hm
    omega
  case hI =>
    exact rng_and (rng_and (rng_boxed (f := fun _ => .int .i64 n) (by omega)) (rng_and (rng_boxed (f := fun _ => .int .i64 0) (by omega)) (rng_and (rng_boxed (f := fun _ => .bool false) (by omega)) (rng_boxed (f := fun p => .int .i64 (p.length : Int)) (by omega))))) (rng_and (rng_stay _ _ _) (rng_const _))
  case hIx =>
    intro c hi s A B row hB hs hg hr
    obtain ⟨hc, ⟨p, x, e1, hn, g1, g2⟩, hst⟩ := hs
    exact ⟨hc, ⟨p, x, e1, hn, g1.kept hg (fun e => by have := (hr _ e.symm).1; omega), g2.kept hg (fun e => by have := (hr _ e.symm).1; omega)⟩, rng_stay _ _ _ hi s A B row hB hst hg hr⟩
  case h0 =>
    intro W' hW'
    exact ⟨⟨bN0.kept (Rng.grownBy_of_below hW') (by simp), b60.kept (Rng.grownBy_of_below hW') (by simp), b70.kept (Rng.grownBy_of_below hW') (by simp), bK0.kept (Rng.grownBy_of_below hW') (by simp)⟩, Rng.Stay.of_below hW', by simp⟩
  case assign =>
    intro l2 x W' K hK
    gi_wp2
    exact hK
  case body =>
    rintro hi l2 pre x W' hhi ⟨⟨cn, c6, c7, ck⟩, hst, hno⟩ hlen
    have y1 := cn.cell
    have y2 := c6.cell
    have y3 := c7.cell
    have y4 := ck.cell
    have f2 := c6.frozen
    have f3 := c7.frozen
    have f4 := ck.frozen
    have HST := Lib.hid hst
    have HC6 := Lib.hid c6
    have HC7 := Lib.hid c7
    have HCN := Lib.hid cn
    have HCK := Lib.hid ck
    have HNO := Lib.hid hno
    have hlen' : (pre.length : Int) < 100000 := by omega
    have HLEN := Lib.hid hlen
    clear hst c6 c7 cn ck hno hlen
    have cl : ∀ {b : Nat} {t : TypeId} {u : Value} {A : World}, Boxed A b t u → ∀ o, A.heap[b]? = some o → o.isCells = true := fun hb o ho => by
      rw [show _ = _ from hb] at ho; cases ho; rfl
    have CL0 := Lib.hid (cl b60)
    have CL1 := Lib.hid (cl b70)
    have CL2 := Lib.hid (cl bK0)
    have CL3 := Lib.hid (cl HCK.out)
    clear cl
    by_cases hn : (pre.length : Int) = n
    · have hn' : ((pre.length : Int) == n) = true := by simpa using hn
      gi_wp2
      exact ⟨rest_set (rest_set (rest_refl _ _) _ (by show w.heap.size + 1 + 1 < _; omega) _) _ (by show w.heap.size + 1 + 1 + 1 < _; omega) _, rfl,
        ⟨pre, x, rfl, hn, (HC6.out.set _).other (by omega) _, (HC7.out.other (by omega) _).set _⟩,
        (HST.out.setCell (.inl (.inl rfl)) CL0.out _).setCell (.inl (.inr (.inl rfl))) CL1.out _⟩
    · have hn' : ((pre.length : Int) == n) = false := by simpa using hn
      gi_wp2
      exact ⟨(Rng.Stay.refl _ _ _).setCell (.inl (.inr (.inr rfl))) CL3.out _,
        ⟨HCN.out.other (by omega) _, HC6.out.other (by omega) _, HC7.out.other (by omega) _, by
          have := HCK.out.set (.int .i64 ((pre.length : Int) + 1))
          rw [List.length_append]; simpa using this⟩,
        HST.out.setCell (.inl (.inr (.inr rfl))) CL2.out _, fun h => HNO.out ⟨h.1, by have := h.2; rw [List.length_append] at this; simp at this; omega⟩⟩
  case done =>
    rintro D hi xs W' hD hDh rfl ⟨⟨cn, c6, c7, ck⟩, hst, hno⟩ hK
    have y2 := c6.cell
    have y3 := c7.cell
    have f2 := c6.frozen
    have f3 := c7.frozen
    have HST := Lib.hid hst
    have HK := Lib.hid hK
    clear hst hK
    gi_wp2
    have g1 : Boxed ((W'.setCell ⟨w.heap.size + 1 + 1, 0, none⟩ (.int .i64 0)).setCell ⟨w.heap.size + 1 + 1 + 1, 0, none⟩ (.bool false)) (w.heap.size + 1 + 1) 3 (.int .i64 0) := (c6.set _).other (by omega) _
    have g2 : Boxed ((W'.setCell ⟨w.heap.size + 1 + 1, 0, none⟩ (.int .i64 0)).setCell ⟨w.heap.size + 1 + 1 + 1, 0, none⟩ (.bool false)) (w.heap.size + 1 + 1 + 1) 4 (.bool false) := (c7.other (by omega) _).set _
    have hK : ((W'.setCell ⟨w.heap.size + 1 + 1, 0, none⟩ (.int .i64 0)).setCell ⟨w.heap.size + 1 + 1 + 1, 0, none⟩ (.bool false)).heap[D]? = some (.deferred (some [])) := by
      rw [Below.heap_setCell _ _ _ _ (by show D ≠ w.heap.size + 1 + 1 + 1; omega), Below.heap_setCell _ _ _ _ (by show D ≠ w.heap.size + 1 + 1; omega)]; exact HK.out
    have cl : ∀ {b : Nat} {t : TypeId} {u : Value} {A : World}, Boxed A b t u → ∀ o, A.heap[b]? = some o → o.isCells = true := fun hb o ho => by
      rw [show _ = _ from hb] at ho; cases ho; rfl
    have hst2 := (HST.out.setCell (p := ⟨w.heap.size + 1 + 1, 0, none⟩) (.inl (.inl rfl)) (cl b60) (.int .i64 0)).setCell (p := ⟨w.heap.size + 1 + 1 + 1, 0, none⟩) (.inl (.inr (.inl rfl))) (cl b70) (.bool false)
    refine ⟨by simp, .inl ⟨_, _, rfl, run_takeDeferred hK, ?_⟩⟩
    have r1 := (g1.kept (grownBy_putObj' _ D (.deferred none)) (by simp; omega)).cell
    have r2 := (g2.kept (grownBy_putObj' _ D (.deferred none)) (by simp; omega)).cell
    obtain ⟨q1, q2⟩ := nthB_miss hno
    have hb := (stay_below hst2 (B := w.heap.size) (fun b h => by omega) (by omega) (by omega))
    refine ⟨.tuple #[.int .i64 0, .bool false], ?_, by rw [q1, q2], ?_⟩
    · simp [results, Tryd.f16, go_sem, r1, r2]
    · exact (hBw.trans hb).trans (belowK_b (w := w) (Nat.le_refl _) _ D _ _ (by omega) hK rfl rfl)
  case stop =>
    rintro D hi c pre W' hD hDh hpre ⟨rfl, ⟨p, x, rfl, hn, g1, g2⟩, hst⟩ hK
    gi_wp2
    refine ⟨by simp, .inl ⟨_, _, rfl, run_takeDeferred hK, ?_⟩⟩
    have r1 := (g1.kept (grownBy_putObj' W' D (.deferred none)) (by simp; omega)).cell
    have r2 := (g2.kept (grownBy_putObj' W' D (.deferred none)) (by simp; omega)).cell
    obtain ⟨q1, q2⟩ := nthB_hit hpre hn
    have hb := (stay_below hst (B := w.heap.size) (fun b h => by omega) (by omega) (by omega))
    refine ⟨.tuple #[.int .i64 x, .bool true], ?_, by rw [q1, q2], ?_⟩
    · simp [results, Tryd.f16, go_sem, r1, r2]
    · exact (hBw.trans hb).trans (belowK_b (w := w) (Nat.le_refl _) W' D _ _ (by omega) hK rfl rfl)
end Cand
end Go.Proofs.YtkgmojaecaghmaaDoor
