/- All days of a start and a rule: the iterator All$1 as a contract. -/
import Derived.Test.YtkhkhbeolhhomaaGreatDoorAll
namespace Go.Proofs.YtkhkhbeolhhomaaGreatDoor
open Go Go.RowKit Go.Shelf Lmd
attribute [local go_sem] Oper.semAt_some
namespace Cand
open Rul Day Er

/-- the captured variables of All$1 -/
def la (br bs : Nat) : Array Value := #[.pointer (some ⟨bs, 0, none⟩), .pointer (some ⟨br, 0, none⟩)]

theorem stop_cases {ct un x : Int} {n : Nat} (h : stopB ct un n x = true) : (0 < ct ∧ (n : Int) = ct) ∨ (0 < ct ∧ (n : Int) ≠ ct ∧ un ≠ -1 ∧ un < x) ∨ (ct ≤ 0 ∧ un ≠ -1 ∧ un < x) := by
  simp only [stopB, under, Bool.or_eq_true, decide_eq_true_eq, Bool.not_eq_true', decide_eq_false_iff_not] at h
  by_cases h1 : 0 < ct <;> by_cases h2 : (n : Int) = ct <;> simp [h1, h2] at h ⊢ <;> omega
theorem go_cases {ct un x : Int} {n : Nat} (h : stopB ct un n x = false) : ((0 < ct ∧ (n : Int) ≠ ct) ∧ un = -1) ∨ (ct ≤ 0 ∧ un = -1) ∨ ((0 < ct ∧ (n : Int) ≠ ct) ∧ un ≠ -1 ∧ x ≤ un) ∨ (ct ≤ 0 ∧ un ≠ -1 ∧ x ≤ un) := by
  simp only [stopB, under, Bool.or_eq_false_iff, decide_eq_false_iff_not, Bool.not_eq_false', decide_eq_true_eq] at h
  by_cases h1 : 0 < ct <;> by_cases h2 : (n : Int) = ct <;> by_cases h3 : un = -1 <;> simp [h1, h2, h3] at h ⊢ <;> omega

set_option maxRecDepth 100000 in
set_option maxHeartbeats 4000000 in
theorem all_seq (base br bs : Nat) (start y m d : Int) (r : Ru) (v : Value) (e : Nat → Addr) (w : World) (hB : Boxes w br bs start r v) (he : E4 w e) (hb : bad r = 0) (hl : r.ds.length < 50000) (ha : Cal.At start y m d) (hg : 3 < base) :
    Rng.Seq Tryz.prog 154 (la br bs) (fun x : Int => #[.int .i64 x]) (Apart base br bs v) (fun xs => xs = daysOf r.ct r.un (cands start y m d r)) (fun pre => pre <+: daysOf r.ct r.un (cands start y m d r)) 100000 w := by
  intro O l J Jx W hW hO hOb hlt hJ hJx hY h0
  refine (callsIn_wide (n := Rng.dp + 1)).1 ?_
  refine callsIn_of_wp_marks Tryz.func154 rfl trivial ?_ rfl
  simp only [Tryz.ntmps154, la, List.size_toArray, List.length_cons, List.length_nil, Nat.reduceAdd, Nat.reduceSub, Array.replicate_succ, Array.replicate_zero, List.push_toArray, List.append_toArray, List.nil_append, List.cons_append]
  have k0 := cell_later hW hB.r0
  have k1 := cell_later hW hB.r1
  have k2 := cell_later hW hB.r2
  have k3 := cell_later hW hB.r3
  have k4 := cell_later hW hB.r4
  have ks := cell_later hW hB.s
  have hR := hB.rd.below hW
  have hE := he.below hW
  have hbd := Cal.at_bd ha
  have hchk : ∀ w', Below W.heap.size W w' → Calls Tryz.prog 87 #[r.val v] w' fun e' w1 => e' = .returned .nilIface ∧ Below w'.heap.size w' w1 := fun w' h => by
    have := check_any r v e w' (hE.below h) (hR.below h) hl
    rw [hb] at this
    exact this
  have hbr := cell_lt k1
  have hbs := cell_lt ks
  have HCHK := Lib.hid hchk
  have HY := Lib.hid hY
  have HH := Lib.hid h0
  have HO := Lib.hid hO
  have HOb := Lib.hid hOb
  have HA := Lib.hid ha
  have HR := Lib.hid hR
  have HE := Lib.hid hE
  have HBAD := Lib.hid hb
  have HJ := Lib.hid hJ
  have HJX := Lib.hid hJx
  clear hB he hb ha hchk hY h0 hO hOb hR hE hJ hJx hW
  gi_wp2_with (first
    | (refine ⟨trivial, ?_⟩; gi_at_call 82; refine (callsIn_wide.2 (right_yes _ _ hbd)).mono ?_; rintro e' w1 ⟨rfl, rfl⟩)
    | (refine ⟨trivial, ?_⟩; gi_at_call 87; refine (callsIn_wide.2 (HCHK.out _ ((Below.refl _ W).alloc (Nat.le_refl _) _))).mono ?_; rintro e' w1 ⟨rfl, hb1⟩
       have hB2 : Below W.heap.size W (w1.alloc (.cells #[.int .i64 0] 3)) := (((Below.refl _ W).alloc (Nat.le_refl _) _).trans (hb1.mono (by simp))).alloc (Nat.le_trans (by simp) hb1.size) _
       have k02 := cell_later hB2 k0
       have k12 := cell_later hB2 k1
       have k22 := cell_later hB2 k2
       have k32 := cell_later hB2 k3
       have k42 := cell_later hB2 k4
       have ks2 := cell_later hB2 ks)
    | (refine ⟨trivial, ?_⟩; gi_at_call 155; refine (callsIn_wide.2 (candidates_any start r v _)).mono ?_; rintro e' w2 ⟨rfl, rfl⟩))
  have hz1 : W.heap.size + 1 ≤ w1.heap.size := by simpa using hb1.size
  have cY1 := cell_later hb1 (cell_of (heap_new W (.cells #[.func (.yield l) #[] #[]] 56)) (i := 0) rfl)
  have hY1 : W.heap.size < w1.heap.size := by omega
  obtain ⟨W0, hW0⟩ : ∃ W0, ((w1.alloc (.cells #[.int .i64 0] 3)).alloc (.cells #[.int .i64 start] 3)).alloc (.cells #[.string r.fq, .int .i64 r.ev, v, .int .i64 r.ct, .int .i64 r.un] 35) = W0 := ⟨_, rfl⟩
  have hz : W0.heap.size = w1.heap.size + 3 := by rw [← hW0]; simp
  have hBw : Below w1.heap.size w1 W0 := by rw [← hW0]; exact (((Below.refl _ w1).alloc (Nat.le_refl _) _).alloc (by simp) _).alloc (by simp; omega) _
  have hB0 : Below W.heap.size W W0 := (((Below.refl _ W).alloc (Nat.le_refl _) (.cells #[.func (.yield l) #[] #[]] 56)).trans (hb1.mono (by simp))).trans (hBw.mono (by omega))
  have bN : Boxed W0 w1.heap.size 3 (.int .i64 0) := by rw [← hW0]; exact ((Boxed.new w1 _ _).alloc _).alloc _
  have hBX : Boxes W0 (w1.heap.size + 1 + 1) (w1.heap.size + 1) start r v := by
    rw [← hW0]
    have := boxes_new start r v (w1.alloc (.cells #[.int .i64 0] 3)) (HR.out.below hB2) 3 35
    rwa [World.size_alloc] at this
  have cY := cell_later hBw cY1
  have c3 := cell_later hB0 k3
  have c4 := cell_later hB0 k4
  have cE := cell_later hB0 HE.out.s1.1
  have hgl : 3 < W.heap.size := cell_lt HE.out.s1.1
  rw [hW0]
  clear hW0 hBw hB2 k02 k12 k22 k32 k42 ks2 k0 k1 k2 k3 k4 ks cY1 hb1
  have hyO : ¬ (O W.heap.size ∨ W.heap.size = w1.heap.size) := fun h => h.elim (fun h => by have := HOb.out _ h; omega) (fun h => by omega)
  have hrO : ¬ (O br ∨ br = w1.heap.size) := fun h => h.elim (fun h => HO.out.1 h) (fun h => by omega)
  have hHI : W.heap.size ≤ W0.heap.size := hB0.size
  refine Rng.range_law (n := Rng.dp + 1) (by decide) (gf := 201) (lb := lb (w1.heap.size + 1 + 1) (w1.heap.size + 1)) rfl (enters_of Tryz.func201 (by kernel_rfl) rfl)
    (cands_seq (3 + 1) (w1.heap.size + 1 + 1) (w1.heap.size + 1) start y m d r v (e 1) W0 hBX HBAD.out HA.out (by omega) cE)
    (Below.refl _ _) (fun _ => rfl) (fun b => O b ∨ b = w1.heap.size) (fun b hb => hb.elim (fun h => by have := HOb.out _ h; omega) (fun h => by omega)) ?hR
    (fun hi pre W' => (J hi pre W' ∧ Boxed W' w1.heap.size 3 (.int .i64 (pre.length : Int))) ∧ Rng.Stay (fun b => O b ∨ b = w1.heap.size) W0.heap.size W0 W' ∧ Goes r.ct r.un pre)
    (fun c hi pre W' => c = .ret ∧ ((∃ p x, pre = p ++ [x] ∧ J hi p W' ∧ Goes r.ct r.un p ∧ stopB r.ct r.un p.length x = true) ∨ Jx hi pre W' ∧ Goes r.ct r.un pre))
    ?hI ?hIx ?h0 (fun x => { tmps := #[.func (.yield l) #[] #[], .pointer (some ⟨bs, 0, none⟩), .pointer (some ⟨br, 0, none⟩), .pointer (some ⟨W.heap.size, 0, none⟩), .pointer (some ⟨w1.heap.size, 0, none⟩), .int .i64 x, .int .i64 start, .bool true, .bool false, .bool false, .agg #[.string r.fq, .int .i64 r.ev, v, .int .i64 r.ct, .int .i64 r.un], .nilIface, .bool false, .bool false, .int .i64 start, .agg #[.string r.fq, .int .i64 r.ev, v, .int .i64 r.ct, .int .i64 r.un], .func (.func 201) #[] (lb (w1.heap.size + 1 + 1) (w1.heap.size + 1)), .int .i64 x, undef, undef, undef, undef, undef, undef, undef, undef, undef, undef, undef, undef, undef, undef, undef, undef, undef, undef, undef, undef, undef, undef, undef, undef, undef, undef, undef, undef], defers := [] }) ?assign ?body ?done ?stop
  case hR =>
    refine ⟨fun h => h.elim (fun h => by have := HOb.out _ h; omega) (fun h => by omega), fun h => h.elim (fun h => by have := HOb.out _ h; omega) (fun h => by omega), ?_, ?_⟩
    · intro b o n c hv hn h
      have := reads_lt HR.out hv hn
      exact h.elim (fun h => HO.out.2.2.1 b o n c hv hn h) (fun h => by omega)
    · intro b h
      exact h.elim (fun h => by have := HO.out.2.2.2 b h; omega) (fun h => by omega)
  case hI =>
    exact rng_and (rng_and (HJ.out.mono hHI) (rng_boxed (by omega))) (rng_and (rng_stay _ _ _) (rng_const _))
  case hIx =>
    intro c hi s A B row hB hs hg hr
    obtain ⟨hc, (⟨p, x, e1, hj, g1, s1⟩ | ⟨hj, g1⟩)⟩ := hs
    · exact ⟨hc, .inl ⟨p, x, e1, (HJ.out.mono hHI) hi p A B row hB hj hg hr, g1, s1⟩⟩
    · exact ⟨hc, .inr ⟨(HJX.out.mono hHI) hi s A B row hB hj hg hr, g1⟩⟩
  case h0 =>
    intro W' hW'
    exact ⟨⟨HH.out W' (hB0.trans (hW'.mono hHI)), bN.kept (Rng.grownBy_of_below hW') (by simp)⟩, Rng.Stay.of_below hW', goes_nil _ _⟩
  case assign =>
    intro l2 x W' K hK
    gi_wp2
    exact hK
  case body =>
    rintro hi l2 pre x W' hhi ⟨⟨hj, bN'⟩, hst, hgo⟩ hlen
    have y1 := stay_cell hst cY hyO (cell_lt cY)
    have y3 := stay_cell hst c3 hrO (cell_lt c3)
    have y4 := stay_cell hst c4 hrO (cell_lt c4)
    have cN := bN'.cell
    have fN := bN'.frozen
    by_cases hs : stopB r.ct r.un pre.length x = true
    · have hcs := stop_cases hs
      have HS := Lib.hid hs
      have HJ1 := Lib.hid hj
      have HG := Lib.hid hgo
      clear hs hj hgo
      rcases hcs with ⟨h1, h2⟩ | ⟨h1, h2, h3, h4⟩ | ⟨h1, h3, h4⟩
      all_goals (
        gi_wp2
        refine ⟨fun _ h => (by cases h), ?_⟩
        gi_wp2
        exact ⟨rest_refl _ _, rfl, .inl ⟨pre, x, rfl, HJ1.out, HG.out, HS.out⟩⟩)
    · have hs' : stopB r.ct r.un pre.length x = false := by simpa using hs
      have hcs := go_cases hs'
      obtain ⟨f1, t1, a1, b1, hy1, hR1⟩ := HY.out hi pre x W' (by omega) hj hlen
      have HS := Lib.hid hs'
      have HJ1 := Lib.hid hj
      have HG := Lib.hid hgo
      have HST := Lib.hid hst
      clear hs hj hgo hs' hst
      have fin : ∀ (a0 : Act) W1, J hi (pre ++ [x]) W1 → Rng.Stay O hi W' W1 → Rng.Post W0.heap.size (fun b => O b ∨ b = w1.heap.size)
          (fun hi pre W' => (J hi pre W' ∧ Boxed W' w1.heap.size 3 (.int .i64 (pre.length : Int))) ∧ Rng.Stay (fun b => O b ∨ b = w1.heap.size) W0.heap.size W0 W' ∧ Goes r.ct r.un pre)
          (fun c hi pre W' => c = .ret ∧ ((∃ p x, pre = p ++ [x] ∧ J hi p W' ∧ Goes r.ct r.un p ∧ stopB r.ct r.un p.length x = true) ∨ Jx hi pre W' ∧ Goes r.ct r.un pre))
          hi (pre ++ [x]) W' .normal a0 (W1.setCell ⟨w1.heap.size, 0, none⟩ (.int .i64 ((pre.length : Int) + 1))) := by
        intro _ W1 hJ1 hk1
        have hbO : ¬ O w1.heap.size := fun h => by have := HOb.out _ h; omega
        have b1 : Boxed W1 w1.heap.size 3 (.int .i64 (pre.length : Int)) := hk1.same _ _ bN' (.inr ⟨hbO, by omega⟩)
        have hk2 := hk1.mono (O' := fun b => O b ∨ b = w1.heap.size) (hi' := hi) (fun b _ h => .inl h) (Nat.le_refl _)
        have hcl : ∀ o, W'.heap[w1.heap.size]? = some o → o.isCells = true := fun o ho => by
          have e : W'.heap[w1.heap.size]? = _ := bN'
          rw [e] at ho; cases ho; rfl
        have hcl0 : ∀ o, W0.heap[w1.heap.size]? = some o → o.isCells = true := fun o ho => by
          have e : W0.heap[w1.heap.size]? = _ := bN
          rw [e] at ho; cases ho; rfl
        refine ⟨hk2.setCell (.inl (.inr rfl)) hcl _, ⟨HJ.out hi _ W1 _ (some w1.heap.size) (by omega) hJ1 (grownBy_setCell' W1 w1.heap.size _) (fun r e => by cases e; exact ⟨by omega, by omega⟩), ?_⟩, (HST.out.trans (hk2.mono (fun _ _ h => h) (by omega))).setCell (.inl (.inr rfl)) hcl0 _, goes_snoc HG.out HS.out⟩
        have := b1.set (.int .i64 ((pre.length : Int) + 1))
        rw [List.length_append]
        simpa using this
      have FIN := Lib.hid fin
      clear fin
      have HLEN := Lib.hid hlen
      clear hlen
      have fz : ∀ W1, Rng.Stay O hi W' W1 → W1.cell? ⟨w1.heap.size, 0, none⟩ = some (.int .i64 (pre.length : Int)) ∧ W1.frozen? ⟨w1.heap.size, 0, none⟩ = false := fun W1 hk1 => by
        have b1 : Boxed W1 w1.heap.size 3 (.int .i64 (pre.length : Int)) := hk1.same _ _ bN' (.inr ⟨fun h => by have := HOb.out _ h; omega, by omega⟩)
        exact ⟨b1.cell, b1.frozen⟩
      have FZ := Lib.hid fz
      clear fz
      rcases hcs with ⟨⟨h1, h2⟩, h3⟩ | ⟨h1, h3⟩ | ⟨⟨h1, h2⟩, h3, h4⟩ | ⟨h1, h3, h4⟩
      all_goals (
        try (have h2' : ((pre.length : Int) == r.ct) = false := by simpa using h2)
        try (have h3' : (r.un != -1) = true := by simpa using h3)
        try (have h4' : decide (r.un < x) = false := by simpa using h4)
        gi_wp2
        refine (round_in hR1).mono ?_
        rintro e3 W1 (⟨rfl, hJ1, hk1⟩ | ⟨rfl, hx1, hr1⟩)
        · obtain ⟨cN1, fN1⟩ := FZ.out W1 hk1
          have hlen' : (pre.length : Int) < 100000 := by have := HLEN.out; omega
          have hq1 := Lib.hid hk1
          have hq2 := Lib.hid hJ1
          clear hk1 hJ1
          gi_wp2
          exact FIN.out _ W1 hq2.out hq1.out
        · gi_wp2
          exact ⟨fun b o hb hc hn => hr1 b o (by omega) hc hn, rfl, .inr ⟨hx1, goes_snoc HG.out HS.out⟩⟩)
  case done =>
    rintro D hi xs W' hD hDh rfl ⟨⟨hj, _⟩, _, hgo⟩ hK
    gi_wp2
    refine ⟨by simp, .inl ⟨_, _, rfl, run_takeDeferred hK, ?_⟩⟩
    refine ⟨_, results_none rfl _ _ _, ⟨_, rfl⟩, hi, by omega, .inl ⟨_, (days_done hgo).symm, HJ.out.putObj _ (by omega) hj (by omega) hDh⟩⟩
  case stop =>
    rintro D hi c pre W' hD hDh hpre ⟨rfl, hq⟩ hK
    gi_wp2
    refine ⟨by simp, .inl ⟨_, _, rfl, run_takeDeferred hK, ?_⟩⟩
    refine ⟨_, results_none rfl _ _ _, ⟨_, rfl⟩, hi, by omega, ?_⟩
    rcases hq with ⟨p, x, rfl, hj, g1, s1⟩ | ⟨hj, g1⟩
    · exact .inl ⟨p, (days_stop g1 hpre s1).symm, HJ.out.putObj _ (by omega) hj (by omega) hDh⟩
    · exact .inr ⟨pre, days_pre g1 hpre, HJX.out.putObj _ (by omega) hj (by omega) hDh⟩
end Cand
end Go.Proofs.YtkhkhbeolhhomaaGreatDoor
