/- The candidates by months (in work). -/
import Derived.Test.YtkhkhbeolhhomaaGreatDoorCand
import Derived.Deep.QuietTactic
import Derived.BigQuiet
namespace Go.Proofs.YtkhkhbeolhhomaaGreatDoor
open Go Go.RowKit Go.Shelf Lmd
attribute [local go_sem] Oper.semAt_some
namespace Cand
open Rul Day

theorem wrap_small {n : Int} (h0 : 0 ≤ n) (h1 : n < 4611686018427387904) : wrap64 n = n := by unfold wrap64; omega

set_option maxRecDepth 100000 in
set_option maxHeartbeats 2000000 in
theorem months_seq (base br bs : Nat) (start y m d : Int) (r : Ru) (v : Value) (ad : Addr) (w : World) (hB : Boxes w br bs start r v) (hf1 : r.fq.toList ≠ [111, 110, 99, 101]) (hf2 : r.fq.toList ≠ [100, 97, 105, 108, 121]) (hf3 : r.fq.toList ≠ [119, 101, 101, 107, 108, 121])
    (ha : Cal.At start y m d) (he0 : 1 ≤ r.ev) (he1 : r.ev ≤ 100) (hg : 3 < base)
    (hc : w.cell? ⟨3, 0, none⟩ = some (.iface 339 (.pointer (some ad)))) :
    Rng.Seq Tryz.prog 201 (lb br bs) (fun x : Int => #[.int .i64 x]) (Apart base br bs v) (fun xs => xs = mons y m d (r.ev * mulOf r.fq)) (fun pre => pre <+: mons y m d (r.ev * mulOf r.fq)) 100000 w := by
  intro O l J Jx W hW hO _ _ hJ hJx hY h0
  refine (callsIn_wide (n := Rng.dp + 1)).1 ?_
  refine callsIn_of_wp Tryz.func201 rfl trivial ?_ rfl
  simp only [Tryz.ntmps201, lb, List.size_toArray, List.length_cons, List.length_nil, Nat.reduceAdd, Nat.reduceSub, Array.replicate_succ, Array.replicate_zero, List.push_toArray, List.append_toArray, List.nil_append, List.cons_append]
  have k0 := cell_later hW hB.r0
  have k1 := cell_later hW hB.r1
  have ks := cell_later hW hB.s
  have hE := cell_later hW hc
  have q1 : (r.fq.toList == [111, 110, 99, 101]) = false := by simpa using hf1
  have q2 : (r.fq.toList == [100, 97, 105, 108, 121]) = false := by simpa using hf2
  have q3 : (r.fq.toList == [119, 101, 101, 107, 108, 121]) = false := by simpa using hf3
  have HJ0 := Lib.hid (h0 W (Below.refl _ _))
  have HY := Lib.hid hY
  have hbr := cell_lt k1
  have hbs := cell_lt ks
  have hbe := cell_lt hE
  clear h0 hY hf1 hf2 hf3 hB hc
  obtain ⟨sp, hsp⟩ : ∃ sp, r.ev * mulOf r.fq = sp := ⟨_, rfl⟩
  have hs1 : 1 ≤ sp := by rw [← hsp]; unfold mulOf; split <;> omega
  have hs2 : sp ≤ 1200 := by rw [← hsp]; unfold mulOf; split <;> omega
  have HSP := Lib.hid hsp
  have HA := Lib.hid ha
  rw [hsp]
  clear hsp ha
  gi_wp2
  gi_loopw [6] (fun p wr => ∃ k : Nat, p = .int .i64 (0 + sp * k) ∧ (k = 0 ∨ 0 + sp * ((k : Int) - 1) ≤ 2400) ∧ Rng.Stay O W.heap.size W wr ∧ J W.heap.size (monTo y m d sp k) wr) (fun p _ => (4000 - intOf p).toNat)
  case atStart => exact ⟨0, by simp, Or.inl rfl, Rng.Stay.refl _ _ _, HJ0.out⟩
  case round =>
    obtain ⟨k, rfl, hk, hst, hj⟩ := hrel
    have hkl := step_le hs1 k
    obtain ⟨x, hx⟩ : ∃ x, 0 + sp * (k : Int) = x := ⟨_, rfl⟩
    have hx0 : 0 ≤ x := by omega
    have HX := Lib.hid hx
    have HS := Lib.hid hst
    have HJ1 := Lib.hid hj
    have HK := Lib.hid hk
    have HKL := Lib.hid hkl
    rw [hx]
    clear hx hst hj hk hkl
    by_cases hle : x ≤ 2400
    · have ks' := stay_cell HS.out ks hO.2.1 hbs
      have hng : ¬ O 3 := fun h => by have := hO.2.2.2 _ h; omega
      have hA := add_any start y m d x ad _ HA.out (by omega) (by omega) (stay_cell HS.out hE hng hbe)
      obtain ⟨bb, hbb⟩ : ∃ bb, Cal.addB (Cal.kth y m x) d = bb := ⟨_, rfl⟩
      obtain ⟨vv, hvv⟩ : ∃ vv, Cal.addV (Cal.kth y m x) d = vv := ⟨_, rfl⟩
      have hmc : monC y m d x = if bb then [vv] else [] := by unfold monC; rw [hbb, hvv]
      rw [hbb, hvv] at hA
      have HAD := Lib.hid hA
      have HMC := Lib.hid hmc
      clear hA hbb hvv hmc
      cases bb with
      | false =>
        gi_wp2_with (refine ⟨trivial, ?_⟩; gi_at_call 204; refine (callsIn_wide.2 HAD.out).mono ?_; rintro e w1 ⟨rfl, q, rfl⟩)
        refine ⟨fun _ h => (by cases h), ?_⟩
        gi_wp2
        refine wpIn_wide.2 ?_
        have k0' := stay_cell (HS.out.trans (Rng.Stay.of_below (below_draw (Below.refl _ _) q))) k0 hO.1 hbr
        have k1' := stay_cell (HS.out.trans (Rng.Stay.of_below (below_draw (Below.refl _ _) q))) k1 hO.1 hbr
        have hb3 : Below wr.heap.size wr (wr.drewN q) := below_draw (Below.refl _ _) q
        have HB3 := Lib.hid hb3
        clear hb3
        generalize wr.drewN q = w3 at *
        go_quiet ((go_at_call 203; exact Calls.quiet_of_same ((months_any _ _).mono fun _ _ ⟨h1, h2⟩ => ⟨h1, h2⟩)))
        rw [HSP.out, wrap_small (n := sp) (by omega) (by omega), wrap_small (n := x + sp) (by omega) (by omega)]
        go_roundw
        case rel => (repeat apply Exists.intro); exact ⟨⟨k + 1, by rw [step_succ, HX.out], Or.inr (by rw [show ((k + 1 : Nat) : Int) - 1 = k by omega, HX.out]; exact hle), HS.out.trans (Rng.Stay.of_below (below_draw HB3.out _)), by rw [monTo_succ, HX.out, HMC.out]; exact hJ.below (Nat.le_refl _) (by simpa using HJ1.out) (below_draw HB3.out _)⟩, rfl⟩
        case measure => simp [intOf]; omega
      | true =>
        have hjd : ∀ q, J W.heap.size (monTo y m d sp k) (wr.drewN q) := fun q => hJ.below (Nat.le_refl _) HJ1.out (below_draw (Below.refl _ _) q)
        have hyd := fun q => HY.out W.heap.size (monTo y m d sp k) vv (wr.drewN q) (Nat.le_refl _) (hjd q) (by have := monTo_len y m d sp k; have := HX.out; have := HKL.out; omega)
        have HYD := Lib.hid hyd
        clear hjd hyd
        gi_wp2_with (refine ⟨trivial, ?_⟩; gi_at_call 204; refine (callsIn_wide.2 HAD.out).mono ?_; rintro e w1 ⟨rfl, q, rfl⟩; obtain ⟨f1, t1, a1, b1, hy1, hR1⟩ := HYD.out q)
        refine hR1.mono ?_
        rintro e W1 (⟨rfl, hJ1, hk1⟩ | ⟨rfl, hx1, hr1⟩)
        · have hst1 := HS.out.trans ((Rng.Stay.of_below (below_draw (Below.refl _ _) q)).trans hk1)
          have k0' := stay_cell hst1 k0 hO.1 hbr
          have k1' := stay_cell hst1 k1 hO.1 hbr
          have HJ2 := Lib.hid hJ1
          have HS1 := Lib.hid hst1
          clear hJ1 hst1 hk1
          gi_wp2
          refine wpIn_wide.2 ?_
          go_quiet ((go_at_call 203; exact Calls.quiet_of_same ((months_any _ _).mono fun _ _ ⟨h1, h2⟩ => ⟨h1, h2⟩)))
          rw [HSP.out, wrap_small (n := sp) (by omega) (by omega), wrap_small (n := x + sp) (by omega) (by omega)]
          go_roundw
          case rel => (repeat apply Exists.intro); exact ⟨⟨k + 1, by rw [step_succ, HX.out], Or.inr (by rw [show ((k + 1 : Nat) : Int) - 1 = k by omega, HX.out]; exact hle), HS1.out.trans (Rng.Stay.of_below (below_draw (Below.refl _ _) _)), by rw [monTo_succ, HX.out, HMC.out]; exact hJ.below (Nat.le_refl _) HJ2.out (below_draw (Below.refl _ _) _)⟩, rfl⟩
          case measure => simp [intOf]; omega
        · gi_wp2
          refine bodyPost_ret (results_none rfl _ _ _) rfl ?_
          exact ⟨⟨_, rfl⟩, W.heap.size, Nat.le_refl _, .inr ⟨monTo y m d sp k ++ [vv], by
            have := monTo_succ y m d sp k
            rw [HX.out, HMC.out] at this
            rw [show monTo y m d sp k ++ [vv] = monTo y m d sp (k + 1) from this.symm]
            exact mons_pre (by omega) (by rw [HX.out]; exact hle), hx1⟩⟩
    · gi_wp2
      go_end0
      exact ⟨⟨_, rfl⟩, W.heap.size, Nat.le_refl _, .inl (by rw [show mons y m d sp = monTo y m d sp k by rw [mons, steps_of (by omega) (by rw [HX.out]; omega) HK.out]; rfl]; exact HJ1.out)⟩
end Cand
end Go.Proofs.YtkhkhbeolhhomaaGreatDoor
