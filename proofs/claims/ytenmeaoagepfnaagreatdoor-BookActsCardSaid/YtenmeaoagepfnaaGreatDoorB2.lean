/- RefCand, RefAll, RefOne, RefDaysOf, BkROn: texts joined. -/
import Derived.Test.YtenmeaoagepfnaaGreatDoorA12
import Derived.Test.YtenmeaoagepfnaaGreatDoorA10
import Derived.Test.YtenmeaoagepfnaaGreatDoorA11
import Derived.Deep.CutRange
import Derived.Test.YtenmeaoagepfnaaGreatDoorBkRIds
import Derived.Test.YtenmeaoagepfnaaGreatDoorB3
section
/- The reference's isCandidate. -/
namespace Go.Proofs.YtenmeaoagepfnaaGreatDoor
open Go Go.RowKit Go.Shelf Lmd
namespace Cand
open Rul Day Er Ref

set_option maxRecDepth 100000 in
set_option maxHeartbeats 4000000 in
theorem isCandidate_any (start y m d x z n b : Int) (r : Ru) (v : Value) (w : World) (ha : Cal.At start y m d) (hx : Cal.At x z n b) (hle : start ≤ x) (he0 : 1 ≤ r.ev) (he1 : r.ev ≤ 100) (hr : Ints.Reads w v r.ds) (hl : r.ds.length < 50000) :
    Calls Tryz.prog 213 #[.int .i64 start, .agg #[.string r.fq, .int .i64 r.ev, v, .int .i64 r.ct, .int .i64 r.un], .int .i64 x] w fun e w' => e = .returned (.bool (candB start y m d z n b r x)) ∧ Below w.heap.size w w' := by
  obtain ⟨a, cap, rfl⟩ := hr.shape
  obtain ⟨q, hq⟩ : ∃ q, candB start y m d z n b r x = q := ⟨_, rfl⟩
  rw [hq]
  have HQ := Lib.hid hq
  have hbd := Cal.at_bd ha
  have hbx := Cal.at_bd hx
  have hB : Below w.heap.size w (w.alloc (.cells #[.string r.fq, .int .i64 r.ev, .slice a r.ds.length cap, .int .i64 r.ct, .int .i64 r.un] 32)) := (Below.refl _ w).alloc (Nat.le_refl _) _
  have HR1 := Lib.hid (hr.below hB)
  have HB := Lib.hid hB
  have HA := Lib.hid ha
  have HX := Lib.hid hx
  clear hq hr hB ha hx
  obtain ⟨fq, ev', ct, un, ds⟩ := r
  dsimp only at *
  by_cases h1 : fq.toList = [111, 110, 99, 101]
  · have hq : decide (x = start) = q := by rw [← HQ.out]; unfold candB; rw [if_pos h1]
    by_cases hxs : x = start
    · obtain rfl : q = true := by rw [← hq]; exact decide_eq_true hxs
      clear hq
      go_enter Tryz.func213, Tryz.ntmps213
      go_wp2
      go_ret
      exact ⟨by first | rfl | simp [hxs], HB.out⟩
    · obtain rfl : q = false := by rw [← hq]; exact decide_eq_false hxs
      clear hq
      have hxs' : (x == start) = false := by simpa using hxs
      go_enter Tryz.func213, Tryz.ntmps213
      go_wp2
      go_ret
      exact ⟨by first | rfl | simp [hxs], HB.out⟩
  have q1 : (fq.toList == [111, 110, 99, 101]) = false := by simpa using h1
  by_cases h2 : fq.toList = [100, 97, 105, 108, 121]
  · have hq : decide ((x - start) % ev' = 0) = q := by rw [← HQ.out]; unfold candB; rw [if_neg h1, if_pos h2]
    have HQ2 := Lib.hid hq
    clear hq h1 HQ
    go_enter Tryz.func213, Tryz.ntmps213
    go_wp2
    go_ret
    exact ⟨Ints.ret_bool' (by rw [← HQ2.out]; exact Bool.eq_iff_iff.2 (by simp)), HB.out⟩
  have q2 : (fq.toList == [100, 97, 105, 108, 121]) = false := by simpa using h2
  by_cases h3 : fq.toList = [119, 101, 101, 107, 108, 121]
  · have hq : (decide (((x - (x + 5) % 7 - (start - (start + 5) % 7)) / 7) % ev' = 0) && decide ((x + 5) % 7 ∈ wdays start ds)) = q := by rw [← HQ.out]; unfold candB; rw [if_neg h1, if_neg h2, if_pos h3]
    have HQ2 := Lib.hid hq
    clear hq h1 h2 HQ
    by_cases hwk : (x - (x + 5) % 7 - (start - (start + 5) % 7)) / 7 % ev' = 0
    · by_cases hz : ds = []
      · subst hz
        have hz : ([] : List Int) = [] := rfl
        have hq : (((x + 5) % 7 == (start + 5) % 7) : Bool) = q := by
          rw [← HQ2.out, decide_eq_true hwk, Bool.true_and]
          unfold wdays; rw [if_pos hz]
          exact Bool.eq_iff_iff.2 (by simp)
        have HQ3 := Lib.hid hq
        clear hq HQ2 hz
        simp only [List.length_nil] at *
        go_enter Tryz.func213, Tryz.ntmps213
        go_wp2
        go_ret
        exact ⟨Ints.ret_bool' HQ3.out, HB.out⟩
      · have hzl : 0 < ds.length := Nat.pos_of_ne_zero (fun h => hz (List.length_eq_zero_iff.1 h))
        have hq : decide ((x + 5) % 7 ∈ ds) = q := by
          rw [← HQ2.out, decide_eq_true hwk, Bool.true_and]
          unfold wdays; rw [if_neg hz]
        have hin := isIn_any ((x + 5) % 7) _ ds _ HR1.out (by omega)
        rw [hq] at hin
        have HIN := Lib.hid hin
        clear hq hin HQ2 hz
        go_enter Tryz.func213, Tryz.ntmps213
        go_wp2_with (go_at_call 96; refine HIN.out.mono ?_; rintro e1 w1 ⟨rfl, rfl⟩)
        go_ret
        exact ⟨rfl, HB.out⟩
    · obtain rfl : q = false := by rw [← HQ2.out, decide_eq_false hwk]; rfl
      clear HQ2
      go_enter Tryz.func213, Tryz.ntmps213
      go_wp2
      go_ret
      exact ⟨rfl, HB.out⟩
  have q3 : (fq.toList == [119, 101, 101, 107, 108, 121]) = false := by simpa using h3
  have hq : (decide (d = b) && (if fq.toList = [121, 101, 97, 114, 108, 121] then decide (n = m) && decide ((z - y) % ev' = 0) else decide ((12 * (z - y) + n - m) % ev' = 0))) = q := by rw [← HQ.out]; unfold candB; rw [if_neg h1, if_neg h2, if_neg h3]
  have HQ2 := Lib.hid hq
  clear hq h1 h2 h3 HQ
  have hok := Cal.ok_range HA.out.1
  have hok2 := Cal.ok_range HX.out.1
  by_cases hdb : d = b
  · by_cases h4 : fq.toList = [121, 101, 97, 114, 108, 121]
    · have hq : (decide (n = m) && decide ((z - y) % ev' = 0)) = q := by rw [← HQ2.out, decide_eq_true hdb, if_pos h4, Bool.true_and]
      have HQ3 := Lib.hid hq
      have hzy : 0 ≤ z - y := by
        by_cases hc : z < y
        · have := Cal.num_lt HX.out.1 HA.out.1 (by omega); have := HA.out.2; have := HX.out.2; omega
        · omega
      clear hq HQ2
      by_cases hnm : n = m
      · go_enter Tryz.func213, Tryz.ntmps213
        go_wp2_with fail
        refine (dateOf_at _ _ _ _ _ HA.out).mono ?_
        rintro e1 w1 ⟨rfl, rfl⟩
        go_wp2_with fail
        refine (dateOf_at _ _ _ _ _ HX.out).mono ?_
        rintro e1 w1 ⟨rfl, rfl⟩
        go_wp2
        go_ret
        exact ⟨Ints.ret_bool' (by rw [← HQ3.out, decide_eq_true hnm, Bool.true_and]; exact Bool.eq_iff_iff.2 (by simp)), HB.out⟩
      · have hnm' : (n == m) = false := by simpa using hnm
        obtain rfl : q = false := by rw [← HQ3.out, decide_eq_false hnm]; rfl
        go_enter Tryz.func213, Tryz.ntmps213
        go_wp2_with fail
        refine (dateOf_at _ _ _ _ _ HA.out).mono ?_
        rintro e1 w1 ⟨rfl, rfl⟩
        go_wp2_with fail
        refine (dateOf_at _ _ _ _ _ HX.out).mono ?_
        rintro e1 w1 ⟨rfl, rfl⟩
        go_wp2
        go_ret
        exact ⟨by first | rfl | simp [hnm], HB.out⟩
    · have hq : decide ((12 * (z - y) + n - m) % ev' = 0) = q := by rw [← HQ2.out, decide_eq_true hdb, if_neg h4, Bool.true_and]
      have HQ3 := Lib.hid hq
      have q4 : (fq.toList == [121, 101, 97, 114, 108, 121]) = false := by simpa using h4
      have hk0 : 0 ≤ 12 * (z - y) + n - m := by
        by_cases hc : z < y ∨ z = y ∧ n < m
        · have := Cal.num_lt HX.out.1 HA.out.1 (by omega); have := HA.out.2; have := HX.out.2; omega
        · omega
      clear hq HQ2 h4
      go_enter Tryz.func213, Tryz.ntmps213
      go_wp2_with fail
      refine (dateOf_at _ _ _ _ _ HA.out).mono ?_
      rintro e1 w1 ⟨rfl, rfl⟩
      go_wp2_with fail
      refine (dateOf_at _ _ _ _ _ HX.out).mono ?_
      rintro e1 w1 ⟨rfl, rfl⟩
      go_wp2
      go_ret
      exact ⟨Ints.ret_bool' (by rw [← HQ3.out]; exact Bool.eq_iff_iff.2 (by simp)), HB.out⟩
  · have hdb' : (d == b) = false := by simpa using hdb
    obtain rfl : q = false := by rw [← HQ2.out, decide_eq_false hdb]; rfl
    clear HQ2
    go_enter Tryz.func213, Tryz.ntmps213
    go_wp2_with fail
    refine (dateOf_at _ _ _ _ _ HA.out).mono ?_
    rintro e1 w1 ⟨rfl, rfl⟩
    go_wp2_with fail
    refine (dateOf_at _ _ _ _ _ HX.out).mono ?_
    rintro e1 w1 ⟨rfl, rfl⟩
    go_wp2
    go_ret
    exact ⟨rfl, HB.out⟩
end Cand
end Go.Proofs.YtenmeaoagepfnaaGreatDoor
end

section
/- The reference's AllDays, IsOne. -/
namespace Go.Proofs.YtenmeaoagepfnaaGreatDoor
open Go Go.RowKit Go.Shelf Lmd
namespace Cand
open Rul Day Er Ref

theorem own_kept {w w' : World} {base : Nat} {v : Value} {k : Nat} {xs : List Value} (h : w.ownsRow base 3 1 v k xs) (hb : Below w.heap.size w w') : w'.ownsRow base 3 1 v k xs := by
  refine h.kept (Rng.grownBy_of_below hb) ?_
  cases hv : v.ownBlock with
  | none => exact .inl rfl
  | some g => exact .inr (by simp)
theorem all_one {start y m d : Int} {r : Ru} (h : r.fq.toList = [111, 110, 99, 101]) : cands start y m d r = [start] := by unfold cands; rw [if_pos h]

set_option maxRecDepth 100000 in
set_option maxHeartbeats 8000000 in
theorem allDays_any (start y m d tt : Int) (r : Ru) (v : Value) (w : World) (ha : Cal.At start y m d) (hbad : bad r = 0) (hr : Ints.Reads w v r.ds) (hl : r.ds.length < 50000) :
    Calls Tryz.prog 214 #[.int .i64 start, .agg #[.string r.fq, .int .i64 r.ev, v, .int .i64 r.ct, .int .i64 r.un], .int .i64 tt] w fun e w' => ∃ v', e = .returned v' ∧ Ints.Reads w' v' ((daysOf r.ct r.un (cands start y m d r)).filter fun x => decide (x ≤ tt)) ∧ Below w.heap.size w w' := by
  obtain ⟨i0, hi0, hz0, hz1, hz2⟩ := info_parts int_info
  obtain ⟨a, cap, rfl⟩ := hr.shape
  obtain ⟨p1, p2, p3, p4, p5⟩ := bad_parts hbad
  obtain ⟨⟨p6, p7⟩, ⟨p8, p9⟩, p10, p11⟩ := bound_parts p2
  have hbd := Cal.at_bd ha
  have hrise := cands_rise (start := start) (y := y) (m := m) (d := d) p6 p5 p3
  have hbdc := cands_bd ha p6
  have hgap : ∀ x ∈ cands start y m d r, ∀ z ∈ cands start y m d r, x < z → x + stepB r ≤ z := fun x hx z hz h => cands_gap p6 hx hz h
  have hone : r.fq.toList = [111, 110, 99, 101] → cands start y m d r = [start] := all_one
  have hcand : ∀ x z n b, Cal.At x z n b → start ≤ x → ∀ W, Below w.heap.size w W → Calls Tryz.prog 213 #[.int .i64 start, .agg #[.string r.fq, .int .i64 r.ev, .slice a r.ds.length cap, .int .i64 r.ct, .int .i64 r.un], .int .i64 x] W fun e w' => e = .returned (.bool (decide (x ∈ cands start y m d r))) ∧ Below W.heap.size W w' := fun x z n b hx hle W hW => by
    have := isCandidate_any start y m d x z n b r _ W ha hx hle p6 p7 (hr.below hW) hl
    have e : candB start y m d z n b r x = decide (x ∈ cands start y m d r) := Bool.eq_iff_iff.2 (by rw [candB_iff ha hx p6 p3 hle]; simp)
    rw [e] at this
    exact this
  obtain ⟨C, hC⟩ : ∃ C, cands start y m d r = C := ⟨_, rfl⟩
  rw [hC] at hrise hbdc hgap hone hcand ⊢
  obtain ⟨st, hst⟩ : ∃ st, stepB r = st := ⟨_, rfl⟩
  have hst1 : 1 ≤ st ∧ st ≤ 365 := by rw [← hst]; unfold stepB; split <;> (try split) <;> omega
  have hstep := fun W => stepOf_any r (.slice a r.ds.length cap) W
  rw [hst] at hgap hstep
  have hlen : ∀ dd : Int, dd ≤ 73500 → ((lows C dd).length : Int) ≤ 73500 := fun dd hdd => by
    have hn : ∀ (l : List Int) (lo : Int), l.Pairwise (· < ·) → (∀ x ∈ l, lo ≤ x ∧ x ≤ 73048) → lo ≤ 73049 → (l.length : Int) ≤ 73049 - lo := by
      intro l
      induction l with
      | nil => intro lo _ _ h; simp; omega
      | cons x xs ih =>
        intro lo hp hb hlo
        have hx := hb x (by simp)
        have := ih (x + 1) (List.pairwise_cons.1 hp).2 (fun z hz => ⟨by have := (List.pairwise_cons.1 hp).1 z hz; omega, (hb z (by simp [hz])).2⟩) (by omega)
        simp; omega
    have := hn (lows C dd) 0 (lows_rise hrise) (fun x hx => by have := hbdc x (lows_mem.1 hx).1; omega) (by omega)
    omega
  obtain ⟨W1, hW1⟩ : ∃ W1, w.alloc (.cells #[.string r.fq, .int .i64 r.ev, .slice a r.ds.length cap, .int .i64 r.ct, .int .i64 r.un] 32) = W1 := ⟨_, rfl⟩
  have hB : Below w.heap.size w W1 := by rw [← hW1]; exact (Below.refl _ w).alloc (Nat.le_refl _) _
  have hz1' : W1.heap.size = w.heap.size + 1 := by rw [← hW1]; simp
  have hx := heap_new w (.cells #[.string r.fq, .int .i64 r.ev, .slice a r.ds.length cap, .int .i64 r.ct, .int .i64 r.un] 32)
  rw [hW1] at hx
  have HX := Lib.hid hx
  have HB := Lib.hid hB
  have HCAND := Lib.hid hcand
  have HSTEP := Lib.hid hstep
  have HRISE := Lib.hid hrise
  have HBDC := Lib.hid hbdc
  have HGAP := Lib.hid hgap
  have HONE := Lib.hid hone
  have HLEN := Lib.hid hlen
  have HST := Lib.hid hst
  have hlow0 : lows C start = [] := lows_start (fun x hx => (hbdc x hx).1)
  have HLOW0 := Lib.hid hlow0
  clear hx hB hcand hstep hrise hbdc hgap hone hlen hst hC ha hr p1 p2 p3 p4 p5 hbad hlow0
  go_enter Tryz.func214, Tryz.ntmps214
  go_wp2_with fail
  try rw [hW1]
  clear hW1
  go_loopw [7, 8] (fun v7 v8 wr => ∃ dd : Int, v8 = .int .i64 dd ∧ (start ≤ dd ∧ dd ≤ 73500) ∧ (∃ a7 c7, v7 = .slice a7 (lows C dd).length c7) ∧ wr.ownsRow W1.heap.size 3 1 v7 (lows C dd).length (cellsOf (lows C dd)) ∧ Below W1.heap.size W1 wr ∧ Goes r.ct r.un (lows C dd) ∧ ∀ x ∈ lows C dd, x ≤ tt) (fun _ v8 _ => (74000 - intOf v8).toNat)
  case atStart => exact ⟨start, rfl, ⟨by omega, by omega⟩, ⟨none, 0, by rw [HLOW0.out]; rfl⟩, by rw [HLOW0.out]; exact ⟨by simp [cellsOf], .inl ⟨rfl, rfl⟩⟩, Below.refl _ _, by rw [HLOW0.out]; exact goes_nil _ _, by rw [HLOW0.out]; simp⟩
  case round =>
    obtain ⟨dd, rfl, ⟨hd0, hd1⟩, ⟨a7, c7, rfl⟩, hown, hbr, hgo, htt⟩ := hrel
    have hrx : wr.heap[w.heap.size]? = some (.cells #[.string r.fq, .int .i64 r.ev, .slice a r.ds.length cap, .int .i64 r.ct, .int .i64 r.un] 32) := by rw [hbr.block _ (by omega)]; exact HX.out
    obtain ⟨q0, q1, q2, q3, q4, _⟩ := cells5 hrx
    have hfin : ((r.un ≠ -1 ∧ r.un < dd) ∨ (0 < r.ct ∧ r.ct ≤ (lows C dd).length) ∨ tt < dd ∨ ∀ x ∈ C, x < dd) → (daysOf r.ct r.un C).filter (fun x => decide (x ≤ tt)) = lows C dd := fun h => all_end HRISE.out hgo htt h
    have hlen := HLEN.out dd hd1
    obtain ⟨L, hL⟩ : ∃ L, lows C dd = L := ⟨_, rfl⟩
    rw [hL] at hown hgo htt hfin hlen ⊢
    have hbw : Below w.heap.size w wr := HB.out.trans (hbr.mono (by omega))
    have hsr := hbr.size
    have HBW := Lib.hid hbw
    have HBR := Lib.hid hbr
    have HOWN := Lib.hid hown
    have HGO := Lib.hid hgo
    have HTT := Lib.hid htt
    have HFIN := Lib.hid hfin
    have HL := Lib.hid hL
    clear hown hbr hgo htt hfin hL hrx hbw
    by_cases h1 : dd ≤ tt
    case neg =>
      have hf := HFIN.out (.inr (.inr (.inl (by omega))))
      have HF := Lib.hid hf
      clear hf
      go_wp2
      go_ret
      exact ⟨_, rfl, by rw [HF.out]; exact reads_own HOWN.out, HBW.out⟩
    by_cases h2 : dd ≤ 73048
    case neg =>
      have hf := HFIN.out (.inr (.inr (.inr (fun x hx => by have := HBDC.out x hx; omega))))
      have HF := Lib.hid hf
      clear hf
      go_wp2
      go_ret
      exact ⟨_, rfl, by rw [HF.out]; exact reads_own HOWN.out, HBW.out⟩
    by_cases h3 : 0 ≤ r.un ∧ r.un < dd
    · obtain ⟨h3a, h3b⟩ := h3
      have hf := HFIN.out (.inl ⟨by omega, h3b⟩)
      have HF := Lib.hid hf
      clear hf
      go_wp2
      go_ret
      exact ⟨_, rfl, by rw [HF.out]; exact reads_own HOWN.out, HBW.out⟩
    by_cases h4 : 0 < r.ct ∧ r.ct ≤ (L.length : Int)
    · obtain ⟨h4a, h4b⟩ := h4
      have hf := HFIN.out (.inr (.inl ⟨h4a, h4b⟩))
      have HF := Lib.hid hf
      clear hf
      by_cases h5 : 0 ≤ r.un
      · have h6 : dd ≤ r.un := by omega
        go_wp2
        go_ret
        exact ⟨_, rfl, by rw [HF.out]; exact reads_own HOWN.out, HBW.out⟩
      · go_wp2
        go_ret
        exact ⟨_, rfl, by rw [HF.out]; exact reads_own HOWN.out, HBW.out⟩
    have hstop : stopB r.ct r.un L.length dd = false := by
      simp only [stopB, under, Bool.or_eq_false_iff, decide_eq_false_iff_not, Bool.not_eq_false', decide_eq_true_eq]
      have := HGO.out.1
      refine ⟨fun h => h4 ⟨h.1, by omega⟩, ?_⟩
      by_cases e : r.un = -1
      · exact .inl e
      · exact .inr (by by_cases e2 : r.un < dd; exact absurd ⟨by omega, e2⟩ h3; omega)
    have HSTOP := Lib.hid hstop
    obtain ⟨z, n, b, hat⟩ := Cal.at_exists dd (by omega) (by omega)
    have hc := HCAND.out dd z n b hat hd0 wr HBW.out
    have hdisj : (0 ≤ r.un ∧ dd ≤ r.un) ∨ r.un < 0 := by
      by_cases e : 0 ≤ r.un
      · exact .inl ⟨e, by by_cases e2 : r.un < dd; exact absurd ⟨e, e2⟩ h3; omega⟩
      · exact .inr (by omega)
    have hdisj2 : (0 < r.ct ∧ (L.length : Int) < r.ct) ∨ r.ct ≤ 0 := by
      by_cases e : 0 < r.ct
      · exact .inl ⟨e, by by_cases e2 : r.ct ≤ (L.length : Int); exact absurd ⟨e, e2⟩ h4; omega⟩
      · exact .inr (by omega)
    clear h3 h4 hstop hat
    by_cases hin : dd ∈ C
    · rw [decide_eq_true hin] at hc
      have hyes := lows_yes HRISE.out hin (by omega : 0 < st) (fun x hx h => HGAP.out dd hin x hx h)
      rw [HL.out] at hyes
      have HYES := Lib.hid hyes
      have HC := Lib.hid hc
      clear hc hin hyes
      rcases hdisj with ⟨d1, d2⟩ | d1 <;> rcases hdisj2 with ⟨d3, d4⟩ | d3
      all_goals (
        go_wp2_with fail
        refine HC.out.mono ?_
        rintro e1 wa ⟨rfl, hba⟩
        have hoa := own_kept HOWN.out hba
        have hbra := HBR.out.trans (hba.mono hsr)
        have hsa := hbra.size
        have HOA := Lib.hid hoa
        have HBRA := Lib.hid hbra
        clear hoa hbra hba
        go_wp2_with (at_builtin
                     refine wpList_append_own _ rfl (.tmp 44) (.tmp 46) _ rfl W1.heap.size 3 i0 _ 1 8 Tryz.underlying30 hi0 hz0 hz1 hz2 rfl (by omega) (.slice a7 L.length c7) L.length (cellsOf L) rfl
                       (HOA.out.alloc _) ⟨wa.heap.size, 0, none⟩ 1 1 [.int .i64 dd] rfl rfl
                       (fun j u hu => by
                         cases j with
                         | zero => simp at hu; subst hu; exact (Boxed.new wa _ _).cell
                         | succ j => simp at hu) (fun u hu => by simp at hu; subst hu; rfl) (by simp only [maxLen]; omega) (by omega) (by simp; omega) ?_
                     intro v1 wb hown' hg hnil
                     have hbb : Below W1.heap.size wa wb := ((Below.refl _ wa).alloc hsa _).grown hg (by simp; omega) (fun j ej => ownBlock_ge HOA.out ej)
                     obtain ⟨a1, c1, e1⟩ : ∃ a1 c1, v1 = .slice a1 (L.length + 1) c1 := by
                       have h3 := reads_own (xs := L ++ [dd]) (by rw [cellsOf_snoc, List.length_append]; exact hown')
                       obtain ⟨a1, c1, e⟩ := h3.shape
                       exact ⟨a1, c1, by rw [e, List.length_append]; rfl⟩
                     subst e1
                     have hbrb := HBRA.out.trans hbb
                     have hrx : wb.heap[w.heap.size]? = some (.cells #[.string r.fq, .int .i64 r.ev, .slice a r.ds.length cap, .int .i64 r.ct, .int .i64 r.un] 32) := by rw [hbrb.block _ (by omega)]; exact HX.out
                     obtain ⟨z0, z1, z2, z3, z4, _⟩ := cells5 hrx
                     have HOB := Lib.hid hown'
                     have HBRB := Lib.hid hbrb
                     clear hown' hg hnil hbb hbrb hrx)
        refine (HSTEP.out wb).mono ?_
        rintro e2 wc ⟨rfl, hbc⟩
        have hoc := own_kept HOB.out hbc
        have hbrc := HBRB.out.trans (hbc.mono HBRB.out.size)
        have HOC := Lib.hid hoc
        have HBRC := Lib.hid hbrc
        clear hoc hbrc hbc
        go_wp2
        go_roundw
        case rel => exact ⟨dd + st, rfl, ⟨by omega, by omega⟩, ⟨a1, c1, by rw [HYES.out, List.length_append]; rfl⟩, by rw [HYES.out, cellsOf_snoc, List.length_append]; exact HOC.out, HBRC.out, by rw [HYES.out]; exact goes_snoc HGO.out HSTOP.out, fun x hx => by
            rw [HYES.out] at hx
            rcases List.mem_append.1 hx with hx | hx
            · exact HTT.out x hx
            · simp at hx; omega⟩
        case measure => simp [intOf]; omega)
    · rw [decide_eq_false hin] at hc
      have hno := lows_no HRISE.out hin
      rw [HL.out] at hno
      have hf1 : r.fq.toList = [111, 110, 99, 101] → (daysOf r.ct r.un C).filter (fun x => decide (x ≤ tt)) = L := fun e => HFIN.out (.inr (.inr (.inr (fun x hx => by
        rw [HONE.out e] at hx hin
        simp at hx hin
        omega))))
      have HF1 := Lib.hid hf1
      have HNO := Lib.hid hno
      have HC := Lib.hid hc
      clear hc hin hno hf1
      by_cases ho : r.fq.toList = [111, 110, 99, 101]
      · have hf := HF1.out ho
        have HF := Lib.hid hf
        clear hf
        rcases hdisj with ⟨d1, d2⟩ | d1 <;> rcases hdisj2 with ⟨d3, d4⟩ | d3
        all_goals (
          go_wp2_with fail
          refine HC.out.mono ?_
          rintro e1 wa ⟨rfl, hba⟩
          obtain ⟨z0, z1, z2, z3, z4, _⟩ := cells5 (show wa.heap[w.heap.size]? = some (.cells #[.string r.fq, .int .i64 r.ev, .slice a r.ds.length cap, .int .i64 r.ct, .int .i64 r.un] 32) by rw [hba.block _ (by omega), HBR.out.block _ (by omega)]; exact HX.out)
          have HOA := Lib.hid (own_kept HOWN.out hba)
          have HBA := Lib.hid (HBW.out.trans (hba.mono HBW.out.size))
          clear hba
          go_wp2
          go_ret
          exact ⟨_, rfl, by rw [HF.out]; exact reads_own HOA.out, HBA.out⟩)
      · have ho' : (r.fq.toList == [111, 110, 99, 101]) = false := by simpa using ho
        clear ho HF1
        rcases hdisj with ⟨d1, d2⟩ | d1 <;> rcases hdisj2 with ⟨d3, d4⟩ | d3
        all_goals (
          go_wp2_with fail
          refine HC.out.mono ?_
          rintro e1 wa ⟨rfl, hba⟩
          obtain ⟨z0, z1, z2, z3, z4, _⟩ := cells5 (show wa.heap[w.heap.size]? = some (.cells #[.string r.fq, .int .i64 r.ev, .slice a r.ds.length cap, .int .i64 r.ct, .int .i64 r.un] 32) by rw [hba.block _ (by omega), HBR.out.block _ (by omega)]; exact HX.out)
          have HOA := Lib.hid (own_kept HOWN.out hba)
          have HBRA := Lib.hid (HBR.out.trans (hba.mono hsr))
          clear hba
          go_wp2
          go_roundw
          case rel => exact ⟨dd + 1, rfl, ⟨by omega, by omega⟩, ⟨a7, c7, by rw [HNO.out]⟩, by rw [HNO.out]; exact HOA.out, HBRA.out, by rw [HNO.out]; exact HGO.out, by rw [HNO.out]; exact HTT.out⟩
          case measure => simp [intOf]; omega)
end Cand
end Go.Proofs.YtenmeaoagepfnaaGreatDoor
end

section
/- The reference's IsOne. -/
namespace Go.Proofs.YtenmeaoagepfnaaGreatDoor
open Go Go.RowKit Go.Shelf Lmd
namespace Cand
open Rul Day Er Ref

set_option maxRecDepth 100000 in
set_option maxHeartbeats 4000000 in
theorem isOne_any (start y m d dd : Int) (r : Ru) (v : Value) (w : World) (ha : Cal.At start y m d) (hbad : bad r = 0) (hr : Ints.Reads w v r.ds) (hl : r.ds.length < 50000) :
    Calls Tryz.prog 162 #[.int .i64 start, .agg #[.string r.fq, .int .i64 r.ev, v, .int .i64 r.ct, .int .i64 r.un], .int .i64 dd] w fun e w' => e = .returned (.bool (decide (dd ∈ daysOf r.ct r.un (cands start y m d r)))) ∧ Below w.heap.size w w' := by
  obtain ⟨a, cap, rfl⟩ := hr.shape
  obtain ⟨p1, p2, p3, p4, p5⟩ := bad_parts hbad
  obtain ⟨⟨p6, p7⟩, ⟨p8, p9⟩, p10, p11⟩ := bound_parts p2
  have hbd := Cal.at_bd ha
  have hrise := cands_rise (start := start) (y := y) (m := m) (d := d) p6 p5 p3
  have hbdc := cands_bd ha p6
  obtain ⟨W1, hW1⟩ : ∃ W1, w.alloc (.cells #[.string r.fq, .int .i64 r.ev, .slice a r.ds.length cap, .int .i64 r.ct, .int .i64 r.un] 32) = W1 := ⟨_, rfl⟩
  have hB : Below w.heap.size w W1 := by rw [← hW1]; exact (Below.refl _ w).alloc (Nat.le_refl _) _
  have hz1' : W1.heap.size = w.heap.size + 1 := by rw [← hW1]; simp
  have hx := heap_new w (.cells #[.string r.fq, .int .i64 r.ev, .slice a r.ds.length cap, .int .i64 r.ct, .int .i64 r.un] 32)
  rw [hW1] at hx
  have hcand : ∀ z n b, Cal.At dd z n b → start ≤ dd → Calls Tryz.prog 213 #[.int .i64 start, .agg #[.string r.fq, .int .i64 r.ev, .slice a r.ds.length cap, .int .i64 r.ct, .int .i64 r.un], .int .i64 dd] W1 fun e w' => e = .returned (.bool (decide (dd ∈ cands start y m d r))) ∧ Below W1.heap.size W1 w' := fun z n b hx hle => by
    have := isCandidate_any start y m d dd z n b r _ W1 ha hx hle p6 p7 (hr.below hB) hl
    have e : candB start y m d z n b r dd = decide (dd ∈ cands start y m d r) := Bool.eq_iff_iff.2 (by rw [candB_iff ha hx p6 p3 hle]; simp)
    rw [e] at this
    exact this
  have hall : ∀ W, Below w.heap.size w W → Calls Tryz.prog 214 #[.int .i64 start, .agg #[.string r.fq, .int .i64 r.ev, .slice a r.ds.length cap, .int .i64 r.ct, .int .i64 r.un], .int .i64 dd] W fun e w' => ∃ v', e = .returned v' ∧ Ints.Reads w' v' ((daysOf r.ct r.un (cands start y m d r)).filter fun x => decide (x ≤ dd)) ∧ Below W.heap.size W w' :=
    fun W hW => allDays_any start y m d dd r _ W ha hbad (hr.below hW) hl
  obtain ⟨C, hC⟩ : ∃ C, cands start y m d r = C := ⟨_, rfl⟩
  rw [hC] at hrise hbdc hcand hall ⊢
  obtain ⟨q, hq⟩ : ∃ q, decide (dd ∈ daysOf r.ct r.un C) = q := ⟨_, rfl⟩
  rw [hq]
  have hlenf : ((daysOf r.ct r.un C).filter fun x => decide (x ≤ dd)).length ≤ 1000000000 := by
    have h1 := List.length_filter_le (fun x => decide (x ≤ dd)) (daysOf r.ct r.un C)
    have h2 := (daysOf_sub r.ct r.un C).length_le
    have hn : ∀ (l : List Int) (lo : Int), l.Pairwise (· < ·) → (∀ x ∈ l, lo ≤ x ∧ x ≤ 73048) → lo ≤ 73049 → (l.length : Int) ≤ 73049 - lo := by
      intro l
      induction l with
      | nil => intro lo _ _ h; simp; omega
      | cons x xs ih =>
        intro lo hp hb hlo
        have hx := hb x (by simp)
        have := ih (x + 1) (List.pairwise_cons.1 hp).2 (fun z hz => ⟨by have := (List.pairwise_cons.1 hp).1 z hz; omega, (hb z (by simp [hz])).2⟩) (by omega)
        simp; omega
    have := hn C 0 hrise (fun x hx => by have := hbdc x hx; omega) (by omega)
    omega
  have HQ := Lib.hid hq
  have HX := Lib.hid hx
  have HB := Lib.hid hB
  have HCAND := Lib.hid hcand
  have HALL := Lib.hid hall
  have HRISE := Lib.hid hrise
  have HBDC := Lib.hid hbdc
  have HLF := Lib.hid hlenf
  clear hx hB hcand hall hrise hbdc hC ha hr p1 p2 p3 p4 p5 hbad hq hlenf
  have no : dd ∉ C → q = false := fun h => by rw [← HQ.out]; exact decide_eq_false (fun hm => h (one_out hm).1)
  have NO := Lib.hid no
  clear no
  obtain ⟨q0, q1, q2, q3, q4, _⟩ := cells5 HX.out
  by_cases h1 : dd < start
  · obtain rfl := NO.out (fun hm => by have := HBDC.out _ hm; omega)
    go_enter Tryz.func162, Tryz.ntmps162
    go_wp2
    go_ret
    exact ⟨rfl, by first | exact HB.out | (rw [hW1]; exact HB.out)⟩
  by_cases h2 : 73048 < dd
  · obtain rfl := NO.out (fun hm => by have := HBDC.out _ hm; omega)
    go_enter Tryz.func162, Tryz.ntmps162
    go_wp2
    go_ret
    exact ⟨rfl, by first | exact HB.out | (rw [hW1]; exact HB.out)⟩
  obtain ⟨z, n, b, hat⟩ := Cal.at_exists dd (by omega) (by omega)
  have hc := HCAND.out z n b hat (by omega)
  clear hat HCAND
  by_cases hin : dd ∈ C
  case neg =>
    rw [decide_eq_false hin] at hc
    obtain rfl := NO.out hin
    have HC := Lib.hid hc
    clear hc
    go_enter Tryz.func162, Tryz.ntmps162
    go_wp2_with fail
    refine HC.out.mono ?_
    rintro e1 wa ⟨rfl, hba⟩
    have HF := Lib.hid (HB.out.trans (hba.mono (by omega)))
    clear hba
    go_wp2
    go_ret
    exact ⟨rfl, HF.out⟩
  rw [decide_eq_true hin] at hc
  have HC := Lib.hid hc
  clear hc
  by_cases h3 : 0 ≤ r.un ∧ r.un < dd
  · obtain ⟨h3a, h3b⟩ := h3
    obtain rfl : q = false := by
      rw [← HQ.out]
      exact decide_eq_false (fun hm => by
        have := (one_out hm).2
        simp only [under, decide_eq_true_eq] at this
        omega)
    go_enter Tryz.func162, Tryz.ntmps162
    go_wp2_with fail
    refine HC.out.mono ?_
    rintro e1 wa ⟨rfl, hba⟩
    obtain ⟨z0, z1, z2, z3, z4, _⟩ := cells5 (row_below HX.out hba)
    have HF := Lib.hid (HB.out.trans (hba.mono (by omega)))
    clear hba
    go_wp2
    go_ret
    exact ⟨rfl, HF.out⟩
  have hu : under r.un dd = true := by
    simp only [under, decide_eq_true_eq]
    by_cases e : r.un = -1
    · exact .inl e
    · exact .inr (by by_cases e2 : r.un < dd; exact absurd ⟨by omega, e2⟩ h3; omega)
  have hdisj : (0 ≤ r.un ∧ dd ≤ r.un) ∨ r.un < 0 := by
    by_cases e : 0 ≤ r.un
    · exact .inl ⟨e, by by_cases e2 : r.un < dd; exact absurd ⟨e, e2⟩ h3; omega⟩
    · exact .inr (by omega)
  have HU := Lib.hid hu
  clear hu h3
  by_cases h4 : r.ct = 0
  · obtain rfl : q = true := by rw [← HQ.out]; exact decide_eq_true (one_in HRISE.out hin HU.out (by omega))
    have H4 := Lib.hid h4
    clear h4
    rcases hdisj with ⟨d1, d2⟩ | d1
    all_goals (
      go_enter Tryz.func162, Tryz.ntmps162
      go_wp2_with fail
      refine HC.out.mono ?_
      rintro e1 wa ⟨rfl, hba⟩
      obtain ⟨z0, z1, z2, z3, z4, _⟩ := cells5 (row_below HX.out hba)
      have HF := Lib.hid (HB.out.trans (hba.mono (by omega)))
      clear hba
      have h4 := H4.out
      go_wp2
      go_ret
      exact ⟨rfl, HF.out⟩)
  · have hq2 : decide (dd ∈ (daysOf r.ct r.un C).filter fun x => decide (x ≤ dd)) = q := by rw [← HQ.out]; exact Bool.eq_iff_iff.2 (by simp)
    have HQ2 := Lib.hid hq2
    clear hq2
    rcases hdisj with ⟨d1, d2⟩ | d1
    all_goals (
      go_enter Tryz.func162, Tryz.ntmps162
      go_wp2_with fail
      refine HC.out.mono ?_
      rintro e1 wa ⟨rfl, hba⟩
      obtain ⟨z0, z1, z2, z3, z4, _⟩ := cells5 (row_below HX.out hba)
      have hbw := HB.out.trans (hba.mono (by omega))
      have hal := HALL.out wa hbw
      have hsw := hbw.size
      have HAL := Lib.hid hal
      have HBW := Lib.hid hbw
      clear hba hbw hal
      go_wp2_with fail
      refine HAL.out.mono ?_
      rintro e2 wb ⟨v', rfl, hrd, hbb⟩
      have hi := isIn_any dd v' _ wb hrd HLF.out
      rw [HQ2.out] at hi
      have HI := Lib.hid hi
      have HF := Lib.hid (HBW.out.trans (hbb.mono hsw))
      clear hi hrd hbb
      go_wp2_with fail
      refine HI.out.mono ?_
      rintro e3 wc ⟨rfl, rfl⟩
      go_wp2
      go_ret
      exact ⟨rfl, HF.out⟩)
end Cand
end Go.Proofs.YtenmeaoagepfnaaGreatDoor
end

section
/- The reference's isOwn, DaysOf, IsCovered. -/
namespace Go.Proofs.YtenmeaoagepfnaaGreatDoor
open Go Go.RowKit Go.Shelf Lmd
attribute [local go_sem] Oper.semAt_some
namespace Evt
open Rul Day Cand Er

theorem in_snoc {e : Ev} {L : List Int} (h : Fit e L) {a d : Int} (hd : a ≤ d) : daysIn e L a d = daysIn e L a (d - 1) ++ (if occB e L d = true then [d] else []) := by
  refine (in_eq h ?_ fun x => ?_).symm
  · rw [List.pairwise_append]
    refine ⟨in_rise _ _ _ _, by split <;> simp, fun p hp q hq => ?_⟩
    have g1 := (in_mem h).1 hp
    split at hq
    · simp at hq; omega
    · simp at hq
  · rw [List.mem_append, in_mem h]
    constructor
    · rintro (⟨g1, g2, g3⟩ | g)
      · exact ⟨g1, by omega, g3⟩
      · split at g
        · rename_i ho
          simp at g; subst g; exact ⟨hd, Int.le_refl _, ho⟩
        · simp at g
    · rintro ⟨g1, g2, g3⟩
      by_cases hx : x = d
      · subst hx; right; rw [if_pos g3]; simp
      · exact .inl ⟨g1, by omega, g3⟩
theorem in_none {e : Ev} {L : List Int} (h : Fit e L) (a : Int) : daysIn e L a (a - 1) = [] := by
  rw [List.eq_nil_iff_forall_not_mem]
  intro x hx
  have := (in_mem h).1 hx
  omega
theorem in_done {e : Ev} {L : List Int} (h : Fit e L) {a b F d : Int} (hF : F = if a < 0 then 0 else a) (h1 : d = F ∨ d ≤ b + 1) (h2 : b < d ∨ 73048 < d) : daysIn e L F (d - 1) = daysIn e L a b := by
  refine in_eq h (in_rise _ _ _ _) fun x => ?_
  rw [in_mem h]
  constructor
  · rintro ⟨g1, g2, g3⟩
    have := occ_day h g3
    exact ⟨by split at hF <;> omega, by omega, g3⟩
  · rintro ⟨g1, g2, g3⟩
    have := occ_day h g3
    exact ⟨by split at hF <;> omega, by omega, g3⟩
theorem in_pre {e : Ev} {L : List Int} (h : Fit e L) {a b F d : Int} (hF : F = if a < 0 then 0 else a) (hd : d ≤ b) : (daysIn e L F d).length ≤ (daysIn e L a b).length := by
  refine Cpt.len_sub (in_rise _ _ _ _) fun x hx => ?_
  obtain ⟨g1, g2, g3⟩ := (in_mem h).1 hx
  exact (in_mem h).2 ⟨by split at hF <;> omega, by omega, g3⟩
/-- is a day the target of a move of a day of the rule's -/
def toB (mv : List (Int × Int)) (L : List Int) (d : Int) : Bool := mv.any fun m => decide (m.2 = d) && decide (m.1 ∈ L)
def fromB (mv : List (Int × Int)) (d : Int) : Bool := mv.any fun m => decide (m.1 = d)
theorem occ_ref (e : Ev) (L : List Int) (d : Int) : occB e L d = (((decide (d ∈ L) && !decide (d ∈ e.sk)) && !fromB e.mv d) || toB e.mv L d) := by
  rw [Bool.eq_iff_iff, occ_iff]
  simp only [goneB, fromB, toB, froms, Bool.or_eq_true, Bool.and_eq_true, Bool.not_eq_true', decide_eq_true_eq, decide_eq_false_iff_not, List.any_eq_true, List.any_eq_false, Bool.or_eq_false_iff]
  refine or_congr ?_ Iff.rfl
  constructor
  · rintro ⟨h1, h2, h3⟩
    refine ⟨⟨h1, by intro h; simp [h] at h2⟩, fun m hm h => ?_⟩
    have : (e.mv.map Prod.fst).contains d = true := by rw [List.contains_iff_mem, List.mem_map]; exact ⟨m, hm, h⟩
    rw [h3] at this; cases this
  · rintro ⟨⟨h1, h2⟩, h3⟩
    refine ⟨h1, by rw [← Bool.not_eq_true, List.contains_iff_mem]; exact h2, ?_⟩
    rw [← Bool.not_eq_true, List.contains_iff_mem, List.mem_map]
    rintro ⟨m, hm, h⟩
    exact h3 m hm h
theorem take_snoc_ml {xs : List (Int × Int)} {k : Nat} (h : k < xs.length) : xs.take (k + 1) = xs.take k ++ [ml xs k] := by
  rw [List.take_succ_eq_append_getElem h, ml_lt h]
theorem toB_snoc {mv : List (Int × Int)} {L : List Int} {d : Int} {k : Nat} (h : k < mv.length) : toB (mv.take (k + 1)) L d = (toB (mv.take k) L d || (decide ((ml mv k).2 = d) && decide ((ml mv k).1 ∈ L))) := by
  rw [take_snoc_ml h]; simp [toB]
theorem fromB_snoc {mv : List (Int × Int)} {d : Int} {k : Nat} (h : k < mv.length) : fromB (mv.take (k + 1)) d = (fromB (mv.take k) d || decide ((ml mv k).1 = d)) := by
  rw [take_snoc_ml h]; simp [fromB]
theorem toB_yes {mv : List (Int × Int)} {L : List Int} {d : Int} {k : Nat} (h : k < mv.length) (h1 : (ml mv k).2 = d) (h2 : decide ((ml mv k).1 ∈ L) = true) : toB mv L d = true :=
  List.any_eq_true.2 ⟨ml mv k, by rw [ml_lt h]; exact List.getElem_mem _, by rw [h2, decide_eq_true h1]; rfl⟩
theorem fromB_yes {mv : List (Int × Int)} {d : Int} {k : Nat} (h : k < mv.length) (h1 : (ml mv k).1 = d) : fromB mv d = true :=
  List.any_eq_true.2 ⟨ml mv k, by rw [ml_lt h]; exact List.getElem_mem _, decide_eq_true h1⟩
set_option maxRecDepth 100000 in
set_option maxHeartbeats 8000000 in
theorem isOwn_any (e : Ev) (vd vs vm : Value) (y m d dd : Int) (w : World) (hr : Rv w e vd vs vm) (hz : Size e) (hbad : badE e = 0) (ha : Cal.At e.st y m d) :
    Calls Tryz.prog 109 #[.agg (e.cells vd vs vm), .int .i64 dd] w fun r w' => r = .returned (.bool (occB e (evL e y m d) dd)) ∧ Below w.heap.size w w' := by
  obtain ⟨a6, c6, rfl⟩ := hr.d.shape
  obtain ⟨a9, c9, rfl⟩ := hr.s.shape
  obtain ⟨a10, c10, rfl⟩ := hr.m.shape
  obtain ⟨q, hq⟩ : ∃ q, occB e (evL e y m d) dd = q := ⟨_, rfl⟩
  have hone := fun x w' (h : Below w.heap.size w w') => isOne_any e.st y m d x e.ru _ w' ha (badE_zero hbad).2.2.2.2.1 (hr.d.below h) hz.ds
  obtain ⟨L, hL⟩ : ∃ L, evL e y m d = L := ⟨_, rfl⟩
  have hone2 : ∀ x w', Below w.heap.size w w' → Calls Tryz.prog 162 #[.int .i64 e.st, .agg #[.string e.ru.fq, .int .i64 e.ru.ev, .slice a6 e.ru.ds.length c6, .int .i64 e.ru.ct, .int .i64 e.ru.un], .int .i64 x] w' fun e' w2 => e' = .returned (.bool (decide (x ∈ L))) ∧ Below w'.heap.size w' w2 := by
    rw [← hL]; exact hone
  rw [occ_ref, hL] at hq
  rw [hL, occ_ref, hq]
  have hin := fun w' (h : Below w.heap.size w w') => isIn_any dd _ e.sk w' (hr.s.below h) (by have := hz.sk; omega)
  obtain ⟨W, hW⟩ : ∃ W, w.alloc (.cells (e.cells (.slice a6 e.ru.ds.length c6) (.slice a9 e.sk.length c9) (.slice a10 e.mv.length c10)) 35) = W := ⟨_, rfl⟩
  have hB : Below w.heap.size w W := by rw [← hW]; exact (Below.refl _ w).alloc (Nat.le_refl _) _
  have hx : W.heap[w.heap.size]? = some (.cells (e.cells (.slice a6 e.ru.ds.length c6) (.slice a9 e.sk.length c9) (.slice a10 e.mv.length c10)) 35) := by rw [← hW]; exact heap_new w _
  obtain ⟨n6, hn6⟩ : ∃ n, e.ru.ds.length = n := ⟨_, rfl⟩
  obtain ⟨n9, hn9⟩ : ∃ n, e.sk.length = n := ⟨_, rfl⟩
  obtain ⟨n10, hn10⟩ : ∃ n, e.mv.length = n := ⟨_, rfl⟩
  have hmv := hz.mv
  rw [hn6] at hone2 hx hW hr ⊢
  rw [hn9] at hin hx hW hr ⊢
  rw [hn10] at hmv hx hW hr ⊢
  have HQ := Lib.hid hq
  have HONE := Lib.hid hone2
  have HIN := Lib.hid hin
  have HW := Lib.hid hW
  have HB := Lib.hid hB
  have HX := Lib.hid hx
  have HM := Lib.hid hr.m
  have HN10 := Lib.hid hn10
  clear hr hz hq hone hone2 hin hW hB hx hn6 hn9 hn10 hL ha hbad
  go_enter Tryz.func109, Tryz.ntmps109
  go_upto_region 1 with fail
  rw [HW.out]
  go_wp2_with fail
  go_loopw [5] (fun p wr => ∃ k : Nat, k ≤ n10 ∧ p = .int .i64 (k : Int) ∧ toB (e.mv.take k) L dd = false ∧ Below W.heap.size W wr) (fun p _ => n10 - (intOf p).toNat)
  case atStart => exact ⟨0, Nat.zero_le _, rfl, rfl, Below.refl _ _⟩
  case round =>
    obtain ⟨k, hk, rfl, hto, hbr⟩ := hrel
    have HTO := Lib.hid hto
    have HBR := Lib.hid hbr
    have HBB := Lib.hid (HB.out.trans (hbr.mono HB.out.size))
    obtain ⟨k0, k1, k2, k3, k4, k5, k6, k7, k8, k9, k10⟩ := cells11 (row_below HX.out hbr)
    clear hto hbr
    by_cases hlt : k < n10
    · obtain ⟨-, b, o, ha9, hc⟩ := (HM.out.below HBB.out).at (by intro h; have := HN10.out; rw [h] at this; simp at this; omega)
      subst ha9
      obtain ⟨c1, c2⟩ := hc k (by rw [HN10.out]; exact hlt)
      have hts := toB_snoc (L := L) (d := dd) (show k < e.mv.length by rw [HN10.out]; exact hlt)
      rw [HTO.out, Bool.false_or] at hts
      have hty := toB_yes (L := L) (d := dd) (show k < e.mv.length by rw [HN10.out]; exact hlt)
      obtain ⟨mm, hm⟩ : ∃ mm, ml e.mv k = mm := ⟨_, rfl⟩
      obtain ⟨m1, m2⟩ := mm
      rw [hm] at c1 c2 hts hty
      simp only at c1 c2 hts hty
      have HTS := Lib.hid hts
      have HTY := Lib.hid hty
      clear hm hc hts hty
      by_cases h2 : m2 = dd
      · have q1 : (m2 == dd) = true := by rw [h2]; simp
        have H2 := Lib.hid h2
        clear h2
        have hdw : Below w.heap.size w wr.drew := below_draw HBB.out 1
        go_upto_region 5 with fail
        go_region_with ((go_at_call 162; (with_reducible refine (HONE.out _ _ hdw).mono ?_); rintro e1 w1 ⟨rfl, hb1⟩))
        all_goals (
          have HB1 := Lib.hid (HBR.out.trans (((below_draw (Below.refl _ wr) 1).trans (hb1.mono (Nat.le_refl _))).mono HBR.out.size))
          obtain ⟨bb, hbb⟩ : ∃ bb, decide (m1 ∈ L) = bb := ⟨_, rfl⟩
          rw [hbb] at HTS HTY
          rw [hbb]
          have HBBB := Lib.hid hbb
          clear hbb hb1
          cases bb with
          | true =>
            obtain rfl : q = true := by rw [← HQ.out, HTY.out H2.out rfl, Bool.or_true]
            go_wp2
            go_ret
            exact ⟨rfl, HB.out.trans (HB1.out.mono HB.out.size)⟩
          | false =>
            go_wp2
            go_roundw
            case rel => exact ⟨k + 1, by omega, by go_num, by rw [HTS.out, Bool.and_false], HB1.out⟩
            case measure => simp [intOf]; omega)
      · have q1 : (m2 == dd) = false := by simpa using h2
        have H2 := Lib.hid h2
        clear h2
        go_wp2_with fail
        go_roundw
        case rel => exact ⟨k + 1, by omega, by go_num, by rw [HTS.out, decide_eq_false H2.out]; rfl, HBR.out⟩
        case measure => simp [intOf]; omega
    · obtain rfl : k = n10 := by omega
      have hto := HTO.out
      rw [List.take_of_length_le (by rw [HN10.out]; omega)] at hto
      have hq2 := HQ.out
      rw [hto, Bool.or_false] at hq2
      have HQ2 := Lib.hid hq2
      obtain ⟨W1, hW1⟩ : ∃ W1, W1 = wr := ⟨_, rfl⟩
      subst hW1
      have HX1 := Lib.hid (row_below HX.out HBR.out)
      have HM1 := Lib.hid (HM.out.below HBB.out)
      clear HQ HTO hto hq2 HM HX HBR
      go_wp2_with fail
      go_loopw [7] (fun p wr2 => ∃ j : Nat, j ≤ k ∧ p = .int .i64 (j : Int) ∧ fromB (e.mv.take j) dd = false ∧ wr2 = W1) (fun p _ => k - (intOf p).toNat)
      case atStart => exact ⟨0, Nat.zero_le _, rfl, rfl, rfl⟩
      case round =>
        obtain ⟨j, hj, rfl, hfr, rfl⟩ := hrel
        have HFR := Lib.hid hfr
        clear hfr
        obtain ⟨k0, k1, k2, k3, k4, k5, k6, k7, k8, k9, k10⟩ := cells11 HX1.out
        by_cases hlt2 : j < k
        · obtain ⟨-, b, o, ha9, hc⟩ := HM1.out.at (by intro h; have := HN10.out; rw [h] at this; simp at this; omega)
          subst ha9
          obtain ⟨c1, c2⟩ := hc j (by rw [HN10.out]; exact hlt2)
          have hts := fromB_snoc (d := dd) (show j < e.mv.length by rw [HN10.out]; exact hlt2)
          rw [HFR.out, Bool.false_or] at hts
          have hty := fromB_yes (d := dd) (show j < e.mv.length by rw [HN10.out]; exact hlt2)
          obtain ⟨mm, hm⟩ : ∃ mm, ml e.mv j = mm := ⟨_, rfl⟩
          obtain ⟨m1, m2⟩ := mm
          rw [hm] at c1 c2 hts hty
          simp only at c1 c2 hts hty
          have HTS := Lib.hid hts
          have HTY := Lib.hid hty
          clear hm hc hts hty
          by_cases h2 : m1 = dd
          · have q1 : (m1 == dd) = true := by rw [h2]; simp
            obtain rfl : q = false := by rw [← HQ2.out, HTY.out h2]; simp
            clear h2
            go_wp2
            go_ret
            exact ⟨rfl, HBB.out⟩
          · have q1 : (m1 == dd) = false := by simpa using h2
            have H2 := Lib.hid h2
            clear h2
            go_wp2_with fail
            go_roundw
            case rel => exact ⟨j + 1, by omega, by go_num, by rw [HTS.out, decide_eq_false H2.out], by trivial⟩
            case measure => simp [intOf]; omega
        · obtain rfl : j = k := by omega
          have hfr := HFR.out
          rw [List.take_of_length_le (by rw [HN10.out]; omega)] at hfr
          have hq2 := HQ2.out
          rw [hfr, Bool.not_false, Bool.and_true] at hq2
          have hi := HIN.out _ HBB.out
          obtain ⟨bb, hbb⟩ : ∃ bb, decide (dd ∈ e.sk) = bb := ⟨_, rfl⟩
          rw [hbb] at hq2 hi
          have HQ3 := Lib.hid hq2
          have HI := Lib.hid hi
          clear hfr hq2 hi hbb
          go_wp2_with fail
          (with_reducible refine HI.out.mono ?_)
          rintro e1 w1 ⟨rfl, rfl⟩
          cases bb with
          | true =>
            obtain rfl : q = false := by rw [← HQ3.out]; simp
            go_wp2
            go_ret
            exact ⟨rfl, HBB.out⟩
          | false =>
            have ho := HONE.out dd _ HBB.out
            obtain ⟨b2, hb2⟩ : ∃ b2, decide (dd ∈ L) = b2 := ⟨_, rfl⟩
            have hq3 := HQ3.out
            rw [hb2] at ho hq3
            obtain rfl : b2 = q := by rw [← hq3]; simp
            have HO := Lib.hid ho
            clear ho hb2 hq3 HQ3
            go_wp2_with fail
            (with_reducible refine HO.out.mono ?_)
            rintro e1 w1 ⟨rfl, hb1⟩
            have HB1 := Lib.hid (HBB.out.trans (hb1.mono HBB.out.size))
            clear hb1
            go_wp2
            go_ret
            exact ⟨rfl, HB1.out⟩
set_option maxRecDepth 100000 in
set_option maxHeartbeats 4000000 in
theorem isCovered_any (e : Ev) (vd vs vm : Value) (y m d dd : Int) (w : World) (hr : Rv w e vd vs vm) (hz : Size e) (hbad : badE e = 0) (ha : Cal.At e.st y m d) (h0 : 0 ≤ dd) (h1 : dd ≤ 73048) :
    Calls Tryz.prog 64 #[.agg (e.cells vd vs vm), .int .i64 dd] w fun r w' => r = .returned (.bool (covB e (evL e y m d) dd)) ∧ Below w.heap.size w w' := by
  obtain ⟨a6, c6, rfl⟩ := hr.d.shape
  obtain ⟨a9, c9, rfl⟩ := hr.s.shape
  obtain ⟨a10, c10, rfl⟩ := hr.m.shape
  obtain ⟨q, hq⟩ : ∃ q, covB e (evL e y m d) dd = q := ⟨_, rfl⟩
  have hci := cov_iff (fit_of hbad ha) (d := dd)
  have hown := fun x w' (h : Below w.heap.size w w') => isOwn_any e _ _ _ y m d x w' (hr.below h) hz hbad ha
  have hdy := fun x => occ_day (fit_of hbad ha) (x := x)
  obtain ⟨L, hL⟩ : ∃ L, evL e y m d = L := ⟨_, rfl⟩
  rw [hL] at hq hci hdy
  have HDY := Lib.hid hdy
  rw [hq] at hci
  simp only [hL] at hown
  rw [hL, hq]
  obtain ⟨l0, l1⟩ := (badE_zero hbad).2.2.2.1
  obtain ⟨W, hW⟩ : ∃ W, w.alloc (.cells (e.cells (.slice a6 e.ru.ds.length c6) (.slice a9 e.sk.length c9) (.slice a10 e.mv.length c10)) 35) = W := ⟨_, rfl⟩
  have hB : Below w.heap.size w W := by rw [← hW]; exact (Below.refl _ w).alloc (Nat.le_refl _) _
  have hx : W.heap[w.heap.size]? = some (.cells (e.cells (.slice a6 e.ru.ds.length c6) (.slice a9 e.sk.length c9) (.slice a10 e.mv.length c10)) 35) := by rw [← hW]; exact heap_new w _
  obtain ⟨n6, hn6⟩ : ∃ n, e.ru.ds.length = n := ⟨_, rfl⟩
  obtain ⟨n9, hn9⟩ : ∃ n, e.sk.length = n := ⟨_, rfl⟩
  obtain ⟨n10, hn10⟩ : ∃ n, e.mv.length = n := ⟨_, rfl⟩
  rw [hn6] at hown hx hW ⊢
  rw [hn9] at hown hx hW ⊢
  rw [hn10] at hown hx hW ⊢
  have HCI := Lib.hid hci
  have HOWN := Lib.hid hown
  have HW := Lib.hid hW
  have HB := Lib.hid hB
  have HX := Lib.hid hx
  clear hr hz hq hci hown hW hB hx hn6 hn9 hn10 hL ha hbad hdy
  go_enter Tryz.func64, Tryz.ntmps64
  go_upto_region 1 with fail
  rw [HW.out]
  go_wp2_with fail
  go_loopw [5] (fun p wr => ∃ k : Int, dd - e.lg ≤ k ∧ k ≤ dd ∧ -1 ≤ k ∧ p = .int .i64 k ∧ (∀ x, k < x → x ≤ dd → occB e L x = false) ∧ Below W.heap.size W wr) (fun p _ => (intOf p + 1).toNat)
  case atStart => exact ⟨dd, by omega, by omega, by omega, rfl, fun x h1 h2 => by omega, Below.refl _ _⟩
  case round =>
    obtain ⟨k, hk1, hk2, hk3, rfl, hno, hbr⟩ := hrel
    have HNO := Lib.hid hno
    have HBR := Lib.hid hbr
    have HBB := Lib.hid (HB.out.trans (hbr.mono HB.out.size))
    obtain ⟨k0, k1, k2, k3, k4, k5, k6, k7, k8, k9, k10⟩ := cells11 (row_below HX.out hbr)
    clear hno hbr
    by_cases hlt : dd - e.lg < k
    case neg =>
      have HF := Lib.hid (show q = false by
        rw [← Bool.not_eq_true]
        intro h
        obtain ⟨_, x, x1, x2, x3⟩ := HCI.out.1 h
        rw [HNO.out x (by omega) x2] at x3; cases x3)
      go_wp2
      go_ret
      exact ⟨by (rw [HF.out]); all_goals rfl, HBB.out⟩
    by_cases hge : 0 ≤ k
    case neg =>
      have HF := Lib.hid (show q = false by
        rw [← Bool.not_eq_true]
        intro h
        have hci := HCI.out
        obtain ⟨_, x, x1, x2, x3⟩ := hci.1 h
        have hx0 := (HDY.out x x3).1
        rw [HNO.out x (by omega) x2] at x3; cases x3)
      go_wp2
      go_ret
      exact ⟨by (rw [HF.out]); all_goals rfl, HBB.out⟩
    have ho := HOWN.out k wr HBB.out
    obtain ⟨bb, hbb⟩ : ∃ bb, occB e L k = bb := ⟨_, rfl⟩
    rw [hbb] at ho
    have HO := Lib.hid (show Calls Tryz.prog 109 #[.agg #[.string e.id, .string e.ti, .int .i64 e.st, .int .i64 e.lg, .string e.ru.fq, .int .i64 e.ru.ev, .slice a6 n6 c6, .int .i64 e.ru.ct, .int .i64 e.ru.un, .slice a9 n9 c9, .slice a10 n10 c10], .int .i64 k] wr fun r w' => r = .returned (.bool bb) ∧ Below wr.heap.size wr w' from ho)
    have HBBB := Lib.hid hbb
    clear ho hbb
    go_wp2_with fail
    (with_reducible refine HO.out.mono ?_)
    rintro e1 w1 ⟨rfl, hb1⟩
    have HB1 := Lib.hid (HBR.out.trans (hb1.mono HBR.out.size))
    clear hb1
    cases bb with
    | true =>
      have HF := Lib.hid (show q = true from HCI.out.2 ⟨⟨by omega, by omega⟩, k, by omega, by omega, HBBB.out⟩)
      go_wp2
      go_ret
      exact ⟨by (rw [HF.out]); all_goals rfl, HB.out.trans (HB1.out.mono HB.out.size)⟩
    | false =>
      go_wp2
      go_roundw
      case rel => exact ⟨k - 1, by omega, by omega, by omega, by go_num, fun x h1 h2 => by
        by_cases e9 : x = k
        · rw [e9]; exact HBBB.out
        · exact HNO.out x (by omega) h2, HB1.out⟩
      case measure => simp [intOf]; omega
end Evt
end Go.Proofs.YtenmeaoagepfnaaGreatDoor
end

section
/- The document's calendars: On. -/
namespace Go.Proofs.YtenmeaoagepfnaaGreatDoor
open Go Go.RowKit Go.Shelf Lmd
attribute [local go_sem] Oper.semAt_some
namespace Bk
open Evt Tp Rul Day Cand Er

theorem covD_out {e : Ev} {d : Int} (h : rightB d = false) : covD e d = false := by
  unfold covD coversB covB
  rw [h, Bool.false_and, Bool.and_false]
theorem onB_out {L : List Ev} {d : Int} (h : rightB d = false) : onB L (covD · d) = [] := by
  unfold onB
  rw [List.filter_eq_nil_iff.2 (fun e _ => by rw [covD_out h]; exact fun e => by cases e)]; rfl
/-- who is on a day, of the first events -/
noncomputable def onV (xs : List EvV) (d : Int) : List ByteArray := onB (xs.map (·.e)) (covD · d)
theorem onV_take {xs : List EvV} {k : Nat} {d : Int} (h : k < xs.length) : onV (xs.take (k + 1)) d = if covD (el xs k).e d = true then onV (xs.take k) d ++ [(el xs k).e.id] else onV (xs.take k) d := by
  unfold onV onB
  rw [el_take_succ h, List.map_append, List.filter_append, List.map_append, List.map_cons, List.map_nil, List.filter_cons]
  split
  · rfl
  · simp
set_option maxRecDepth 100000 in
set_option maxHeartbeats 8000000 in
theorem ron_any (xs : List EvV) (v : Value) (d : Int) (w : World) (hr : EReads w v xs) (hl : xs.length ≤ 1000) (hg : ∀ x ∈ xs, badE x.e = 0) (hz : ∀ x ∈ xs, Size x.e) :
    Calls Tryz.prog 28 #[.agg #[v], .int .i64 d] w fun r w' => ∃ v', r = .returned v' ∧ Tx.Rd w' v' (onV xs d) ∧ Below w.heap.size w w' := by
  obtain ⟨a, cap, rfl⟩ := hr.shape
  obtain ⟨n, hn⟩ : ∃ n, xs.length = n := ⟨_, rfl⟩
  rw [hn] at hr hl ⊢
  obtain ⟨W, hW⟩ : ∃ W, w.alloc (.cells #[.slice a n cap] 29) = W := ⟨_, rfl⟩
  have hB : Below w.heap.size w W := by rw [← hW]; exact (Below.refl _ w).alloc (Nat.le_refl _) _
  have hx : W.heap[w.heap.size]? = some (.cells #[.slice a n cap] 29) := by rw [← hW]; exact heap_new w _
  have HR := Lib.hid hr
  have HW := Lib.hid hW
  have HB := Lib.hid hB
  have HN := Lib.hid hn
  have HX := Lib.hid hx
  clear hr hW hB hx hn
  have HG := Lib.hid hg
  have HZ := Lib.hid hz
  have HD := Lib.hid (isDay_r d W)
  clear hg hz
  go_enter Tryz.func28, Tryz.ntmps28
  go_upto_region 2 with fail
  rw [HW.out]
  go_wp2_with fail
  (with_reducible refine HD.out.mono ?_)
  rintro e0 w0 ⟨rfl, rfl⟩
  obtain ⟨q, hq⟩ : ∃ q, rightB d = q := ⟨_, rfl⟩
  rw [hq]
  have HQ := Lib.hid hq
  clear hq
  go_wp2_with fail
  go_loopw [5, 7, 8] (fun v5 i _ wr => ∃ k : Nat, k ≤ n ∧ i = .int .i64 (k : Int) ∧ (∃ a c, v5 = .slice a (onV (xs.take k) d).length c) ∧ wr.ownsRow W.heap.size 9 1 v5 (onV (xs.take k) d).length (cellsS (onV (xs.take k) d)) ∧ Below W.heap.size W wr) (fun _ i _ _ => n - (intOf i).toNat)
  case atStart => exact ⟨0, Nat.zero_le _, rfl, ⟨none, 0, rfl⟩, ⟨rfl, .inl ⟨rfl, rfl⟩⟩, Below.refl _ _⟩
  case round =>
    obtain ⟨k, hk, rfl, ⟨a7, c7', rfl⟩, hown, hbr⟩ := hrel
    obtain ⟨O, hO⟩ : ∃ O, onV (xs.take k) d = O := ⟨_, rfl⟩
    rw [hO] at hown ⊢
    have hsr := hbr.size
    have HO := Lib.hid hO
    have HOWN := Lib.hid hown
    have HBR := Lib.hid hbr
    have hrr := HR.out.below (HB.out.trans (hbr.mono HB.out.size))
    obtain ⟨k0, -⟩ := cell1r (row_below HX.out hbr)
    clear hown hbr hO
    have hend : (k = n ∨ q = false) → Tx.Rd wr (.slice a7 O.length c7') (onV xs d) := by
      intro h
      have h1 : Tx.Rd wr (.slice a7 O.length c7') O := Tx.rd_own HOWN.out rfl
      rcases h with h | h
      · have htk : xs.take xs.length = xs := List.take_length
        rw [HN.out, ← h] at htk
        rw [← htk, HO.out]; exact h1
      · have h2 : ∀ ys : List EvV, onV ys d = [] := fun ys => onB_out (by rw [HQ.out]; exact h)
        rw [h2, ← h2 (xs.take k), HO.out]; exact h1
    have HEND := Lib.hid hend
    have HBX := Lib.hid (HB.out.trans (HBR.out.mono HB.out.size))
    clear hend
    by_cases hlt : k < n
    · cases q with
      | false =>
        clear hrr
        go_wp2
        go_ret
        exact ⟨_, rfl, HEND.out (.inr trivial), HBX.out⟩
      | true =>
        have hsn := onV_take (xs := xs) (k := k) (d := d) (by rw [HN.out]; exact hlt)
        have hol : O.length ≤ 1000 := by
          rw [← HO.out]; unfold onV onB
          rw [List.length_map]
          exact Nat.le_trans (List.length_filter_le _ _) (by rw [List.length_map, List.length_take]; omega)
        obtain ⟨-, b, o, ha, hc⟩ := hrr.at (by intro h; have := HN.out; rw [h] at this; simp at this; omega)
        subst ha
        obtain ⟨⟨c0, c1', c2, c3', c4, c5, c6, c7, c8, c9, c10⟩, hrv⟩ := hc k (by rw [HN.out]; exact hlt)
        have hmx := el_mem (xs := xs) (i := k) (by rw [HN.out]; exact hlt)
        obtain ⟨x, hx⟩ : ∃ x, el xs k = x := ⟨_, rfl⟩
        rw [hx] at c0 c1' c2 c3' c4 c5 c6 c7 c8 c9 c10 hrv hmx hsn
        obtain ⟨e, vd, vs, vm⟩ := x
        dsimp only at c0 c1' c2 c3' c4 c5 c6 c7 c8 c9 c10
        change Rv wr e vd vs vm at hrv
        obtain ⟨a6, c6', rfl⟩ := hrv.d.shape
        obtain ⟨a9, c9', rfl⟩ := hrv.s.shape
        obtain ⟨a10, c10', rfl⟩ := hrv.m.shape
        have hbad := HG.out _ hmx
        change badE e = 0 at hbad
        have hdd : 0 ≤ d ∧ d ≤ 73048 := by have := HQ.out; unfold rightB inB at this; simpa using this
        have hcv := isCovered_any e _ _ _ _ _ _ d wr hrv (HZ.out _ hmx) hbad (dt_at hbad) hdd.1 hdd.2
        have hcd : covB e (evL e (dt e).1 (dt e).2.1 (dt e).2.2) d = covD e d := by
          unfold covD coversB; rw [decide_eq_true hbad, Bool.true_and]
        rw [hcd] at hcv
        change onV (xs.take (k + 1)) d = (if covD e d = true then _ ++ [e.id] else _) at hsn
        rw [HO.out] at hsn
        obtain ⟨z, hz⟩ : ∃ z, covD e d = z := ⟨_, rfl⟩
        rw [hz] at hcv hsn
        have HCV := Lib.hid hcv
        have HSN := Lib.hid hsn
        clear hc hrr hx hrv hmx hbad hcv hcd hsn hz hdd
        go_wp2_with fail
        (with_reducible refine HCV.out.mono ?_)
        rintro e1 w1 ⟨rfl, hb1⟩
        have k1 := cell_later hb1 k0
        have d0 := cell_later hb1 c0
        have HB1 := Lib.hid (HBR.out.trans (hb1.mono hsr))
        have HOW1 := Lib.hid (Evt.own_below HOWN.out hb1)
        have hs1 := Nat.le_trans hsr hb1.size
        clear hb1 k0 c0 c1' c2 c3' c4 c5 c6 c7 c8 c9 c10
        cases z with
        | false =>
          go_wp2
          go_roundw
          case rel => exact ⟨k + 1, by omega, by go_num, ⟨a7, c7', by rw [HSN.out, if_neg (by decide)]⟩, by rw [HSN.out, if_neg (by decide)]; exact HOW1.out, HB1.out⟩
          case measure => simp [intOf]; omega
        | true =>
          go_wp2_with (at_builtin
                       refine append_str rfl (.tmp 29) (.tmp 36) rfl W.heap.size (.slice a7 O.length c7') O rfl (HOW1.out.alloc _) w1.heap.size e.id rfl (cell_of (heap_new w1 _) rfl) (by omega) (by simp; omega) ?_
                       intro a1 c2 wb hown' hbb
                       have HOB := Lib.hid hown'
                       have HBB := Lib.hid (HB1.out.trans (((Below.refl _ w1).alloc hs1 _).trans hbb))
                       clear hown' hbb)
          go_roundw
          case rel => exact ⟨k + 1, by omega, by go_num, ⟨a1, c2, by rw [HSN.out, if_pos trivial, List.length_append]; rfl⟩, by rw [HSN.out, if_pos trivial]; exact HOB.out, HBB.out⟩
          case measure => simp [intOf]; omega
    · obtain rfl : k = n := by omega
      clear hrr
      go_wp2
      go_ret
      exact ⟨_, rfl, HEND.out (.inl trivial), HBX.out⟩
end Bk
end Go.Proofs.YtenmeaoagepfnaaGreatDoor
end
