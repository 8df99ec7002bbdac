/- The reference's RuleError. -/
import Derived.Test.YtghkalamlcfnnaaGreatDoorQA11
namespace Go.Proofs.YtghkalamlcfnnaaGreatDoor
open Go Go.RowKit Go.Shelf Lmd
namespace Cand
open Rul Day Er Ref
theorem fq_of {s : ByteArray} {l : List UInt8} (h : s.toList = l) : s = ⟨l.toArray⟩ := by
  rw [ByteArray.toList_eq] at h
  cases s with | mk d => simp at h; subst h; rfl
theorem not_name {fq : ByteArray} (h : Lib.containsS freqs fq = false) : fq.toList ≠ [111, 110, 99, 101] ∧ fq.toList ≠ [100, 97, 105, 108, 121] ∧ fq.toList ≠ [119, 101, 101, 107, 108, 121] ∧ fq.toList ≠ [109, 111, 110, 116, 104, 108, 121] ∧ fq.toList ≠ [121, 101, 97, 114, 108, 121] := by
  have hn : fq ∉ freqs := fun hm => by rw [(Lib.containsS_iff _ _).2 hm] at h; cases h
  refine ⟨fun e => hn ?_, fun e => hn ?_, fun e => hn ?_, fun e => hn ?_, fun e => hn ?_⟩ <;> rw [fq_of e] <;> simp [freqs]
set_option maxRecDepth 100000 in
set_option maxHeartbeats 8000000 in
theorem ruleError_any (r : Ru) (v : Value) (w : World) (hr : Ints.Reads w v r.ds) (hl : r.ds.length < 50000) :
    Calls Tryz.prog 97 #[.agg #[.string r.fq, .int .i64 r.ev, v, .int .i64 r.ct, .int .i64 r.un]] w fun e w' => e = .returned (.int .i64 (bad r : Int)) ∧ Below w.heap.size w w' := by
  obtain ⟨a, cap, rfl⟩ := hr.shape
  obtain ⟨q, hq⟩ : ∃ q, bad r = q := ⟨_, rfl⟩
  rw [hq]
  have HQ := Lib.hid hq
  have hB : Below w.heap.size w (w.alloc (.cells #[.string r.fq, .int .i64 r.ev, .slice a r.ds.length cap, .int .i64 r.ct, .int .i64 r.un] 37)) := (Below.refl _ w).alloc (Nat.le_refl _) _
  have HR1 := Lib.hid (hr.below hB)
  have HB := Lib.hid hB
  have hx := heap_new w (.cells #[.string r.fq, .int .i64 r.ev, .slice a r.ds.length cap, .int .i64 r.ct, .int .i64 r.un] 37)
  have HX := Lib.hid hx
  clear hq hr hB hx
  obtain ⟨fq, ev', ct, un, ds⟩ := r
  dsimp only at *
  by_cases hname : Lib.containsS freqs fq = false
  · obtain ⟨n1, n2, n3, n4, n5⟩ := not_name hname
    have q1 : (fq.toList == [111, 110, 99, 101]) = false := by simpa using n1
    have q2 : (fq.toList == [100, 97, 105, 108, 121]) = false := by simpa using n2
    have q3 : (fq.toList == [119, 101, 101, 107, 108, 121]) = false := by simpa using n3
    have q4 : (fq.toList == [109, 111, 110, 116, 104, 108, 121]) = false := by simpa using n4
    have q5 : (fq.toList == [121, 101, 97, 114, 108, 121]) = false := by simpa using n5
    obtain rfl : 4 = q := (bad_name (r := ⟨fq, ev', ct, un, ds⟩) hname).symm.trans HQ.out
    clear n1 n2 n3 n4 n5 hname
    go_enter Tryz.func97, Tryz.ntmps97
    go_wp2
    go_ret
    exact ⟨rfl, HB.out⟩
  have hname' : Lib.containsS freqs fq = true := by simpa using hname
  have HN := Lib.hid hname'
  clear hname hname'
  obtain ⟨bw, hbw⟩ : ∃ b, (fq.toList == [119, 101, 101, 107, 108, 121]) = b := ⟨_, rfl⟩
  obtain ⟨bo, hbo⟩ : ∃ b, (fq.toList == [111, 110, 99, 101]) = b := ⟨_, rfl⟩
  have HBW := Lib.hid hbw
  have HBO := Lib.hid hbo
  clear hbw hbo
  go_enter Tryz.func97, Tryz.ntmps97
  go_upto_region 3 with fail
  go_cut [3, 4, 36] from 10 (fun s3 s4 s36 wc => s3 = .bool bw ∧ s4 = .bool bo ∧ s36 = .bool false ∧ wc = (w.alloc (.cells #[.string fq, .int .i64 ev', .slice a ds.length cap, .int .i64 ct, .int .i64 un] 37)))
  case first =>
    rcases freqs_mem HN.out with h | h | h | h | h
    all_goals (
      subst h
      go_wp2_with fail
      go_meet
      exact ⟨by rw [← HBW.out], by rw [← HBO.out], rfl, rfl⟩)
  case rest =>
    obtain ⟨rfl, rfl, rfl, hwc⟩ := hcut
    have k0 : wc.cell? ⟨w.heap.size, 0, none⟩ = some (.string fq) := by rw [hwc]; exact cell_of HX.out rfl
    have k1 : wc.cell? ⟨w.heap.size, 1, none⟩ = some (.int .i64 ev') := by rw [hwc]; exact cell_of HX.out rfl
    have k2 : wc.cell? ⟨w.heap.size, 2, none⟩ = some (.slice a ds.length cap) := by rw [hwc]; exact cell_of HX.out rfl
    have k3 : wc.cell? ⟨w.heap.size, 3, none⟩ = some (.int .i64 ct) := by rw [hwc]; exact cell_of HX.out rfl
    have k4 : wc.cell? ⟨w.heap.size, 4, none⟩ = some (.int .i64 un) := by rw [hwc]; exact cell_of HX.out rfl
    have hbc := HB.out
    have hrc := HR1.out
    rw [← hwc] at hbc hrc
    have HBC := Lib.hid hbc
    have HRC := Lib.hid hrc
    clear hbc hrc HB HR1 HX hwc
    obtain ⟨b1, hb1⟩ : ∃ b, inB ev' 1 100 = b := ⟨_, rfl⟩
    obtain ⟨b2, hb2⟩ : ∃ b, inB ct 0 1000 = b := ⟨_, rfl⟩
    obtain ⟨b3, hb3⟩ : ∃ b, inB un (-1) 73048 = b := ⟨_, rfl⟩
    have c1 := in_b ev' 1 100 wc
    have c2 := in_b ct 0 1000 wc
    have c3 := in_b un (-1) 73048 wc
    rw [hb1] at c1
    rw [hb2] at c2
    rw [hb3] at c3
    have C1 := Lib.hid c1
    have C2 := Lib.hid c2
    have C3 := Lib.hid c3
    have B1 := Lib.hid hb1
    have B2 := Lib.hid hb2
    have B3 := Lib.hid hb3
    clear c1 c2 c3 hb1 hb2 hb3
    go_wp2_with fail
    refine C1.out.mono ?_; rintro e1 w1 ⟨rfl, rfl⟩
    go_wp2_with fail
    refine C2.out.mono ?_; rintro e1 w1 ⟨rfl, rfl⟩
    go_wp2_with fail
    refine C3.out.mono ?_; rintro e1 w1 ⟨rfl, rfl⟩
    clear C1 C2 C3
    cases b1 with
    | false =>
      obtain rfl : 2 = q := (bad_bound (r := ⟨fq, ev', ct, un, ds⟩) HN.out (by simp only [boundB, B1.out]; rfl)).symm.trans HQ.out
      go_wp2; go_ret; exact ⟨rfl, HBC.out⟩
    | true =>
      cases b2 with
      | false =>
        obtain rfl : 2 = q := (bad_bound (r := ⟨fq, ev', ct, un, ds⟩) HN.out (by simp only [boundB, B1.out, B2.out]; rfl)).symm.trans HQ.out
        go_wp2; go_ret; exact ⟨rfl, HBC.out⟩
      | true =>
        cases b3 with
        | false =>
          obtain rfl : 2 = q := (bad_bound (r := ⟨fq, ev', ct, un, ds⟩) HN.out (by simp only [boundB, B1.out, B2.out, B3.out]; rfl)).symm.trans HQ.out
          go_wp2; go_ret; exact ⟨rfl, HBC.out⟩
        | true =>
          have hbnd : boundB ⟨fq, ev', ct, un, ds⟩ = true := by simp only [boundB, B1.out, B2.out, B3.out]; rfl
          have HBND := Lib.hid hbnd
          clear hbnd B1 B2 B3
          go_wp2_with fail
          go_loopw [8] (fun p wr => ∃ i : Nat, i ≤ ds.length ∧ p = .int .i64 (i : Int) ∧ wr = wc ∧ ∀ j, j < i → 0 ≤ Ints.el ds j ∧ Ints.el ds j ≤ 6) (fun p _ => ds.length - (intOf p).toNat)
          case atStart => exact ⟨0, Nat.zero_le _, rfl, rfl, fun _ h => by omega⟩
          case round =>
            obtain ⟨i, hi, rfl, hwr, hs⟩ := hrel
            subst hwr
            have HS := Lib.hid hs
            clear hs
            by_cases hlt : i < ds.length
            · obtain ⟨_, b, o, ha, hc⟩ := HRC.out.at (by rintro rfl; exact absurd hlt (Nat.not_lt_zero _))
              subst ha
              have c1 := hc i hlt
              obtain ⟨y, hy⟩ : ∃ y, Ints.el ds i = y := ⟨_, rfl⟩
              rw [hy] at c1
              have HYY := Lib.hid hy
              clear hy hc
              have hbadday : ¬ (0 ≤ y ∧ y ≤ 6) → 2 = q := fun h => (bad_bound (r := ⟨fq, ev', ct, un, ds⟩) HN.out (by
                have : daysB ds = false := by
                  unfold daysB
                  rw [List.all_eq_false]
                  exact ⟨y, mem_el.2 ⟨i, hlt, HYY.out⟩, by simp [inB]; omega⟩
                dsimp only
                rw [this, Bool.and_false])).symm.trans HQ.out
              have HBD := Lib.hid hbadday
              clear hbadday
              by_cases h1 : y < 0
              · obtain rfl := HBD.out (by omega)
                go_wp2; go_ret; exact ⟨rfl, HBC.out⟩
              · by_cases h2 : 6 < y
                · obtain rfl := HBD.out (by omega)
                  go_wp2; go_ret; exact ⟨rfl, HBC.out⟩
                · go_wp2
                  go_roundw
                  case rel => exact ⟨i + 1, by omega, by simp, by trivial, fun j hj => by
                    by_cases e : j = i
                    · subst e; rw [HYY.out]; omega
                    · exact HS.out j (by omega)⟩
                  case measure => simp [intOf]; omega
            · have hdays : (boundB ⟨fq, ev', ct, un, ds⟩ && daysB ds) = true := by
                rw [HBND.out, Bool.true_and]
                unfold daysB
                rw [List.all_eq_true]
                intro x hx
                obtain ⟨j, hj, rfl⟩ := mem_el.1 hx
                have := HS.out j (by omega)
                simp [inB]; omega
              have HDY := Lib.hid hdays
              clear hdays HS
              have hct0 : 0 ≤ ct := by
                have := (bound_parts (r := ⟨fq, ev', ct, un, ds⟩) HBND.out).2.1.1
                exact this
              have OO := Lib.hid (show decide (fq.toList = [111, 110, 99, 101]) = bo by rw [← HBO.out]; exact Bool.eq_iff_iff.2 (by simp))
              have WW := Lib.hid (show decide (fq.toList = [119, 101, 101, 107, 108, 121]) = bw by rw [← HBW.out]; exact Bool.eq_iff_iff.2 (by simp))
              have K2 := Lib.hid k2
              cases bo with
              | true =>
                have hbw : bw = false := by
                  rw [← HBW.out, show fq.toList = _ from of_decide_eq_true OO.out]; rfl
                subst hbw
                by_cases s1 : ev' = 1
                · by_cases s2 : ct = 0
                  · by_cases s3 : un = -1
                    · have hz0 : ds = [] ↔ ds.length = 0 := List.length_eq_zero_iff.symm
                      by_cases s4 : ds = []
                      · have HSH := Lib.hid (show shapeB ⟨fq, ev', ct, un, ds⟩ = true by simp [shapeB, OO.out, WW.out, s1, s2, s3, s4])
                        go_wp2_with fail
                        go_loopw [9] (fun p wq => ∃ (k m : Nat), (k = 0 ∨ k < ds.length) ∧ p = .int .i64 ((k : Int) + 1) ∧ wq = wr.drewN m ∧ ∀ j, j < k → Ints.el ds j < Ints.el ds (j + 1)) (fun p _ => ds.length + 1 - (intOf p).toNat)
                        case atStart => exact ⟨0, 0, Or.inl rfl, rfl, rfl, fun _ h => absurd h (Nat.not_lt_zero _)⟩
                        case round =>
                          obtain ⟨k, m, hk, rfl, rfl, hs⟩ := hrel
                          have HSo := Lib.hid hs
                          clear hs
                          have Km : (wr.drewN m).cell? ⟨w.heap.size, 2, none⟩ = some (.slice a ds.length cap) := by exact K2.out
                          by_cases hlt : k + 1 < ds.length
                          · exact absurd hlt (by rw [s4]; simp)
                          · have hi1 : (ds.length : Int) ≤ (k : Int) + 1 := by omega
                            go_wp2
                            go_ret
                            obtain rfl : 0 = q := (bad_none (r := ⟨fq, ev', _, _, ds⟩) HN.out HDY.out HSH.out (rise_yes (show ds.length ≤ k + 1 by omega) HSo.out)).symm.trans HQ.out
                            exact ⟨rfl, below_draw HBC.out m⟩
                      · have hp4 : 0 < ds.length := Nat.pos_of_ne_zero (fun h => s4 (hz0.2 h))
                        obtain rfl : 3 = q := (bad_shape (r := ⟨fq, ev', ct, un, ds⟩) HN.out HDY.out (by simp [shapeB, OO.out, WW.out, s1, s2, s3, s4])).symm.trans HQ.out
                        go_wp2; go_ret; exact ⟨rfl, HBC.out⟩
                    · obtain rfl : 3 = q := (bad_shape (r := ⟨fq, ev', ct, un, ds⟩) HN.out HDY.out (by simp [shapeB, OO.out, WW.out, s1, s2, s3])).symm.trans HQ.out
                      go_wp2; go_ret; exact ⟨rfl, HBC.out⟩
                  · obtain rfl : 3 = q := (bad_shape (r := ⟨fq, ev', ct, un, ds⟩) HN.out HDY.out (by simp [shapeB, OO.out, WW.out, s1, s2])).symm.trans HQ.out
                    go_wp2; go_ret; exact ⟨rfl, HBC.out⟩
                · obtain rfl : 3 = q := (bad_shape (r := ⟨fq, ev', ct, un, ds⟩) HN.out HDY.out (by simp [shapeB, OO.out, WW.out, s1])).symm.trans HQ.out
                  go_wp2; go_ret; exact ⟨rfl, HBC.out⟩
              | false =>
                cases bw with
                | true =>
                  by_cases s5 : ct = 0
                  · have HSH := Lib.hid (show shapeB ⟨fq, ev', ct, un, ds⟩ = true by simp [shapeB, OO.out, WW.out, s5])
                    subst s5
                    go_wp2_with fail
                    go_loopw [9] (fun p wq => ∃ (k m : Nat), (k = 0 ∨ k < ds.length) ∧ p = .int .i64 ((k : Int) + 1) ∧ wq = wr.drewN m ∧ ∀ j, j < k → Ints.el ds j < Ints.el ds (j + 1)) (fun p _ => ds.length + 1 - (intOf p).toNat)
                    case atStart => exact ⟨0, 0, Or.inl rfl, rfl, rfl, fun _ h => absurd h (Nat.not_lt_zero _)⟩
                    case round =>
                      obtain ⟨k, m, hk, rfl, rfl, hs⟩ := hrel
                      have HSo := Lib.hid hs
                      clear hs
                      have Km : (wr.drewN m).cell? ⟨w.heap.size, 2, none⟩ = some (.slice a ds.length cap) := by exact K2.out
                      by_cases hlt : k + 1 < ds.length
                      · obtain ⟨_, b, o, ha, hc⟩ := HRC.out.at (by rintro rfl; exact absurd hlt (Nat.not_lt_zero _))
                        subst ha
                        have c1 : (wr.drewN m).cell? ⟨b, o + (k + 1), none⟩ = some (.int .i64 (Ints.el ds (k + 1))) := by exact hc (k + 1) hlt
                        have c2 : (wr.drewN m).cell? ⟨b, o + k, none⟩ = some (.int .i64 (Ints.el ds k)) := by exact hc k (by omega)
                        have hi1 : (k : Int) + 1 < (ds.length : Int) := by omega
                        by_cases hq : Ints.el ds (k + 1) ≤ Ints.el ds k
                        · have hb := decide_eq_true hq
                          have HQ1 := Lib.hid hq
                          clear hq
                          go_wp2
                          go_quiet (fail)
                          go_wp2
                          go_ret
                          obtain rfl : 8 = q := (bad_order (r := ⟨fq, ev', _, _, ds⟩) HN.out HDY.out HSH.out (rise_no hlt HQ1.out)).symm.trans HQ.out
                          first | exact ⟨rfl, below_draw HBC.out _⟩ | exact ⟨rfl, below_draw (below_draw HBC.out _) _⟩
                        · have hb := decide_eq_false hq
                          have HQ1 := Lib.hid hq
                          clear hq
                          go_wp2
                          go_quiet (fail)
                          go_wp2
                          go_roundw
                          case rel =>
                            have hall : ∀ j, j < k + 1 → Ints.el ds j < Ints.el ds (j + 1) := fun j hj => by
                              by_cases ej : j = k
                              · subst ej; have := HQ1.out; omega
                              · exact HSo.out j (by omega)
                            first
                              | exact ⟨k + 1, _, Or.inr hlt, by go_num, rfl, hall⟩
                              | exact ⟨k + 1, _, Or.inr hlt, by go_num, drewN_add _ _ _, hall⟩
                              | ((repeat apply Exists.intro); exact ⟨⟨k + 1, _, Or.inr hlt, by go_num, drewN_add _ _ _, hall⟩, rfl⟩)
                              | ((repeat apply Exists.intro); exact ⟨⟨k + 1, _, Or.inr hlt, by go_num, rfl, hall⟩, rfl⟩)
                          case measure => simp [intOf]; omega
                      · have hi1 : (ds.length : Int) ≤ (k : Int) + 1 := by omega
                        go_wp2
                        go_ret
                        obtain rfl : 0 = q := (bad_none (r := ⟨fq, ev', _, _, ds⟩) HN.out HDY.out HSH.out (rise_yes (show ds.length ≤ k + 1 by omega) HSo.out)).symm.trans HQ.out
                        exact ⟨rfl, below_draw HBC.out m⟩
                  · by_cases s6 : un = -1
                    · have HSH := Lib.hid (show shapeB ⟨fq, ev', ct, un, ds⟩ = true by simp [shapeB, OO.out, WW.out, s5, s6])
                      subst s6
                      go_wp2_with fail
                      go_loopw [9] (fun p wq => ∃ (k m : Nat), (k = 0 ∨ k < ds.length) ∧ p = .int .i64 ((k : Int) + 1) ∧ wq = wr.drewN m ∧ ∀ j, j < k → Ints.el ds j < Ints.el ds (j + 1)) (fun p _ => ds.length + 1 - (intOf p).toNat)
                      case atStart => exact ⟨0, 0, Or.inl rfl, rfl, rfl, fun _ h => absurd h (Nat.not_lt_zero _)⟩
                      case round =>
                        obtain ⟨k, m, hk, rfl, rfl, hs⟩ := hrel
                        have HSo := Lib.hid hs
                        clear hs
                        have Km : (wr.drewN m).cell? ⟨w.heap.size, 2, none⟩ = some (.slice a ds.length cap) := by exact K2.out
                        by_cases hlt : k + 1 < ds.length
                        · obtain ⟨_, b, o, ha, hc⟩ := HRC.out.at (by rintro rfl; exact absurd hlt (Nat.not_lt_zero _))
                          subst ha
                          have c1 : (wr.drewN m).cell? ⟨b, o + (k + 1), none⟩ = some (.int .i64 (Ints.el ds (k + 1))) := by exact hc (k + 1) hlt
                          have c2 : (wr.drewN m).cell? ⟨b, o + k, none⟩ = some (.int .i64 (Ints.el ds k)) := by exact hc k (by omega)
                          have hi1 : (k : Int) + 1 < (ds.length : Int) := by omega
                          by_cases hq : Ints.el ds (k + 1) ≤ Ints.el ds k
                          · have hb := decide_eq_true hq
                            have HQ1 := Lib.hid hq
                            clear hq
                            go_wp2
                            go_quiet (fail)
                            go_wp2
                            go_ret
                            obtain rfl : 8 = q := (bad_order (r := ⟨fq, ev', _, _, ds⟩) HN.out HDY.out HSH.out (rise_no hlt HQ1.out)).symm.trans HQ.out
                            first | exact ⟨rfl, below_draw HBC.out _⟩ | exact ⟨rfl, below_draw (below_draw HBC.out _) _⟩
                          · have hb := decide_eq_false hq
                            have HQ1 := Lib.hid hq
                            clear hq
                            go_wp2
                            go_quiet (fail)
                            go_wp2
                            go_roundw
                            case rel =>
                              have hall : ∀ j, j < k + 1 → Ints.el ds j < Ints.el ds (j + 1) := fun j hj => by
                                by_cases ej : j = k
                                · subst ej; have := HQ1.out; omega
                                · exact HSo.out j (by omega)
                              first
                                | exact ⟨k + 1, _, Or.inr hlt, by go_num, rfl, hall⟩
                                | exact ⟨k + 1, _, Or.inr hlt, by go_num, drewN_add _ _ _, hall⟩
                                | ((repeat apply Exists.intro); exact ⟨⟨k + 1, _, Or.inr hlt, by go_num, drewN_add _ _ _, hall⟩, rfl⟩)
                                | ((repeat apply Exists.intro); exact ⟨⟨k + 1, _, Or.inr hlt, by go_num, rfl, hall⟩, rfl⟩)
                            case measure => simp [intOf]; omega
                        · have hi1 : (ds.length : Int) ≤ (k : Int) + 1 := by omega
                          go_wp2
                          go_ret
                          obtain rfl : 0 = q := (bad_none (r := ⟨fq, ev', _, _, ds⟩) HN.out HDY.out HSH.out (rise_yes (show ds.length ≤ k + 1 by omega) HSo.out)).symm.trans HQ.out
                          exact ⟨rfl, below_draw HBC.out m⟩
                    · obtain rfl : 3 = q := (bad_shape (r := ⟨fq, ev', ct, un, ds⟩) HN.out HDY.out (by simp [shapeB, OO.out, WW.out, s5, s6])).symm.trans HQ.out
                      go_wp2; go_ret; exact ⟨rfl, HBC.out⟩
                | false =>
                  have hz0 : ds = [] ↔ ds.length = 0 := List.length_eq_zero_iff.symm
                  by_cases s4 : ds = []
                  · by_cases s5 : ct = 0
                    · have HSH := Lib.hid (show shapeB ⟨fq, ev', ct, un, ds⟩ = true by simp [shapeB, OO.out, WW.out, s4, s5])
                      go_wp2_with fail
                      go_loopw [9] (fun p wq => ∃ (k m : Nat), (k = 0 ∨ k < ds.length) ∧ p = .int .i64 ((k : Int) + 1) ∧ wq = wr.drewN m ∧ ∀ j, j < k → Ints.el ds j < Ints.el ds (j + 1)) (fun p _ => ds.length + 1 - (intOf p).toNat)
                      case atStart => exact ⟨0, 0, Or.inl rfl, rfl, rfl, fun _ h => absurd h (Nat.not_lt_zero _)⟩
                      case round =>
                        obtain ⟨k, m, hk, rfl, rfl, hs⟩ := hrel
                        have HSo := Lib.hid hs
                        clear hs
                        have Km : (wr.drewN m).cell? ⟨w.heap.size, 2, none⟩ = some (.slice a ds.length cap) := by exact K2.out
                        by_cases hlt : k + 1 < ds.length
                        · exact absurd hlt (by rw [s4]; simp)
                        · have hi1 : (ds.length : Int) ≤ (k : Int) + 1 := by omega
                          go_wp2
                          go_ret
                          obtain rfl : 0 = q := (bad_none (r := ⟨fq, ev', _, _, ds⟩) HN.out HDY.out HSH.out (rise_yes (show ds.length ≤ k + 1 by omega) HSo.out)).symm.trans HQ.out
                          exact ⟨rfl, below_draw HBC.out m⟩
                    · by_cases s6 : un = -1
                      · have HSH := Lib.hid (show shapeB ⟨fq, ev', ct, un, ds⟩ = true by simp [shapeB, OO.out, WW.out, s4, s5, s6])
                        go_wp2_with fail
                        go_loopw [9] (fun p wq => ∃ (k m : Nat), (k = 0 ∨ k < ds.length) ∧ p = .int .i64 ((k : Int) + 1) ∧ wq = wr.drewN m ∧ ∀ j, j < k → Ints.el ds j < Ints.el ds (j + 1)) (fun p _ => ds.length + 1 - (intOf p).toNat)
                        case atStart => exact ⟨0, 0, Or.inl rfl, rfl, rfl, fun _ h => absurd h (Nat.not_lt_zero _)⟩
                        case round =>
                          obtain ⟨k, m, hk, rfl, rfl, hs⟩ := hrel
                          have HSo := Lib.hid hs
                          clear hs
                          have Km : (wr.drewN m).cell? ⟨w.heap.size, 2, none⟩ = some (.slice a ds.length cap) := by exact K2.out
                          by_cases hlt : k + 1 < ds.length
                          · exact absurd hlt (by rw [s4]; simp)
                          · have hi1 : (ds.length : Int) ≤ (k : Int) + 1 := by omega
                            go_wp2
                            go_ret
                            obtain rfl : 0 = q := (bad_none (r := ⟨fq, ev', _, _, ds⟩) HN.out HDY.out HSH.out (rise_yes (show ds.length ≤ k + 1 by omega) HSo.out)).symm.trans HQ.out
                            exact ⟨rfl, below_draw HBC.out m⟩
                      · obtain rfl : 3 = q := (bad_shape (r := ⟨fq, ev', ct, un, ds⟩) HN.out HDY.out (by simp [shapeB, OO.out, WW.out, s4, s5, s6])).symm.trans HQ.out
                        go_wp2; go_ret; exact ⟨rfl, HBC.out⟩
                  · have hp4 : 0 < ds.length := Nat.pos_of_ne_zero (fun h => s4 (hz0.2 h))
                    obtain rfl : 3 = q := (bad_shape (r := ⟨fq, ev', ct, un, ds⟩) HN.out HDY.out (by simp [shapeB, OO.out, WW.out, s4])).symm.trans HQ.out
                    go_wp2; go_ret; exact ⟨rfl, HBC.out⟩
end Cand
end Go.Proofs.YtghkalamlcfnnaaGreatDoor
