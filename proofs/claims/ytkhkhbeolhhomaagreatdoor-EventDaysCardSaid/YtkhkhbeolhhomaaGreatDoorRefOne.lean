/- The reference's IsOne. -/
import Derived.Test.YtkhkhbeolhhomaaGreatDoorRefAll
namespace Go.Proofs.YtkhkhbeolhhomaaGreatDoor
open Go Go.RowKit Go.Shelf Lmd
namespace Cand
open Rul Day Er Ref

set_option maxRecDepth 100000 in
set_option maxHeartbeats 4000000 in
theorem isOne_any (start y m d dd : Int) (r : Ru) (v : Value) (w : World) (ha : Cal.At start y m d) (hbad : bad r = 0) (hr : Ints.Reads w v r.ds) (hl : r.ds.length < 1000) :
    Calls Tryz.prog 100 #[.int .i64 start, .agg #[.string r.fq, .int .i64 r.ev, v, .int .i64 r.ct, .int .i64 r.un], .int .i64 dd] w fun e w' => e = .returned (.bool (decide (dd ∈ daysOf r.ct r.un (cands start y m d r)))) ∧ Below w.heap.size w w' := by
  obtain ⟨a, cap, rfl⟩ := hr.shape
  obtain ⟨p1, p2, p3, p4, p5⟩ := bad_parts hbad
  obtain ⟨⟨p6, p7⟩, ⟨p8, p9⟩, p10, p11⟩ := bound_parts p2
  have hbd := Cal.at_bd ha
  have hrise := cands_rise (start := start) (y := y) (m := m) (d := d) p6 p5 p3
  have hbdc := cands_bd ha p6
  obtain ⟨W1, hW1⟩ : ∃ W1, w.alloc (.cells #[.string r.fq, .int .i64 r.ev, .slice a r.ds.length cap, .int .i64 r.ct, .int .i64 r.un] 35) = W1 := ⟨_, rfl⟩
  have hB : Below w.heap.size w W1 := by rw [← hW1]; exact (Below.refl _ w).alloc (Nat.le_refl _) _
  have hz1' : W1.heap.size = w.heap.size + 1 := by rw [← hW1]; simp
  have hx := heap_new w (.cells #[.string r.fq, .int .i64 r.ev, .slice a r.ds.length cap, .int .i64 r.ct, .int .i64 r.un] 35)
  rw [hW1] at hx
  have hcand : ∀ z n b, Cal.At dd z n b → start ≤ dd → Calls Tryz.prog 161 #[.int .i64 start, .agg #[.string r.fq, .int .i64 r.ev, .slice a r.ds.length cap, .int .i64 r.ct, .int .i64 r.un], .int .i64 dd] W1 fun e w' => e = .returned (.bool (decide (dd ∈ cands start y m d r))) ∧ Below W1.heap.size W1 w' := fun z n b hx hle => by
    have := isCandidate_any start y m d dd z n b r _ W1 ha hx hle p6 p7 (hr.below hB) hl
    have e : candB start y m d z n b r dd = decide (dd ∈ cands start y m d r) := Bool.eq_iff_iff.2 (by rw [candB_iff ha hx p6 p3 hle]; simp)
    rw [e] at this
    exact this
  have hall : ∀ W, Below w.heap.size w W → Calls Tryz.prog 99 #[.int .i64 start, .agg #[.string r.fq, .int .i64 r.ev, .slice a r.ds.length cap, .int .i64 r.ct, .int .i64 r.un], .int .i64 dd] W fun e w' => ∃ v', e = .returned v' ∧ Ints.Reads w' v' ((daysOf r.ct r.un (cands start y m d r)).filter fun x => decide (x ≤ dd)) ∧ Below W.heap.size W w' :=
    fun W hW => allDays_any start y m d dd r _ W ha hbad (hr.below hW) hl
  obtain ⟨C, hC⟩ : ∃ C, cands start y m d r = C := ⟨_, rfl⟩
  rw [hC] at hrise hbdc hcand hall ⊢
  obtain ⟨q, hq⟩ : ∃ q, decide (dd ∈ daysOf r.ct r.un C) = q := ⟨_, rfl⟩
  rw [hq]
  have hlenf : ((daysOf r.ct r.un C).filter fun x => decide (x ≤ dd)).length ≤ 1000000000 := by
    have h1 := List.length_filter_le (fun x => decide (x ≤ dd)) (daysOf r.ct r.un C)
    have h2 := (daysOf_sub r.ct r.un C).length_le
    have hn : ∀ (l : List Int) (lo : Int), l.Pairwise (· < ·) → (∀ x ∈ l, lo ≤ x ∧ x ≤ 73048) → lo ≤ 73049 → (l.length : Int) ≤ 73049 - lo := by
      intro l
      induction l with
      | nil => intro lo _ _ h; simp; omega
      | cons x xs ih =>
        intro lo hp hb hlo
        have hx := hb x (by simp)
        have := ih (x + 1) (List.pairwise_cons.1 hp).2 (fun z hz => ⟨by have := (List.pairwise_cons.1 hp).1 z hz; omega, (hb z (by simp [hz])).2⟩) (by omega)
        simp; omega
    have := hn C 0 hrise (fun x hx => by have := hbdc x hx; omega) (by omega)
    omega
  have HQ := Lib.hid hq
  have HX := Lib.hid hx
  have HB := Lib.hid hB
  have HCAND := Lib.hid hcand
  have HALL := Lib.hid hall
  have HRISE := Lib.hid hrise
  have HBDC := Lib.hid hbdc
  have HLF := Lib.hid hlenf
  clear hx hB hcand hall hrise hbdc hC ha hr p1 p2 p3 p4 p5 hbad hq hlenf
  have no : dd ∉ C → q = false := fun h => by rw [← HQ.out]; exact decide_eq_false (fun hm => h (one_out hm).1)
  have NO := Lib.hid no
  clear no
  obtain ⟨q0, q1, q2, q3, q4, _⟩ := cells5 HX.out
  by_cases h1 : dd < start
  · obtain rfl := NO.out (fun hm => by have := HBDC.out _ hm; omega)
    go_enter Tryz.func100, Tryz.ntmps100
    go_wp2
    go_ret
    exact ⟨rfl, by first | exact HB.out | (rw [hW1]; exact HB.out)⟩
  by_cases h2 : 73048 < dd
  · obtain rfl := NO.out (fun hm => by have := HBDC.out _ hm; omega)
    go_enter Tryz.func100, Tryz.ntmps100
    go_wp2
    go_ret
    exact ⟨rfl, by first | exact HB.out | (rw [hW1]; exact HB.out)⟩
  obtain ⟨z, n, b, hat⟩ := Cal.at_exists dd (by omega) (by omega)
  have hc := HCAND.out z n b hat (by omega)
  clear hat HCAND
  by_cases hin : dd ∈ C
  case neg =>
    rw [decide_eq_false hin] at hc
    obtain rfl := NO.out hin
    have HC := Lib.hid hc
    clear hc
    go_enter Tryz.func100, Tryz.ntmps100
    go_wp2_with fail
    refine HC.out.mono ?_
    rintro e1 wa ⟨rfl, hba⟩
    have HF := Lib.hid (HB.out.trans (hba.mono (by omega)))
    clear hba
    go_wp2
    go_ret
    exact ⟨rfl, HF.out⟩
  rw [decide_eq_true hin] at hc
  have HC := Lib.hid hc
  clear hc
  by_cases h3 : 0 ≤ r.un ∧ r.un < dd
  · obtain ⟨h3a, h3b⟩ := h3
    obtain rfl : q = false := by
      rw [← HQ.out]
      exact decide_eq_false (fun hm => by
        have := (one_out hm).2
        simp only [under, decide_eq_true_eq] at this
        omega)
    go_enter Tryz.func100, Tryz.ntmps100
    go_wp2_with fail
    refine HC.out.mono ?_
    rintro e1 wa ⟨rfl, hba⟩
    obtain ⟨z0, z1, z2, z3, z4, _⟩ := cells5 (row_below HX.out hba)
    have HF := Lib.hid (HB.out.trans (hba.mono (by omega)))
    clear hba
    go_wp2
    go_ret
    exact ⟨rfl, HF.out⟩
  have hu : under r.un dd = true := by
    simp only [under, decide_eq_true_eq]
    by_cases e : r.un = -1
    · exact .inl e
    · exact .inr (by by_cases e2 : r.un < dd; exact absurd ⟨by omega, e2⟩ h3; omega)
  have hdisj : (0 ≤ r.un ∧ dd ≤ r.un) ∨ r.un < 0 := by
    by_cases e : 0 ≤ r.un
    · exact .inl ⟨e, by by_cases e2 : r.un < dd; exact absurd ⟨e, e2⟩ h3; omega⟩
    · exact .inr (by omega)
  have HU := Lib.hid hu
  clear hu h3
  by_cases h4 : r.ct = 0
  · obtain rfl : q = true := by rw [← HQ.out]; exact decide_eq_true (one_in HRISE.out hin HU.out (by omega))
    have H4 := Lib.hid h4
    clear h4
    rcases hdisj with ⟨d1, d2⟩ | d1
    all_goals (
      go_enter Tryz.func100, Tryz.ntmps100
      go_wp2_with fail
      refine HC.out.mono ?_
      rintro e1 wa ⟨rfl, hba⟩
      obtain ⟨z0, z1, z2, z3, z4, _⟩ := cells5 (row_below HX.out hba)
      have HF := Lib.hid (HB.out.trans (hba.mono (by omega)))
      clear hba
      have h4 := H4.out
      go_wp2
      go_ret
      exact ⟨rfl, HF.out⟩)
  · have hq2 : decide (dd ∈ (daysOf r.ct r.un C).filter fun x => decide (x ≤ dd)) = q := by rw [← HQ.out]; exact Bool.eq_iff_iff.2 (by simp)
    have HQ2 := Lib.hid hq2
    clear hq2
    rcases hdisj with ⟨d1, d2⟩ | d1
    all_goals (
      go_enter Tryz.func100, Tryz.ntmps100
      go_wp2_with fail
      refine HC.out.mono ?_
      rintro e1 wa ⟨rfl, hba⟩
      obtain ⟨z0, z1, z2, z3, z4, _⟩ := cells5 (row_below HX.out hba)
      have hbw := HB.out.trans (hba.mono (by omega))
      have hal := HALL.out wa hbw
      have hsw := hbw.size
      have HAL := Lib.hid hal
      have HBW := Lib.hid hbw
      clear hba hbw hal
      go_wp2_with fail
      refine HAL.out.mono ?_
      rintro e2 wb ⟨v', rfl, hrd, hbb⟩
      have hi := isIn_any dd v' _ wb hrd HLF.out
      rw [HQ2.out] at hi
      have HI := Lib.hid hi
      have HF := Lib.hid (HBW.out.trans (hbb.mono hsw))
      clear hi hrd hbb
      go_wp2_with fail
      refine HI.out.mono ?_
      rintro e3 wc ⟨rfl, rfl⟩
      go_wp2
      go_ret
      exact ⟨rfl, HF.out⟩)
end Cand
end Go.Proofs.YtkhkhbeolhhomaaGreatDoor
