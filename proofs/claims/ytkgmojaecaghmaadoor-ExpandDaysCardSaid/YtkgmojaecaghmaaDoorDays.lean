/- The walk of the law ExpandDays (printed by gen_days.py). -/
import Derived.Test.YtkgmojaecaghmaaDoorInBad
import Derived.Test.YtkgmojaecaghmaaDoorRises
import Derived.Test.YtkgmojaecaghmaaDoorRefOne
import Derived.Test.YtkgmojaecaghmaaDoorRefError
namespace Go.Proofs.YtkgmojaecaghmaaDoor
open Go Go.RowKit Go.Shelf Lmd
namespace Cand
open Rul Day Er Ref

theorem bad_le (r : Ru) : bad r ≤ 8 := by unfold bad; split <;> (try split) <;> (try split) <;> (try split) <;> omega
theorem nth_nil (n : Int) : nthB [] n = false ∧ nthV [] n = 0 := nthB_miss (by simp)
theorem isB_nil (d : Int) : isB [] d = false := rfl
theorem isDay_b (n : Int) (w : World) : Calls Tryd.prog 33 #[.int .i64 n] w fun e w' => e = .returned (.bool (decide (0 ≤ n ∧ n ≤ 73048))) ∧ w = w' := by
  by_cases h : 0 ≤ n ∧ n ≤ 73048
  · rw [decide_eq_true h]; exact isDay_yes n w h
  · rw [decide_eq_false h]; exact isDay_no n w h

set_option maxRecDepth 100000 in
set_option maxHeartbeats 8000000 in
/-- where the rule or the start is not well -/
theorem days_bad (start : Int) (r : Ru) (a3 : Option Addr) (c3 : Nat) (ka kb : Int) (e : Nat → Addr) (k : Nat) (w4 : World) (hl : r.ds.length < 1000) (he : Errs w4 e)
    (hbad : bad r = k + 1 ∨ bad r = 0 ∧ ¬ (0 ≤ start ∧ start ≤ 73048) ∧ k = 1)
    (hr3 : Ints.Reads w4 (.slice a3 r.ds.length c3) r.ds) :
    (Calls Tryd.prog 31 #[.int .i64 start, .agg #[.string r.fq, .int .i64 r.ev, .slice a3 r.ds.length c3, .int .i64 r.ct, .int .i64 r.un], .int .i64 ka, .int .i64 kb] w4 fun e' w' => e' = .returned (.tuple #[.slice none 0 0, ev (e k)]) ∧ Below w4.heap.size w4 w') := by
  rcases hbad with h | ⟨h, hs, rfl⟩
  · have := in_bad start r _ ka kb e w4 (by omega) (four he) hr3 hl
    rw [h] at this
    exact this
  · exact in_off start r _ ka kb e w4 h hs (four he) hr3 hl

set_option maxRecDepth 100000 in
set_option maxHeartbeats 8000000 in
theorem expandDays_any (start : Int) (r : Ru) (v : Value) (ka kb n dd : Int) (e : Nat → Addr) (w : World) (he : Errs w e) (hr : Ints.Reads w v r.ds) (hf : r.fq.size ≤ 9223372036854775807) (hd : r.ds.length ≤ 9223372036854775807) :
    Calls Tryd.prog 8 #[.int .i64 start, r.val v, .int .i64 ka, .int .i64 kb, .int .i64 n, .int .i64 dd] w fun e' w' => e' = .returned (.bool true) ∧ Below w.heap.size w w' := by
  obtain ⟨a, cap, rfl⟩ := hr.shape
  have hlr := fun w => longRule_any r a cap w hf hd
  have HLR := Lib.hid hlr
  have HE := Lib.hid he
  have HR := Lib.hid hr
  clear hlr he hr
  obtain ⟨w0, hw0⟩ : ∃ w0, w.alloc (.cells #[.string r.fq, .int .i64 r.ev, .slice a r.ds.length cap, .int .i64 r.ct, .int .i64 r.un] 24) = w0 := ⟨_, rfl⟩
  have hB0 : Below w.heap.size w w0 := by rw [← hw0]; exact (Below.refl _ w).alloc (Nat.le_refl _) _
  have hx0 := heap_new w (.cells #[.string r.fq, .int .i64 r.ev, .slice a r.ds.length cap, .int .i64 r.ct, .int .i64 r.un] 24)
  rw [hw0] at hx0
  have hz0 : w0.heap.size = w.heap.size + 1 := by rw [← hw0]; simp
  have HX0 := Lib.hid hx0
  go_enter Tryd.func8, Tryd.ntmps8
  simp only [Ru.val]
  go_wp2_with (go_at_call 12; refine (expanded_any e _ (four (HE.out.below hB0))).mono ?_; rintro e' w1 ⟨rfl, hb1⟩
               have k0 := cell_later hb1 (cell_of HX0.out (i := 0) rfl)
               have k1 := cell_later hb1 (cell_of HX0.out (i := 1) rfl)
               have k2 := cell_later hb1 (cell_of HX0.out (i := 2) rfl)
               have k3 := cell_later hb1 (cell_of HX0.out (i := 3) rfl)
               have k4 := cell_later hb1 (cell_of HX0.out (i := 4) rfl))
  by_cases hlong : 20 < r.fq.size ∨ 20 < r.ds.length
  · have h := HLR.out w1
    rw [if_pos hlong] at h
    refine h.mono ?_
    rintro e' w2 ⟨rfl, hb2⟩
    have HBW := Lib.hid ((hB0.trans (hb1.mono (by omega))).trans (hb2.mono (by have := hb1.size; omega)))
    clear h
    go_wp2
    go_ret
    exact ⟨rfl, HBW.out⟩
  have h := HLR.out w1
  rw [if_neg hlong] at h
  refine h.mono ?_
  rintro e' w2 ⟨rfl, hb2⟩
  have hx2 := row_below (row_below HX0.out hb1) hb2
  have hbw := (hB0.trans (hb1.mono (by omega))).trans (hb2.mono (by have := hb1.size; omega))
  have HBW := Lib.hid hbw
  replace k0 := cell_later hb2 k0
  replace k1 := cell_later hb2 k1
  replace k2 := cell_later hb2 k2
  replace k3 := cell_later hb2 k3
  replace k4 := cell_later hb2 k4
  have hE2 := HE.out.below hbw
  have hR2 := HR.out.below hbw
  have hs2 := hbw.size
  have HE2 := Lib.hid hE2
  have HR2 := Lib.hid hR2
  have HX2 := Lib.hid hx2
  clear h HLR HE HR hb1 hb2 hB0 HX0 hw0 hx0 hbw hE2 hR2 hx2
  have hown := own_any r _ w2 HR2.out (by omega)
  have HOWN := Lib.hid hown
  clear hown
  go_wp2_with (go_at_call 14; refine HOWN.out.mono ?_; rintro e' w3 ⟨v3, rfl, hr3, hb3⟩; obtain ⟨a3, c3, rfl⟩ := hr3.shape)
  have hB4 : Below w3.heap.size w3 (w3.alloc (.cells #[.string r.fq, .int .i64 r.ev, .slice a3 r.ds.length c3, .int .i64 r.ct, .int .i64 r.un] 24)) := (Below.refl _ w3).alloc (Nat.le_refl _) _
  have hx4 := heap_new w3 (.cells #[.string r.fq, .int .i64 r.ev, .slice a3 r.ds.length c3, .int .i64 r.ct, .int .i64 r.un] 24)
  generalize w3.alloc (.cells #[.string r.fq, .int .i64 r.ev, .slice a3 r.ds.length c3, .int .i64 r.ct, .int .i64 r.un] 24) = w4 at *
  have hb24 := hb3.trans (hB4.mono hb3.size)
  have hbw4 := HBW.out.trans (hb24.mono hs2)
  have hE4 := HE2.out.below hb24
  have hR0 := HR2.out.below hb24
  have hR4 := hr3.below hB4
  have hx0 := row_below HX2.out hb24
  have hl : r.ds.length < 1000 := by omega
  have hs4 := hbw4.size
  have HB4 := Lib.hid hbw4
  have HE4 := Lib.hid hE4
  have HR0 := Lib.hid hR0
  have HR4 := Lib.hid hR4
  have HX0 := Lib.hid hx0
  have HX4 := Lib.hid hx4
  have HERR := Lib.hid (fun W (h : Below w4.heap.size w4 W) => ruleError_any r (.slice a r.ds.length cap) W (hR0.below h) hl)
  clear hB4 hb3 hb24 hbw4 hE4 hR0 hR4 hx0 hx4 hr3 HX2 HR2 HE2 HBW HOWN k0 k1 k2 k3 k4
  by_cases hgood : bad r = 0 ∧ 0 ≤ start ∧ start ≤ 73048
  case neg =>
    obtain ⟨k, hk, hcase⟩ : ∃ k, k < 11 ∧ (bad r = k + 1 ∨ bad r = 0 ∧ ¬ (0 ≤ start ∧ start ≤ 73048) ∧ k = 1) := by
      by_cases h : bad r = 0
      · exact ⟨1, by omega, .inr ⟨h, fun h2 => hgood ⟨h, h2⟩, rfl⟩⟩
      · exact ⟨bad r - 1, by have := bad_le r; omega, .inl (by omega)⟩
    have hin := days_bad start r a3 c3 ka kb e k w4 hl HE4.out hcase HR4.out
    have hg : Gives start r (.slice a3 r.ds.length c3) [] w4 := gives_none start r _ e w4 (four HE4.out) (by rcases hcase with h | ⟨h1, h2, _⟩; exact .inr (by omega); exact .inl h2) hl
    have HN := Lib.hid (fun W (h : Below w4.heap.size w4 W) => nth_agg start r (.slice a3 r.ds.length c3) n [] e W (hg.below h) (four (HE4.out.below h)) (HR4.out.below h))
    have HI := Lib.hid (fun W (h : Below w4.heap.size w4 W) => is_agg start r (.slice a3 r.ds.length c3) dd [] e W (hg.below h) (four (HE4.out.below h)) (HR4.out.below h))
    have HM := Lib.hid (fun W (h : Below w4.heap.size w4 W) => many_any start r (.slice a3 r.ds.length c3) [] e W (hg.below h) (four (HE4.out.below h)) (HR4.out.below h))
    have HC := Lib.hid (fun W (h : Below w4.heap.size w4 W) => coded_sent e k hk ((k : Int) + 1) rfl W (HE4.out.below h))
    have HIN := Lib.hid hin
    clear hin hg hgood
    simp only [ev] at HIN HC
    obtain ⟨q0, q1, q2, q3, q4, _⟩ := cells5 HX4.out
    go_wp2_with fail
    refine HIN.out.mono ?_
    rintro e1 w5 ⟨rfl, hb5⟩
    obtain ⟨q0, q1, q2, q3, q4, _⟩ := cells5 (row_below HX0.out hb5)
    have HB5 := Lib.hid hb5
    clear hb5 HIN
    go_wp2_with fail
    refine (HERR.out w5 HB5.out).mono ?_
    rintro e1 w6 ⟨rfl, hb6⟩
    have hb46 := HB5.out.trans (hb6.mono HB5.out.size)
    obtain ⟨q0, q1, q2, q3, q4, _⟩ := cells5 (row_below HX4.out hb46)
    have HB6 := Lib.hid hb46
    clear hb6 hb46 HB5
    go_wp2_with fail
    refine (isDay_b start w6).mono ?_
    rintro e1 w6' ⟨rfl, rfl⟩
    rcases hcase with hq | ⟨hq, hs, rfl⟩
    · rw [hq]
      rw [Int.natCast_add]
      have hpos : (0 : Int) < (k : Int) + 1 := by omega
      clear hq
      go_wp2_with fail
      refine (HN.out w6 HB6.out).mono ?_
      rw [(nth_nil n).1, (nth_nil n).2]
      rintro e1 w7 ⟨rfl, hb7⟩
      have hb47 := HB6.out.trans (hb7.mono HB6.out.size)
      obtain ⟨q0, q1, q2, q3, q4, _⟩ := cells5 (row_below HX4.out hb47)
      have HB7 := Lib.hid hb47
      clear hb7 hb47 HB6 HN
      go_wp2_with fail
      refine (HI.out w7 HB7.out).mono ?_
      rw [isB_nil dd]
      rintro e1 w8 ⟨rfl, hb8⟩
      have HB8 := Lib.hid (HB7.out.trans (hb8.mono HB7.out.size))
      clear hb8 HB7 HI
      go_wp2_with fail
      refine (HC.out w8 HB8.out).mono ?_
      rintro e1 w9 ⟨rfl, hb9⟩
      have hb49 := HB8.out.trans (hb9.mono HB8.out.size)
      obtain ⟨q0, q1, q2, q3, q4, _⟩ := cells5 (row_below HX4.out hb49)
      have HB9 := Lib.hid hb49
      clear hb9 hb49 HB8 HC
      go_wp2_with fail
      refine (HM.out w9 HB9.out).mono ?_
      rintro e1 w10 ⟨rfl, hb10⟩
      have HF := Lib.hid (HB4.out.trans ((HB9.out.trans (hb10.mono HB9.out.size)).mono hs4))
      clear hb10 HB9 HM
      go_wp2
      go_ret
      exact ⟨rfl, HF.out⟩
    · rw [hq, decide_eq_false hs]
      clear hq
      go_wp2_with fail
      refine (HN.out w6 HB6.out).mono ?_
      rw [(nth_nil n).1, (nth_nil n).2]
      rintro e1 w7 ⟨rfl, hb7⟩
      have hb47 := HB6.out.trans (hb7.mono HB6.out.size)
      obtain ⟨q0, q1, q2, q3, q4, _⟩ := cells5 (row_below HX4.out hb47)
      have HB7 := Lib.hid hb47
      clear hb7 hb47 HB6 HN
      go_wp2_with fail
      refine (HI.out w7 HB7.out).mono ?_
      rw [isB_nil dd]
      rintro e1 w8 ⟨rfl, hb8⟩
      have HB8 := Lib.hid (HB7.out.trans (hb8.mono HB7.out.size))
      clear hb8 HB7 HI
      go_wp2_with fail
      refine (HC.out w8 HB8.out).mono ?_
      rintro e1 w9 ⟨rfl, hb9⟩
      have hb49 := HB8.out.trans (hb9.mono HB8.out.size)
      obtain ⟨q0, q1, q2, q3, q4, _⟩ := cells5 (row_below HX4.out hb49)
      have HB9 := Lib.hid hb49
      clear hb9 hb49 HB8 HC
      go_wp2_with fail
      refine (HM.out w9 HB9.out).mono ?_
      rintro e1 w10 ⟨rfl, hb10⟩
      have HF := Lib.hid (HB4.out.trans ((HB9.out.trans (hb10.mono HB9.out.size)).mono hs4))
      clear hb10 HB9 HM
      go_wp2
      go_ret
      exact ⟨rfl, HF.out⟩
  obtain ⟨hbad, hst⟩ := hgood
  obtain ⟨y, m, d, ha⟩ := Cal.at_exists start hst.1 hst.2
  obtain ⟨p1, p2, p3, p4, p5⟩ := bad_parts hbad
  obtain ⟨⟨p6, p7⟩, _⟩ := bound_parts p2
  have hrise := cands_rise (start := start) (y := y) (m := m) (d := d) p6 p5 p3
  have hbdc := cands_bd ha p6
  have hg := gives_all start y m d r (.slice a3 r.ds.length c3) e w4 (four HE4.out) hbad hl ha
  have hall : ∀ W, Below w4.heap.size w4 W → Calls Tryd.prog 34 #[.int .i64 start, .agg #[.string r.fq, .int .i64 r.ev, .slice a r.ds.length cap, .int .i64 r.ct, .int .i64 r.un], .int .i64 73048] W fun e w' => ∃ v', e = .returned v' ∧ Ints.Reads w' v' (daysOf r.ct r.un (cands start y m d r)) ∧ Below W.heap.size W w' := fun W h => by
    have h2 := allDays_any start y m d 73048 r (.slice a r.ds.length cap) W ha hbad (HR0.out.below h) hl
    have e1 : (daysOf r.ct r.un (cands start y m d r)).filter (fun x => decide (x ≤ 73048)) = daysOf r.ct r.un (cands start y m d r) := List.filter_eq_self.2 (fun x hx => by
      have := (hbdc x ((daysOf_sub _ _ _).subset hx)).2
      simpa using this)
    rw [e1] at h2
    exact h2
  have hone := fun W (h : Below w4.heap.size w4 W) => isOne_any start y m d dd r (.slice a r.ds.length cap) W ha hbad (HR0.out.below h) hl
  obtain ⟨L, hL⟩ : ∃ L, daysOf r.ct r.un (cands start y m d r) = L := ⟨_, rfl⟩
  have hLr : L.Pairwise (· < ·) := by rw [← hL]; exact hrise.sublist (daysOf_sub _ _ _)
  have hLb : ∀ x ∈ L, 0 ≤ x ∧ x ≤ 73048 := fun x hx => by
    have := hbdc x ((daysOf_sub r.ct r.un _).subset (by rw [hL]; exact hx))
    omega
  have hLlen : (L.length : Int) ≤ 73049 := by
    have hn : ∀ (l : List Int) (lo : Int), l.Pairwise (· < ·) → (∀ x ∈ l, lo ≤ x ∧ x ≤ 73048) → lo ≤ 73049 → (l.length : Int) ≤ 73049 - lo := by
      intro l
      induction l with
      | nil => intro lo _ _ h; simp; omega
      | cons x xs ih =>
        intro lo hp hb hlo
        have hx := hb x (by simp)
        have := ih (x + 1) (List.pairwise_cons.1 hp).2 (fun z hz => ⟨by have := (List.pairwise_cons.1 hp).1 z hz; omega, (hb z (by simp [hz])).2⟩) (by omega)
        simp; omega
    have := hn L 0 hLr hLb (by omega)
    omega
  rw [hL] at hg hall hone
  have hin := in_good start r _ ka kb L e w4 hst hbad hg hLr HE4.out HR4.out hl
  obtain ⟨NB, hNB⟩ : ∃ NB, nthB L n = NB := ⟨_, rfl⟩
  obtain ⟨NV, hNV⟩ : ∃ NV, nthV L n = NV := ⟨_, rfl⟩
  obtain ⟨IB, hIB⟩ : ∃ IB, isB L dd = IB := ⟨_, rfl⟩
  have hOB : decide (dd ∈ L) = IB := by rw [← hIB]; exact Bool.eq_iff_iff.2 (by rw [isB_iff hLr]; simp)
  have hnth := fun W (h : Below w4.heap.size w4 W) => nth_agg start r (.slice a3 r.ds.length c3) n L e W (hg.below h) (four (HE4.out.below h)) (HR4.out.below h)
  have his := fun W (h : Below w4.heap.size w4 W) => is_agg start r (.slice a3 r.ds.length c3) dd L e W (hg.below h) (four (HE4.out.below h)) (HR4.out.below h)
  rw [hNB, hNV] at hnth
  rw [hIB] at his
  rw [hOB] at hone
  have HN := Lib.hid hnth
  have HI := Lib.hid his
  have HONE := Lib.hid hone
  have HM := Lib.hid (fun W (h : Below w4.heap.size w4 W) => many_any start r (.slice a3 r.ds.length c3) L e W (hg.below h) (four (HE4.out.below h)) (HR4.out.below h))
  have HC := Lib.hid (fun W (h : Below w4.heap.size w4 W) => coded_sent e 6 (by omega) 7 rfl W (HE4.out.below h))
  have HIN := Lib.hid hin
  have HALL := Lib.hid hall
  have HNB := Lib.hid hNB
  have HNV := Lib.hid hNV
  have HLL := Lib.hid hLlen
  clear hg hall hone hnth his hin hL hLr hLb hLlen hNB hNV hIB hOB hrise hbdc ha p1 p2 p3 p4 p5 p6 p7
  simp only [ev] at HIN HC
  rw [hbad] at HERR
  obtain ⟨q0, q1, q2, q3, q4, _⟩ := cells5 HX4.out
  go_wp2_with fail
  refine HIN.out.mono ?_
  rintro e1 w5 ⟨v5, er, rfl, hres, hb5⟩
  obtain ⟨q0, q1, q2, q3, q4, _⟩ := cells5 (row_below HX0.out hb5)
  have HRES := Lib.hid hres
  have HB5 := Lib.hid hb5
  clear hb5 hres HIN
  go_wp2_with fail
  refine (HERR.out w5 HB5.out).mono ?_
  rintro e1 w6 ⟨rfl, hb6⟩
  have hb56 := HB5.out.size
  have hb46 := HB5.out.trans (hb6.mono HB5.out.size)
  obtain ⟨q0, q1, q2, q3, q4, _⟩ := cells5 (row_below HX4.out hb46)
  have HB6 := Lib.hid hb46
  have HB56 := Lib.hid hb6
  clear hb6 hb46 HERR
  go_wp2_with fail
  refine (isDay_b start w6).mono ?_
  rw [decide_eq_true hst]
  rintro e1 w6' ⟨rfl, rfl⟩
  go_wp2_with fail
  refine (HN.out w6 HB6.out).mono ?_
  rintro e1 w7 ⟨rfl, hb7⟩
  have hb47 := HB6.out.trans (hb7.mono HB6.out.size)
  have hb57 := HB56.out.trans (hb7.mono HB56.out.size)
  obtain ⟨q0, q1, q2, q3, q4, _⟩ := cells5 (row_below HX0.out hb47)
  have HB7 := Lib.hid hb47
  have HB57 := Lib.hid hb57
  clear hb7 hb47 hb57 HB6 HB56 HN
  go_wp2_with fail
  refine (HALL.out w7 HB7.out).mono ?_
  rintro e1 w10 ⟨v9, rfl, hr9, hb10⟩
  obtain ⟨a9, c9, rfl⟩ := hr9.shape
  have hb410 := HB7.out.trans (hb10.mono HB7.out.size)
  have hb510 := HB57.out.trans (hb10.mono HB57.out.size)
  have HB10 := Lib.hid hb410
  have HB510 := Lib.hid hb510
  have HR9 := Lib.hid hr9
  have hs10 := hb410.size
  have hs510 := hb510.size
  obtain ⟨i0, hi0, hz00, hz1, hz2⟩ := info_parts int_info
  clear hb10 hb410 hb510 HB7 HB57 HALL hr9 q0 q1 q2 q3 q4
  go_wp2_with fail
  go_loopw [23, 24] (fun v23 p wr => ∃ i : Nat, i ≤ L.length ∧ p = .int .i64 (i : Int) ∧ (∃ a c, v23 = .slice a (spanOf (L.take i) ka kb).length c) ∧ wr.ownsRow w10.heap.size 3 1 v23 (spanOf (L.take i) ka kb).length (cellsOf (spanOf (L.take i) ka kb)) ∧ Below w10.heap.size w10 wr) (fun _ p _ => L.length - (intOf p).toNat)
  case atStart => exact ⟨0, Nat.zero_le _, rfl, ⟨none, 0, rfl⟩, ⟨by simp [spanOf, cellsOf], .inl ⟨rfl, rfl⟩⟩, Below.refl _ _⟩
  case round =>
    obtain ⟨i, hi, rfl, ⟨a7, c7, rfl⟩, hown, hbr⟩ := hrel
    have hsr := hbr.size
    by_cases hlt : i < L.length
    · obtain ⟨_, b, o, ha9, hc⟩ := (HR9.out.below hbr).at (by rintro rfl; exact absurd hlt (Nat.not_lt_zero _))
      subst ha9
      have c1 := hc i hlt
      have hi2 : (i : Int) < 73049 := by have := HLL.out; omega
      obtain ⟨x, hx⟩ : ∃ x, Ints.el L i = x := ⟨_, rfl⟩
      rw [hx] at c1
      have hsn : spanOf (L.take (i + 1)) ka kb = spanOf (L.take i) ka kb ++ (if ka ≤ x ∧ x ≤ kb then [x] else []) := by
        rw [List.take_succ_eq_append_getElem hlt, span_snoc, ← Ints.el_lt hlt, hx]
      obtain ⟨S, hS⟩ : ∃ S, spanOf (L.take i) ka kb = S := ⟨_, rfl⟩
      have hSl : (S.length : Int) ≤ 73049 := by
        have h1 : S.length ≤ (L.take i).length := by rw [← hS]; exact List.length_filter_le _ _
        have h2 := List.length_take_le' i L
        have := HLL.out
        omega
      rw [hS] at hown hsn ⊢
      have HOWN := Lib.hid hown
      have HBR := Lib.hid hbr
      have HSN := Lib.hid hsn
      clear hown hbr hsn hc hx hS
      by_cases h1 : ka ≤ x
      · by_cases h2 : x ≤ kb
        · go_wp2_with (at_builtin
                       refine wpList_append_own _ rfl (.tmp 117) (.tmp 122) _ rfl w10.heap.size 3 i0 _ 1 8 Tryd.underlying22 hi0 hz00 hz1 hz2 rfl (by omega) (.slice a7 S.length c7) S.length (cellsOf S) rfl
                         (HOWN.out.alloc _) ⟨wr.heap.size, 0, none⟩ 1 1 [.int .i64 x] rfl rfl
                         (fun j u hu => by
                           cases j with
                           | zero => simp at hu; subst hu; exact (Boxed.new wr _ _).cell
                           | succ j => simp at hu) (fun u hu => by simp at hu; subst hu; rfl) (by simp only [maxLen]; omega) (by omega) (by simp; omega) ?_
                       intro v1 wb hown' hg hnil
                       have hbb : Below w10.heap.size wr wb := ((Below.refl _ wr).alloc hsr _).grown hg (by simp; omega) (fun j ej => ownBlock_ge HOWN.out ej)
                       obtain ⟨a1, c2, e1⟩ : ∃ a1 c2, v1 = .slice a1 (S.length + 1) c2 := by
                         have h3 := reads_own (xs := S ++ [x]) (by rw [cellsOf_snoc, List.length_append]; exact hown')
                         obtain ⟨a1, c2, e⟩ := h3.shape
                         exact ⟨a1, c2, by rw [e, List.length_append]; rfl⟩
                       subst e1
                       have HOB := Lib.hid hown'
                       have HBRB := Lib.hid (HBR.out.trans hbb)
                       clear hown' hg hnil hbb)
          go_roundw
          case rel =>
            have hS2 : spanOf (L.take (i + 1)) ka kb = S ++ [x] := by rw [HSN.out, if_pos ⟨h1, h2⟩]
            first
              | exact ⟨i + 1, by omega, by simp, ⟨a1, c2, by rw [hS2, List.length_append]; rfl⟩, by rw [hS2, cellsOf_snoc, List.length_append]; exact HOB.out, HBRB.out⟩
              | ((repeat apply Exists.intro); exact ⟨⟨i + 1, by omega, by simp, ⟨a1, c2, by rw [hS2, List.length_append]; rfl⟩, by rw [hS2, cellsOf_snoc, List.length_append]; exact HOB.out, HBRB.out⟩, rfl⟩)
          case measure => simp [intOf]; omega
        · go_wp2
          go_roundw
          case rel =>
            have hS2 : spanOf (L.take (i + 1)) ka kb = S := by rw [HSN.out, if_neg (by omega), List.append_nil]
            first
              | exact ⟨i + 1, by omega, by simp, ⟨a7, c7, by rw [hS2]⟩, by rw [hS2]; exact HOWN.out, HBR.out⟩
              | ((repeat apply Exists.intro); exact ⟨⟨i + 1, by omega, by simp, ⟨a7, c7, by rw [hS2]⟩, by rw [hS2]; exact HOWN.out, HBR.out⟩, rfl⟩)
          case measure => simp [intOf]; omega
      · go_wp2
        go_roundw
        case rel =>
          have hS2 : spanOf (L.take (i + 1)) ka kb = S := by rw [HSN.out, if_neg (by omega), List.append_nil]
          first
            | exact ⟨i + 1, by omega, by simp, ⟨a7, c7, by rw [hS2]⟩, by rw [hS2]; exact HOWN.out, HBR.out⟩
            | ((repeat apply Exists.intro); exact ⟨⟨i + 1, by omega, by simp, ⟨a7, c7, by rw [hS2]⟩, by rw [hS2]; exact HOWN.out, HBR.out⟩, rfl⟩)
        case measure => simp [intOf]; omega
    · have hie : i = L.length := by omega
      have htk : L.take i = L := by rw [hie, List.take_length]
      rw [htk] at hown ⊢
      obtain ⟨S, hS⟩ : ∃ S, spanOf L ka kb = S := ⟨_, rfl⟩
      have hSl : (S.length : Int) ≤ 73049 := by
        have h1 : S.length ≤ L.length := by rw [← hS]; exact List.length_filter_le _ _
        have := HLL.out
        omega
      rw [hS] at hown HRES ⊢
      have hrs := reads_own hown
      have hb4r := HB10.out.trans (hbr.mono hs10)
      have hb5r := HB510.out.trans (hbr.mono hs510)
      obtain ⟨q0, q1, q2, q3, q4, _⟩ := cells5 (row_below HX4.out hb4r)
      have HB4R := Lib.hid hb4r
      have HB5R := Lib.hid hb5r
      have HRS := Lib.hid hrs
      have HR9R := Lib.hid (HR9.out.below hbr)
      clear hown hbr hS hrs hb4r hb5r htk HB10 HB510 HR9
      rcases HRES.out with ⟨hbig, rfl, rfl⟩ | ⟨hsm, rfl, hrd⟩
      · have hbig' : (1000 : Int) < (S.length : Int) := by omega
        clear HRES hbig
        try simp only [ev]
        go_wp2_with fail
        refine (HC.out wr HB4R.out).mono ?_
        rintro e1 wt ⟨rfl, hbt⟩
        have hb4t := HB4R.out.trans (hbt.mono HB4R.out.size)
        have HR9T := Lib.hid (HR9R.out.below hbt)
        obtain ⟨q0, q1, q2, q3, q4, _⟩ := cells5 (row_below HX4.out hb4t)
        have HB4T := Lib.hid hb4t
        clear hbt hb4t HB4R HR9R HC
        have hll := HLL.out
        by_cases hn : 0 ≤ n ∧ n < (L.length : Int)
        · obtain ⟨hn0, hn1⟩ := hn
          obtain ⟨j, rfl⟩ : ∃ j : Nat, n = (j : Int) := ⟨n.toNat, by omega⟩
          obtain rfl : NB = true := by rw [← HNB.out]; exact nth_yes (by omega)
          obtain ⟨_, b, o, ha9, hc⟩ := HR9T.out.at (by rintro rfl; simp at hn1; omega)
          subst ha9
          have hjl : j < L.length := by omega
          have hel : Ints.el L j = NV := by rw [← HNV.out, nth_el hjl, Ints.el_lt hjl]
          have hcell : ∀ W, Below wt.heap.size wt W → W.cell? ⟨b, o + j, none⟩ = some (.int .i64 NV) := fun W h => by rw [← hel]; exact cell_later h (hc j hjl)
          have HCELL := Lib.hid hcell
          clear hc hel hcell hjl
          go_wp2_with fail
          refine (HM.out wt HB4T.out).mono ?_
          rintro e1 wu ⟨rfl, hbu⟩
          have hb4u := HB4T.out.trans (hbu.mono HB4T.out.size)
          have z9 := HCELL.out wu hbu
          obtain ⟨q0, q1, q2, q3, q4, _⟩ := cells5 (row_below HX4.out hb4u)
          have HB4U := Lib.hid hb4u
          clear hbu hb4u HB4T
          go_wp2_with fail
          refine (HI.out wu HB4U.out).mono ?_
          rintro e1 wv ⟨rfl, hbv⟩
          have hb4v := HB4U.out.trans (hbv.mono HB4U.out.size)
          obtain ⟨q0, q1, q2, q3, q4, _⟩ := cells5 (row_below HX0.out hb4v)
          have HB4V := Lib.hid hb4v
          clear hbv hb4v HB4U
          go_wp2_with fail
          refine (HONE.out wv HB4V.out).mono ?_
          rintro e1 wx ⟨rfl, hbx⟩
          have HF := Lib.hid (HB4.out.trans ((HB4V.out.trans (hbx.mono HB4V.out.size)).mono hs4))
          clear hbx
          go_wp2
          go_ret
          exact ⟨by cases IB <;> rfl, HF.out⟩
        · obtain ⟨nb, nv⟩ := nthB_miss (l := L) hn
          obtain rfl : NB = false := by rw [← HNB.out]; exact nb
          obtain rfl : NV = 0 := by rw [← HNV.out]; exact nv
          clear nb nv
          have hn2 : n < 0 ∨ (0 ≤ n ∧ (L.length : Int) ≤ n) := by omega
          clear hn
          rcases hn2 with hn2 | ⟨hn2, hn3⟩
          all_goals (
            go_wp2_with fail
            refine (HM.out wt HB4T.out).mono ?_
            rintro e1 wu ⟨rfl, hbu⟩
            have hb4u := HB4T.out.trans (hbu.mono HB4T.out.size)
            obtain ⟨q0, q1, q2, q3, q4, _⟩ := cells5 (row_below HX4.out hb4u)
            have HB4U := Lib.hid hb4u
            clear hbu hb4u
            go_wp2_with fail
            refine (HI.out wu HB4U.out).mono ?_
            rintro e1 wv ⟨rfl, hbv⟩
            have hb4v := HB4U.out.trans (hbv.mono HB4U.out.size)
            obtain ⟨q0, q1, q2, q3, q4, _⟩ := cells5 (row_below HX0.out hb4v)
            have HB4V := Lib.hid hb4v
            clear hbv hb4v HB4U
            go_wp2_with fail
            refine (HONE.out wv HB4V.out).mono ?_
            rintro e1 wx ⟨rfl, hbx⟩
            have HF := Lib.hid (HB4.out.trans ((HB4V.out.trans (hbx.mono HB4V.out.size)).mono hs4))
            clear hbx
            go_wp2
            go_ret
            exact ⟨by cases IB <;> rfl, HF.out⟩)
      · have hsm' : (S.length : Int) ≤ 1000 := by omega
        have hrdr := hrd.below HB5R.out
        obtain ⟨a5, c5, rfl⟩ := hrdr.shape
        have hsame := Ints.sameInts_any wr _ _ S S hrdr HRS.out (by omega) (by omega)
        rw [decide_eq_true (rfl : S = S)] at hsame
        have HSAME := Lib.hid hsame
        clear HRES hsm hrd hrdr hsame
        go_wp2_with fail
        refine HSAME.out.mono ?_
        rintro e1 wt ⟨rfl, qd, hwt⟩
        have hbt : Below wr.heap.size wr wt := by rw [hwt]; exact below_draw (Below.refl _ _) qd
        have hb4t := HB4R.out.trans (hbt.mono HB4R.out.size)
        have HR9T := Lib.hid (HR9R.out.below hbt)
        obtain ⟨q0, q1, q2, q3, q4, _⟩ := cells5 (row_below HX4.out hb4t)
        have HB4T := Lib.hid hb4t
        clear hbt hb4t HB4R HR9R HSAME hwt
        have hll := HLL.out
        by_cases hn : 0 ≤ n ∧ n < (L.length : Int)
        · obtain ⟨hn0, hn1⟩ := hn
          obtain ⟨j, rfl⟩ : ∃ j : Nat, n = (j : Int) := ⟨n.toNat, by omega⟩
          obtain rfl : NB = true := by rw [← HNB.out]; exact nth_yes (by omega)
          obtain ⟨_, b, o, ha9, hc⟩ := HR9T.out.at (by rintro rfl; simp at hn1; omega)
          subst ha9
          have hjl : j < L.length := by omega
          have hel : Ints.el L j = NV := by rw [← HNV.out, nth_el hjl, Ints.el_lt hjl]
          have hcell : ∀ W, Below wt.heap.size wt W → W.cell? ⟨b, o + j, none⟩ = some (.int .i64 NV) := fun W h => by rw [← hel]; exact cell_later h (hc j hjl)
          have HCELL := Lib.hid hcell
          clear hc hel hcell hjl
          go_wp2_with fail
          refine (HM.out wt HB4T.out).mono ?_
          rintro e1 wu ⟨rfl, hbu⟩
          have hb4u := HB4T.out.trans (hbu.mono HB4T.out.size)
          have z9 := HCELL.out wu hbu
          obtain ⟨q0, q1, q2, q3, q4, _⟩ := cells5 (row_below HX4.out hb4u)
          have HB4U := Lib.hid hb4u
          clear hbu hb4u HB4T
          go_wp2_with fail
          refine (HI.out wu HB4U.out).mono ?_
          rintro e1 wv ⟨rfl, hbv⟩
          have hb4v := HB4U.out.trans (hbv.mono HB4U.out.size)
          obtain ⟨q0, q1, q2, q3, q4, _⟩ := cells5 (row_below HX0.out hb4v)
          have HB4V := Lib.hid hb4v
          clear hbv hb4v HB4U
          go_wp2_with fail
          refine (HONE.out wv HB4V.out).mono ?_
          rintro e1 wx ⟨rfl, hbx⟩
          have HF := Lib.hid (HB4.out.trans ((HB4V.out.trans (hbx.mono HB4V.out.size)).mono hs4))
          clear hbx
          go_wp2
          go_ret
          exact ⟨by cases IB <;> rfl, HF.out⟩
        · obtain ⟨nb, nv⟩ := nthB_miss (l := L) hn
          obtain rfl : NB = false := by rw [← HNB.out]; exact nb
          obtain rfl : NV = 0 := by rw [← HNV.out]; exact nv
          clear nb nv
          have hn2 : n < 0 ∨ (0 ≤ n ∧ (L.length : Int) ≤ n) := by omega
          clear hn
          rcases hn2 with hn2 | ⟨hn2, hn3⟩
          all_goals (
            go_wp2_with fail
            refine (HM.out wt HB4T.out).mono ?_
            rintro e1 wu ⟨rfl, hbu⟩
            have hb4u := HB4T.out.trans (hbu.mono HB4T.out.size)
            obtain ⟨q0, q1, q2, q3, q4, _⟩ := cells5 (row_below HX4.out hb4u)
            have HB4U := Lib.hid hb4u
            clear hbu hb4u
            go_wp2_with fail
            refine (HI.out wu HB4U.out).mono ?_
            rintro e1 wv ⟨rfl, hbv⟩
            have hb4v := HB4U.out.trans (hbv.mono HB4U.out.size)
            obtain ⟨q0, q1, q2, q3, q4, _⟩ := cells5 (row_below HX0.out hb4v)
            have HB4V := Lib.hid hb4v
            clear hbv hb4v HB4U
            go_wp2_with fail
            refine (HONE.out wv HB4V.out).mono ?_
            rintro e1 wx ⟨rfl, hbx⟩
            have HF := Lib.hid (HB4.out.trans ((HB4V.out.trans (hbx.mono HB4V.out.size)).mono hs4))
            clear hbx
            go_wp2
            go_ret
            exact ⟨by cases IB <;> rfl, HF.out⟩)
end Cand
end Go.Proofs.YtkgmojaecaghmaaDoor
