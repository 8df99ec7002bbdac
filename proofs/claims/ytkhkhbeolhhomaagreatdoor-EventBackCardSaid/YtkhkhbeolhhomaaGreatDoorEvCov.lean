/- package event: Days of any event, Covers. -/
import Derived.Test.YtkhkhbeolhhomaaGreatDoorEvIn
namespace Go.Proofs.YtkhkhbeolhhomaaGreatDoor
open Go Go.RowKit Go.Shelf Lmd
attribute [local go_sem] Oper.semAt_some
namespace Evt
open Rul Day Cand Er

/-- the days of an event's rule, its start's date given -/
def evL (e : Ev) (y m d : Int) : List Int := daysOf e.ru.ct e.ru.un (cands e.st y m d e.ru)
theorem badE_zero {e : Ev} (h : badE e = 0) : nameB e.id = true ∧ titleB e.ti = true ∧ (0 ≤ e.st ∧ e.st ≤ 73048) ∧ (1 ≤ e.lg ∧ e.lg ≤ 60) ∧ bad e.ru = 0 ∧ badL e = 0 := by
  by_cases h1 : nameB e.id = true
  case neg => rw [badE_name (by simpa using h1)] at h; cases h
  by_cases h2 : titleB e.ti = true
  case neg => rw [badE_text h1 (by simpa using h2)] at h; cases h
  by_cases h3 : (rightB e.st && inB e.lg 1 60) = true
  case neg => rw [badE_bound h1 h2 (by simpa using h3)] at h; cases h
  by_cases h4 : bad e.ru = 0
  case neg => rw [badE_rule h1 h2 h3 h4] at h; exact absurd h h4
  rw [badE_lists h1 h2 h3 h4] at h
  have h5 : (rightB e.st = true) ∧ inB e.lg 1 60 = true := by simpa using h3
  exact ⟨h1, h2, of_decide_eq_true h5.1, of_decide_eq_true h5.2, h4, h⟩
theorem badL_zero {e : Ev} (h : badL e = 0) : e.sk.length ≤ 20 ∧ e.mv.length ≤ 20 ∧ riseB e.sk = true ∧ riseB (froms e.mv) = true ∧ e.sk.all rightB = true ∧ (e.mv.all fun m => rightB m.1 && rightB m.2) = true ∧ (froms e.mv).any (e.sk.contains ·) = false := by
  by_cases h1 : 20 < e.sk.length ∨ 20 < e.mv.length
  · rw [badL_full h1] at h; cases h
  by_cases h2 : (riseB e.sk && riseB (froms e.mv)) = true
  case neg => rw [badL_order h1 (by simpa using h2)] at h; cases h
  by_cases h3 : (e.sk.all rightB && e.mv.all fun m => rightB m.1 && rightB m.2) = true
  case neg => rw [badL_bound h1 h2 (by simpa using h3)] at h; cases h
  by_cases h4 : (froms e.mv).any (e.sk.contains ·) = true
  · rw [badL_exist h1 h2 h3 h4] at h; cases h
  rw [Bool.and_eq_true] at h2 h3
  exact ⟨by omega, by omega, h2.1, h2.2, h3.1, h3.2, by simpa using h4⟩
theorem right_iff {d : Int} : rightB d = true ↔ 0 ≤ d ∧ d ≤ 73048 := by unfold rightB inB; exact decide_eq_true_iff
theorem fit_of {e : Ev} {y m d : Int} (h : badE e = 0) (ha : Cal.At e.st y m d) : Fit e (evL e y m d) := by
  obtain ⟨_, _, hst, _, hru, hl⟩ := badE_zero h
  obtain ⟨_, hb, hd, _, hr⟩ := bad_parts hru
  have hev := (bound_parts hb).1.1
  have hc := cands_rise (start := e.st) (y := y) (m := m) (d := d) hev hr hd
  refine ⟨hc.sublist (daysOf_sub _ _ _), fun x hx => ?_, fun mm hm => ?_⟩
  · have := cands_bd ha hev x ((daysOf_sub _ _ _).subset hx)
    omega
  · have h6 := List.all_eq_true.1 (badL_zero hl).2.2.2.2.2.1 mm hm
    rw [Bool.and_eq_true] at h6
    exact right_iff.1 h6.2
theorem gives_of {e : Ev} {y m d : Int} (h : badE e = 0) (ha : Cal.At e.st y m d) (v : Value) (er : Nat → Addr) (w : World) (he : E4 w er) (hl : e.ru.ds.length < 50000) : Gives e.st e.ru v (evL e y m d) w :=
  gives_all e.st y m d e.ru v er w he (badE_zero h).2.2.2.2.1 hl ha

set_option maxRecDepth 100000 in
set_option maxHeartbeats 4000000 in
theorem days_bad (e : Ev) (vd vs vm : Value) (ka kb : Int) (er : Nat → Addr) (w : World) (he : E7 w er) (hr : Rv w e vd vs vm) (hz : Size e) (hbad : badE e ≠ 0) :
    Calls Tryz.prog 25 #[.agg (e.cells vd vs vm), .int .i64 ka, .int .i64 kb] w fun r w' =>
      r = .returned (.tuple #[.slice none 0 0, errV er (badE e)]) ∧ Below w.heap.size w w' := by
  obtain ⟨a6, c6, rfl⟩ := hr.d.shape
  obtain ⟨a9, c9, rfl⟩ := hr.s.shape
  obtain ⟨a10, c10, rfl⟩ := hr.m.shape
  have hck := fun w' (h : Below w.heap.size w w') => check_any e _ _ _ er w' (he.below h) (hr.below h) hz
  obtain ⟨q, hq⟩ : ∃ q, badE e = q := ⟨_, rfl⟩
  rw [hq] at hck hbad ⊢
  obtain ⟨n6, hn6⟩ : ∃ n, e.ru.ds.length = n := ⟨_, rfl⟩
  obtain ⟨n9, hn9⟩ : ∃ n, e.sk.length = n := ⟨_, rfl⟩
  obtain ⟨n10, hn10⟩ : ∃ n, e.mv.length = n := ⟨_, rfl⟩
  rw [hn6] at hck ⊢
  rw [hn9] at hck ⊢
  rw [hn10] at hck ⊢
  obtain ⟨Wa, hWa⟩ : ∃ Wa, ((w.alloc (.cells (e.cells (.slice a6 n6 c6) (.slice a9 n9 c9) (.slice a10 n10 c10)) 38)).alloc (.cells #[.int .i64 ka] 3)).alloc (.cells #[.int .i64 kb] 3) = Wa := ⟨_, rfl⟩
  have hBa : Below w.heap.size w Wa := by
    rw [← hWa]
    exact (((Below.refl _ w).alloc (Nat.le_refl _) _).alloc (by simp) _).alloc (by simp; omega) _
  have x0 : Wa.heap[w.heap.size]? = some (.cells (e.cells (.slice a6 n6 c6) (.slice a9 n9 c9) (.slice a10 n10 c10)) 38) := by
    rw [← hWa]
    exact (Below.heap_alloc _ _ _ (by simp; omega)).trans ((Below.heap_alloc _ _ _ (by simp)).trans (heap_new w _))
  have HCK := Lib.hid hck
  have HWA := Lib.hid hWa
  have HBA := Lib.hid hBa
  have HX := Lib.hid x0
  clear he hr hz hck hq hn6 hn9 hn10 hWa hBa x0
  cases q with
  | zero => exact absurd rfl hbad
  | succ q =>
    clear hbad
    go_enter Tryz.func25, Tryz.ntmps25
    obtain ⟨k0, k1, k2, k3, k4, k5, k6, k7, k8, k9, k10⟩ := cells11 HX.out
    go_upto_region 1 with fail
    rw [HWA.out]
    go_wp2_with fail
    (with_reducible refine (HCK.out _ HBA.out).mono ?_)
    rintro e1 w1 ⟨rfl, hb1⟩
    have HB1 := Lib.hid (HBA.out.trans (hb1.mono HBA.out.size))
    clear hb1 k0 k1 k2 k3 k4 k5 k6 k7 k8 k9 k10
    simp only [errV, ev]
    go_wp2
    go_ret2
    exact ⟨rfl, HB1.out⟩

/-- is a day covered by an event, whatever it is -/
def coversB (e : Ev) (y m d n : Int) : Bool := decide (badE e = 0) && covB e (evL e y m d) n
set_option maxRecDepth 100000 in
set_option maxHeartbeats 4000000 in
theorem covers_any (e : Ev) (vd vs vm : Value) (y m d dd : Int) (er : Nat → Addr) (w : World) (he : E7 w er) (hr : Rv w e vd vs vm) (hz : Size e) (ha : badE e = 0 → Cal.At e.st y m d) :
    Calls Tryz.prog 18 #[.agg (e.cells vd vs vm), .int .i64 dd] w fun r w' => r = .returned (.bool (coversB e y m d dd)) ∧ Below w.heap.size w w' := by
  obtain ⟨a6, c6, rfl⟩ := hr.d.shape
  obtain ⟨a9, c9, rfl⟩ := hr.s.shape
  obtain ⟨a10, c10, rfl⟩ := hr.m.shape
  have hck := fun w' (h : Below w.heap.size w w') => check_any e _ _ _ er w' (he.below h) (hr.below h) hz
  obtain ⟨q, hq⟩ : ∃ q, badE e = q := ⟨_, rfl⟩
  have hdg := fun (h0 : badE e = 0) w' (h : Below w.heap.size w w') => days_good e _ _ _ (dd - e.lg + 1) dd (evL e y m d) er w' (he.below h) (hr.below h) hz h0 (gives_of h0 (ha h0) _ er w' (he.below h).four hz.ds) (fit_of h0 (ha h0))
  have hlen := fun (h0 : badE e = 0) => in_len (a := dd - e.lg + 1) (b := dd) (fit_of h0 (ha h0))
  have hlg := fun (h0 : badE e = 0) => (badE_zero h0).2.2.2.1
  obtain ⟨r, hrr⟩ : ∃ r, coversB e y m d dd = r := ⟨_, rfl⟩
  have hrr2 : (decide (badE e = 0) && (rightB dd && decide (daysIn e (evL e y m d) (dd - e.lg + 1) dd ≠ []))) = r := hrr
  have hR := fun W => right_any dd W
  obtain ⟨q2, hq2⟩ : ∃ q, rightB dd = q := ⟨_, rfl⟩
  have hq2' : decide (0 ≤ dd ∧ dd ≤ 73048) = q2 := hq2
  rw [hq2'] at hR
  rw [hq2] at hrr2
  rw [hrr]
  obtain ⟨DL, hDL⟩ : ∃ DL, daysIn e (evL e y m d) (dd - e.lg + 1) dd = DL := ⟨_, rfl⟩
  rw [hDL] at hdg hlen hrr2
  rw [hq] at hck hdg hlen hlg hrr2
  obtain ⟨n6, hn6⟩ : ∃ n, e.ru.ds.length = n := ⟨_, rfl⟩
  obtain ⟨n9, hn9⟩ : ∃ n, e.sk.length = n := ⟨_, rfl⟩
  obtain ⟨n10, hn10⟩ : ∃ n, e.mv.length = n := ⟨_, rfl⟩
  rw [hn6] at hck hdg ⊢
  rw [hn9] at hck hdg ⊢
  rw [hn10] at hck hdg ⊢
  obtain ⟨Wa, hWa⟩ : ∃ Wa, w.alloc (.cells (e.cells (.slice a6 n6 c6) (.slice a9 n9 c9) (.slice a10 n10 c10)) 38) = Wa := ⟨_, rfl⟩
  have hBa : Below w.heap.size w Wa := by rw [← hWa]; exact (Below.refl _ w).alloc (Nat.le_refl _) _
  have x0 : Wa.heap[w.heap.size]? = some (.cells (e.cells (.slice a6 n6 c6) (.slice a9 n9 c9) (.slice a10 n10 c10)) 38) := by rw [← hWa]; exact heap_new w _
  have HCK := Lib.hid hck
  have HWA := Lib.hid hWa
  have HBA := Lib.hid hBa
  have HX := Lib.hid x0
  have HDG := Lib.hid hdg
  have HLN := Lib.hid hlen
  have HLG := Lib.hid hlg
  have HRR := Lib.hid hrr2
  have HR := Lib.hid hR
  have HQ2 := Lib.hid hq2'
  clear he hr hz hck hq hn6 hn9 hn10 hWa hBa x0 hdg hlen hlg hrr hrr2 hR hq2 hq2' hDL ha
  go_enter Tryz.func18, Tryz.ntmps18
  obtain ⟨k0, k1, k2, k3, k4, k5, k6, k7, k8, k9, k10⟩ := cells11 HX.out
  go_upto_region 1 with fail
  rw [HWA.out]
  go_wp2_with fail
  (with_reducible refine (HCK.out _ HBA.out).mono ?_)
  rintro e1 w1 ⟨rfl, hb1⟩
  have HX1 := Lib.hid (row_below HX.out hb1)
  have HB1 := Lib.hid (HBA.out.trans (hb1.mono HBA.out.size))
  clear hb1 k0 k1 k2 k3 k4 k5 k6 k7 k8 k9 k10
  cases q with
  | succ q =>
    simp only [errV, ev]
    go_wp2
    go_ret
    exact ⟨by rw [← HRR.out]; simp, HB1.out⟩
  | zero =>
    simp only [errV]
    go_wp2_with fail
    (with_reducible refine (HR.out _).mono ?_)
    rintro e2 w2 ⟨rfl, rfl⟩
    cases q2 with
    | false =>
      go_wp2
      go_ret
      exact ⟨by rw [← HRR.out]; simp, HB1.out⟩
    | true =>
      obtain ⟨d0, d1⟩ := of_decide_eq_true HQ2.out
      obtain ⟨l0, l1⟩ := HLG.out trivial
      obtain ⟨k0, k1, k2, k3, k4, k5, k6, k7, k8, k9, k10⟩ := cells11 HX1.out
      go_wp2_with fail
      (with_reducible refine (HDG.out trivial _ HB1.out).mono ?_)
      rintro e3 w3 ⟨v3, er3, rfl, hv, hb3⟩
      have HB3 := Lib.hid (HB1.out.trans (hb3.mono HB1.out.size))
      have hl2 := HLN.out trivial
      clear hb3
      rcases hv with ⟨h1, _⟩ | ⟨h1, rfl, hrd⟩
      · omega
      obtain ⟨a3, c3, rfl⟩ := hrd.shape
      clear hrd
      by_cases h0 : (0 : Int) < (DL.length : Int)
      · have H0 := Lib.hid (show DL ≠ [] by rintro rfl; simp at h0)
        go_wp2
        go_ret
        exact ⟨by rw [← HRR.out]; simp [H0.out]; omega, HB3.out⟩
      · have H0 := Lib.hid (show DL = [] by cases DL with | nil => rfl | cons _ _ => simp at h0)
        go_wp2
        go_ret
        exact ⟨by rw [← HRR.out]; simp [H0.out], HB3.out⟩
end Evt
end Go.Proofs.YtkhkhbeolhhomaaGreatDoor
