/- The walk of the law EventDays. -/
import Derived.Test.YtkhkhbeolhhomaaGreatDoorEvented
import Derived.Test.YtkhkhbeolhhomaaGreatDoorEvOwn
import Derived.Test.YtkhkhbeolhhomaaGreatDoorRefSpan
import Derived.Test.YtkhkhbeolhhomaaGreatDoorRefEvE
import Derived.Test.YtkhkhbeolhhomaaGreatDoorIntsSame
import Derived.Test.YtkhkhbeolhhomaaGreatDoorCodedL1
namespace Go.Proofs.YtkhkhbeolhhomaaGreatDoor
open Go Go.RowKit Go.Shelf Lmd
attribute [local go_sem] Oper.semAt_some
namespace Evt
open Rul Day Cand Er

theorem seven_of {w : World} {e : Nat → Addr} (h : Errs w e) : E7 w e := ⟨h.s0, h.s1, h.s2, h.s3, h.s5, h.s6, h.s7⟩
theorem badL_le (e : Ev) : badL e ≤ 8 := by
  unfold badL
  repeat' split
  all_goals omega
theorem badE_le (e : Ev) : badE e ≤ 8 := by
  have h1 := badL_le e
  have h2 : bad e.ru ≤ 8 := by unfold bad; split <;> (try split) <;> (try split) <;> (try split) <;> omega
  unfold badE
  repeat' split
  all_goals omega
/-- what Days tells of any event -/
def DaysPost (er : Nat → Addr) (q : Nat) (DL : List Int) (w : World) (r : Ending) (w' : World) : Prop :=
  ∃ v' er', r = .returned (.tuple #[v', er']) ∧ ((0 < q ∧ v' = .slice none 0 0 ∧ er' = errV er q) ∨ (q = 0 ∧ ((1000 < DL.length ∧ v' = .slice none 0 0 ∧ er' = ev (er 6)) ∨ (DL.length ≤ 1000 ∧ er' = .nilIface ∧ ∃ a c, v' = .slice a DL.length c ∧ Ints.Reads w' v' DL)))) ∧ Below w.heap.size w w'
theorem days_any (e : Ev) (vd vs vm : Value) (ka kb y m d : Int) (er : Nat → Addr) (w : World) (he : E7 w er) (hr : Rv w e vd vs vm) (hz : Size e) (ha : badE e = 0 → Cal.At e.st y m d) :
    Calls Tryz.prog 25 #[.agg (e.cells vd vs vm), .int .i64 ka, .int .i64 kb] w (DaysPost er (badE e) (daysIn e (evL e y m d) ka kb) w) := by
  by_cases h0 : badE e = 0
  · refine (days_good e vd vs vm ka kb (evL e y m d) er w he hr hz h0 (gives_of h0 (ha h0) _ er w he.four hz.ds) (fit_of h0 (ha h0))).mono ?_
    rintro r w' ⟨v', er', rfl, h, hb⟩
    refine ⟨v', er', rfl, .inr ⟨h0, ?_⟩, hb⟩
    rcases h with h | ⟨h1, h2, h3⟩
    · exact .inl h
    · obtain ⟨a, c, e9⟩ := h3.shape
      exact .inr ⟨h1, h2, a, c, e9, h3.reads⟩
  · refine (days_bad e vd vs vm ka kb er w he hr hz h0).mono ?_
    rintro r w' ⟨rfl, hb⟩
    exact ⟨_, _, rfl, .inl ⟨by omega, rfl, rfl⟩, hb⟩
set_option maxRecDepth 100000 in
set_option maxHeartbeats 8000000 in
theorem eventDays_any (e : Ev) (vd vs vm : Value) (ka kb dd : Int) (er : Nat → Addr) (w : World) (hE : Errs w er) (htab : Lib.TabIs Tryz.prog w "internal/strconv.uint64pow10" .u64 Lib.pow10Tab) (hr : Rv w e vd vs vm) (hf : Fin64 e) :
    Calls Tryz.prog 6 #[.agg (e.cells vd vs vm), .int .i64 ka, .int .i64 kb, .int .i64 dd] w fun r w' => r = .returned (.bool true) ∧ Below w.heap.size w w' := by
  have hT : Tb w er := ⟨seven_of hE, htab⟩
  obtain ⟨W0, hW0⟩ : ∃ W0, w.alloc (.cells (e.cells vd vs vm) 38) = W0 := ⟨_, rfl⟩
  have hB0 : Below w.heap.size w W0 := by rw [← hW0]; exact (Below.refl _ w).alloc (Nat.le_refl _) _
  have hx0 : W0.heap[w.heap.size]? = some (.cells (e.cells vd vs vm) 38) := by rw [← hW0]; exact heap_new w _
  have HEV := Lib.hid (evented_any er W0 (hT.below hB0))
  have HE := Lib.hid hE
  have HR := Lib.hid hr
  have HF := Lib.hid hf
  have HX0 := Lib.hid hx0
  have HB0 := Lib.hid hB0
  have HW0 := Lib.hid hW0
  clear hT hE htab hr hf hW0 hB0 hx0
  go_enter Tryz.func6, Tryz.ntmps6
  go_upto_region 1 with fail
  rw [HW0.out]
  go_wp2_with fail
  (with_reducible refine HEV.out.mono ?_)
  rintro e1 w1 ⟨rfl, hb1⟩
  have HX1 := Lib.hid (row_below HX0.out hb1)
  have HB1 := Lib.hid (HB0.out.trans (hb1.mono HB0.out.size))
  have hle := longEvent_any e vd vs vm w1 (HR.out.below HB1.out) HF.out
  obtain ⟨la, hla⟩ : ∃ la : Int, (if LongP e then (1 : Int) else 0) = la := ⟨_, rfl⟩
  rw [hla] at hle
  have HLE := Lib.hid hle
  have HLA := Lib.hid hla
  clear hb1 hle hla HX0 HEV HB0 HW0
  obtain ⟨k0, k1, k2, k3, k4, k5, k6, k7, k8, k9, k10⟩ := cells11 HX1.out
  go_wp2_with fail
  (with_reducible refine HLE.out.mono ?_)
  rintro e2 w2 ⟨rfl, hb2⟩
  have HX2 := Lib.hid (row_below HX1.out hb2)
  have HB2 := Lib.hid (HB1.out.trans (hb2.mono HB1.out.size))
  clear hb2 k0 k1 k2 k3 k4 k5 k6 k7 k8 k9 k10 HX1 HB1
  by_cases h1 : (0 : Int) < la
  · go_wp2
    go_ret
    exact ⟨rfl, HB2.out⟩
  have hsz : Size e := size_of (fun h => by have := HLA.out; rw [if_pos h] at this; omega)
  have HSZ := Lib.hid hsz
  have HOW := Lib.hid (ownEvent_any e vd vs vm w2 (HR.out.below HB2.out) hsz)
  obtain ⟨k0, k1, k2, k3, k4, k5, k6, k7, k8, k9, k10⟩ := cells11 HX2.out
  clear hsz
  go_wp2_with fail
  (with_reducible refine HOW.out.mono ?_)
  rintro e3 w3 ⟨vd3, vs3, vm3, rfl, hr3, hb3⟩
  obtain ⟨a36, c36, rfl⟩ := hr3.d.shape
  obtain ⟨a39, c39, rfl⟩ := hr3.s.shape
  obtain ⟨a30, c30, rfl⟩ := hr3.m.shape
  have HB3 := Lib.hid (HB2.out.trans (hb3.mono HB2.out.size))
  have HX3 := Lib.hid (row_below HX2.out hb3)
  have HR3 := Lib.hid hr3
  clear hb3 hr3 HOW k0 k1 k2 k3 k4 k5 k6 k7 k8 k9 k10 HX2 HB2
  obtain ⟨a6, c6, rfl⟩ := HR.out.d.shape
  obtain ⟨a9, c9, rfl⟩ := HR.out.s.shape
  obtain ⟨a10, c10, rfl⟩ := HR.out.m.shape
  go_upto_region 5 with fail
  obtain ⟨W4, hW4⟩ : ∃ W4, w3.alloc (.cells #[.string e.id, .string e.ti, .int .i64 e.st, .int .i64 e.lg, .string e.ru.fq, .int .i64 e.ru.ev, .slice a36 e.ru.ds.length c36, .int .i64 e.ru.ct, .int .i64 e.ru.un, .slice a39 e.sk.length c39, .slice a30 e.mv.length c30] 38) = W4 := ⟨_, rfl⟩
  have hb4 : Below w3.heap.size w3 W4 := by rw [← hW4]; exact (Below.refl _ w3).alloc (Nat.le_refl _) _
  have hx4 : W4.heap[w3.heap.size]? = some (.cells #[.string e.id, .string e.ti, .int .i64 e.st, .int .i64 e.lg, .string e.ru.fq, .int .i64 e.ru.ev, .slice a36 e.ru.ds.length c36, .int .i64 e.ru.ct, .int .i64 e.ru.un, .slice a39 e.sk.length c39, .slice a30 e.mv.length c30] 38) := by rw [← hW4]; exact heap_new w3 _
  rw [hW4]
  have HB4 := Lib.hid (HB3.out.trans (hb4.mono HB3.out.size))
  have HX4 := Lib.hid (row_below HX3.out hb4)
  have HY4 := Lib.hid hx4
  have HR4 := Lib.hid (HR3.out.below hb4)
  obtain ⟨q, hq⟩ : ∃ q, badE e = q := ⟨_, rfl⟩
  obtain ⟨y, m, d, ha⟩ : ∃ y m d : Int, badE e = 0 → Cal.At e.st y m d := by
    by_cases h0 : badE e = 0
    · have hst := (badE_zero h0).2.2.1
      obtain ⟨y, m, d, ha⟩ := Cal.at_exists e.st hst.1 hst.2
      exact ⟨y, m, d, fun _ => ha⟩
    · exact ⟨0, 0, 0, fun h => absurd h h0⟩
  have hdy := fun W (h : Below W4.heap.size W4 W) => days_any e _ _ _ ka kb y m d er W (seven_of ((HE.out.below HB4.out).below h)) (HR4.out.below h) HSZ.out ha
  have hcv := fun W (h : Below W4.heap.size W4 W) => covers_any e _ _ _ y m d dd er W (seven_of ((HE.out.below HB4.out).below h)) (HR4.out.below h) HSZ.out ha
  have hee := fun W (h : Below W4.heap.size W4 W) => eventError_any e _ _ _ W ((HR.out.below HB4.out).below h) HSZ.out
  have hdo := fun h0 W (h : Below W4.heap.size W4 W) => daysOf_any e _ _ _ y m d ka kb W ((HR.out.below HB4.out).below h) HSZ.out h0 (ha h0)
  have hco := fun h0 (g0 : 0 ≤ dd) (g1 : dd ≤ 73048) W (h : Below W4.heap.size W4 W) => isCovered_any e _ _ _ y m d dd W ((HR.out.below HB4.out).below h) HSZ.out h0 (ha h0) g0 g1
  have hbl := badE_le e
  have hcb : coversB e y m d dd = (decide (badE e = 0) && covB e (evL e y m d) dd) := rfl
  obtain ⟨CB, hCB⟩ : ∃ CB, covB e (evL e y m d) dd = CB := ⟨_, rfl⟩
  have hcr : rightB dd = false → CB = false := fun h => by rw [← hCB]; unfold covB; rw [h]; rfl
  obtain ⟨DL, hDL⟩ : ∃ DL, daysIn e (evL e y m d) ka kb = DL := ⟨_, rfl⟩
  simp only [hDL] at hdy hdo
  simp only [hcb, hCB] at hcv
  simp only [hCB] at hco
  simp only [hq] at hdy hcv hee hdo hco hbl
  obtain ⟨cv, hcve⟩ : ∃ cv, (decide (q = 0) && CB) = cv := ⟨_, rfl⟩
  simp only [hcve] at hcv
  have HCVE := Lib.hid hcve
  have HBL := Lib.hid hbl
  obtain ⟨n6, hn6⟩ : ∃ n, e.ru.ds.length = n := ⟨_, rfl⟩
  obtain ⟨n9, hn9⟩ : ∃ n, e.sk.length = n := ⟨_, rfl⟩
  obtain ⟨n10, hn10⟩ : ∃ n, e.mv.length = n := ⟨_, rfl⟩
  rw [hn6] at HX4 HY4 ⊢
  simp only [hn6] at hdy hcv hee hdo hco
  rw [hn9] at HX4 HY4 ⊢
  simp only [hn9] at hdy hcv hee hdo hco
  rw [hn10] at HX4 HY4 ⊢
  simp only [hn10] at hdy hcv hee hdo hco
  have HDY := Lib.hid hdy
  have HCV := Lib.hid hcv
  have HEE := Lib.hid hee
  have HDO := Lib.hid hdo
  have HCO := Lib.hid hco
  have HCR := Lib.hid hcr
  clear hdy hcv hee hdo hco hcr hcb hCB hDL hq hcve hbl hn6 hn9 hn10 ha hW4 hb4 hx4 HR3 HX3 HB3 HR
  obtain ⟨k0, k1, k2, k3, k4, k5, k6, k7, k8, k9, k10⟩ := cells11 HY4.out
  go_wp2_with fail
  (with_reducible refine (HDY.out _ (Below.refl _ _)).mono ?_)
  rintro e5 w5 ⟨v5, er5, rfl, hv5, hb5⟩
  have HV5 := Lib.hid hv5
  have HB5 := Lib.hid hb5
  clear hv5 hb5 k0 k1 k2 k3 k4 k5 k6 k7 k8 k9 k10
  obtain ⟨k0, k1, k2, k3, k4, k5, k6, k7, k8, k9, k10⟩ := cells11 (row_below HY4.out HB5.out)
  go_wp2_with fail
  (with_reducible refine (HCV.out _ HB5.out).mono ?_)
  rintro e6 w6 ⟨rfl, hb6⟩
  have HB6 := Lib.hid (HB5.out.trans (hb6.mono HB5.out.size))
  have HB56 := Lib.hid hb6
  clear hb6 k0 k1 k2 k3 k4 k5 k6 k7 k8 k9 k10
  obtain ⟨k0, k1, k2, k3, k4, k5, k6, k7, k8, k9, k10⟩ := cells11 (row_below HX4.out HB6.out)
  go_wp2_with fail
  (with_reducible refine (HEE.out _ HB6.out).mono ?_)
  rintro e7 w7 ⟨rfl, hb7⟩
  have HB7 := Lib.hid (HB6.out.trans (hb7.mono HB6.out.size))
  have HB67 := Lib.hid hb7
  clear hb7 k0 k1 k2 k3 k4 k5 k6 k7 k8 k9 k10
  have hcd := fun c (h : c ≤ 11) W (hb : Below W4.heap.size W4 W) => Cd1.coded_any er c h W ((HE.out.below HB4.out).below hb)
  have HCD := Lib.hid hcd
  clear hcd
  have hBW : ∀ W, Below W4.heap.size W4 W → Below w.heap.size w W := fun W h => HB4.out.trans (h.mono HB4.out.size)
  have HBWH := Lib.hid hBW
  have HBW := HBWH.out
  clear hBW HBW
  obtain ⟨is, his⟩ : ∃ b, rightB dd = b := ⟨_, rfl⟩
  have hisd := isDay_r dd
  simp only [his] at hisd
  have HISE := Lib.hid his
  have HIS := Lib.hid hisd
  clear his hisd
  by_cases h0 : q = 0
  case neg =>
    rcases HV5.out with ⟨_, rfl, rfl⟩ | ⟨h, _⟩
    case inr => exact absurd h h0
    have HC := Lib.hid (HCD.out q (by have := HBL.out; omega) w7 HB7.out)
    have hpos : (0 : Int) < (q : Int) := by omega
    have HCF := Lib.hid (show cv = false by rw [← HCVE.out, decide_eq_false h0, Bool.false_and])
    clear h0
    rw [HCF.out]
    go_wp2_with fail
    (with_reducible refine HC.out.mono ?_)
    rintro e8 w8 ⟨rfl, hb8⟩
    have HB8 := Lib.hid (HB7.out.trans (hb8.mono HB7.out.size))
    clear hb8
    go_wp2
    go_ret
    exact ⟨rfl, HBWH.out _ HB8.out⟩
  have hz : ¬ (0 : Int) < (q : Int) := by omega
  have H0 := Lib.hid h0
  clear h0
  obtain ⟨k0, k1, k2, k3, k4, k5, k6, k7, k8, k9, k10⟩ := cells11 (row_below HX4.out HB7.out)
  go_wp2_with fail
  (with_reducible refine (HDO.out H0.out _ HB7.out).mono ?_)
  rintro e8 w8 ⟨v8, b8, rfl, hv8, hb8⟩
  have HV8 := Lib.hid hv8
  have HB78 := Lib.hid hb8
  have HB8 := Lib.hid (HB7.out.trans (hb8.mono HB7.out.size))
  clear hv8 hb8 k0 k1 k2 k3 k4 k5 k6 k7 k8 k9 k10
  rcases HV5.out with ⟨h, _⟩ | ⟨_, hv⟩
  case inl => exact absurd H0.out (by omega)
  rcases hv with ⟨hbig, rfl, rfl⟩ | ⟨hsm, rfl, a5, c5, rfl, hrd⟩
  · rcases HV8.out with ⟨rfl, _⟩ | ⟨_, h, _⟩
    case inr => exact absurd hbig (by omega)
    have HC7 := Lib.hid (show Calls Tryz.prog 29 #[ev (er 6), .int .i64 7] w8 fun e' w' => e' = .returned (.bool true) ∧ Below w8.heap.size w8 w' from HCD.out 7 (by omega) w8 HB8.out)
    clear hbig HV8 HV5
    go_wp2_with fail
    (with_reducible refine HC7.out.mono ?_)
    rintro e9 w9 ⟨rfl, hb9⟩
    have HB9 := Lib.hid (HB8.out.trans (hb9.mono HB8.out.size))
    clear hb9
    go_wp2_with fail
    (with_reducible refine (HIS.out _).mono ?_)
    rintro e10 w10 ⟨rfl, rfl⟩
    cases is with
    | false =>
      have HCF := Lib.hid (show cv = false by rw [← HCVE.out, HCR.out HISE.out, Bool.and_false])
      go_wp2
      go_ret
      exact ⟨by (rw [HCF.out]); all_goals rfl, HBWH.out _ HB9.out⟩
    | true =>
      have hdd := right_iff.1 HISE.out
      have HCF := Lib.hid (show cv = CB by rw [← HCVE.out, decide_eq_true H0.out, Bool.true_and])
      have hco := HCO.out H0.out hdd.1 hdd.2 _ HB9.out
      have HCC := Lib.hid hco
      clear hco
      obtain ⟨k0, k1, k2, k3, k4, k5, k6, k7, k8, k9, k10⟩ := cells11 (row_below HX4.out HB9.out)
      go_wp2_with fail
      (with_reducible refine HCC.out.mono ?_)
      rintro e11 w11 ⟨rfl, hb11⟩
      have HB11 := Lib.hid (HB9.out.trans (hb11.mono HB9.out.size))
      clear hb11 k0 k1 k2 k3 k4 k5 k6 k7 k8 k9 k10
      rw [HCF.out]
      go_wp2
      go_ret
      exact ⟨by simp, HBWH.out _ HB11.out⟩
  · rcases HV8.out with ⟨_, h⟩ | ⟨rfl, _, ⟨a8, c8, rfl⟩, hrd8⟩
    case inl => exact absurd hsm (by omega)
    have hss := Ints.sameInts_any w8 _ _ DL DL ((((hrd.below HB56.out).below HB67.out)).below HB78.out) hrd8 (by omega) (by omega)
    rw [decide_eq_true rfl] at hss
    have HSS := Lib.hid hss
    clear hss hrd hrd8 HV8 HV5
    go_wp2_with fail
    (with_reducible refine HSS.out.mono ?_)
    rintro e9 w9 ⟨rfl, qd, rfl⟩
    obtain ⟨W9, hW9⟩ : ∃ W, W = w8.drewN qd := ⟨_, rfl⟩
    have hb9 := below_draw HB8.out qd
    rw [← hW9] at hb9 ⊢
    have HB9 := Lib.hid hb9
    clear hb9 hW9
    go_wp2_with fail
    (with_reducible refine (HIS.out _).mono ?_)
    rintro e10 w10 ⟨rfl, rfl⟩
    cases is with
    | false =>
      have HCF := Lib.hid (show cv = false by rw [← HCVE.out, HCR.out HISE.out, Bool.and_false])
      go_wp2
      go_ret
      exact ⟨by (rw [HCF.out]); all_goals rfl, HBWH.out _ HB9.out⟩
    | true =>
      have hdd := right_iff.1 HISE.out
      have HCF := Lib.hid (show cv = CB by rw [← HCVE.out, decide_eq_true H0.out, Bool.true_and])
      have hco := HCO.out H0.out hdd.1 hdd.2 _ HB9.out
      have HCC := Lib.hid hco
      clear hco
      obtain ⟨k0, k1, k2, k3, k4, k5, k6, k7, k8, k9, k10⟩ := cells11 (row_below HX4.out HB9.out)
      go_wp2_with fail
      (with_reducible refine HCC.out.mono ?_)
      rintro e11 w11 ⟨rfl, hb11⟩
      have HB11 := Lib.hid (HB9.out.trans (hb11.mono HB9.out.size))
      clear hb11 k0 k1 k2 k3 k4 k5 k6 k7 k8 k9 k10
      rw [HCF.out]
      go_wp2
      go_ret
      exact ⟨by simp, HBWH.out _ HB11.out⟩
end Evt
end Go.Proofs.YtkhkhbeolhhomaaGreatDoor
