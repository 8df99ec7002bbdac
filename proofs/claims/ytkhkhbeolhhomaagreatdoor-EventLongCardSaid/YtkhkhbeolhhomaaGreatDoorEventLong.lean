/- The walk of the law EventLong. -/
import Derived.Test.YtkhkhbeolhhomaaGreatDoorEvented
import Derived.Test.YtkhkhbeolhhomaaGreatDoorEvOwn
import Derived.Test.YtkhkhbeolhhomaaGreatDoorEvCov
import Derived.Test.YtkhkhbeolhhomaaGreatDoorRefDay
namespace Go.Proofs.YtkhkhbeolhhomaaGreatDoor
open Go Go.RowKit Go.Shelf Lmd
attribute [local go_sem] Oper.semAt_some
namespace Evt
open Rul Day Cand Er

/-- an event of one day -/
def oneE (e : Ev) : Ev := { e with lg := 1 }
theorem oneE_bad {e : Ev} (h : badE e = 0) : badE (oneE e) = 0 := by
  obtain ⟨h1, h2, h3, h4, h5, h6⟩ := badE_zero h
  rw [badE_lists (e := oneE e) h1 h2 (by
    show (rightB e.st && inB 1 1 60) = true
    rw [right_iff.2 h3]; rfl) h5]
  exact h6
theorem oneE_size {e : Ev} (h : Size e) : Size (oneE e) := ⟨h.id, h.ti, h.ds, h.sk, h.mv⟩
/-- what the first so many days covered are -/
def wantB (e : Ev) (y m d n : Int) (k : Nat) : Bool := (List.range k).any fun j => coversB (oneE e) y m d (n - (j : Int))
theorem wantB_succ (e : Ev) (y m d n : Int) (k : Nat) : wantB e y m d n (k + 1) = (wantB e y m d n k || coversB (oneE e) y m d (n - (k : Int))) := by simp [wantB, List.range_succ]
theorem cov_good {e : Ev} {y m d n : Int} (h : badE e = 0) (ha : Cal.At e.st y m d) : coversB e y m d n = true ↔ (0 ≤ n ∧ n ≤ 73048) ∧ ∃ x, n - e.lg + 1 ≤ x ∧ x ≤ n ∧ occB e (evL e y m d) x = true := by
  unfold coversB
  rw [h, decide_eq_true rfl, Bool.true_and]
  exact cov_iff (fit_of h ha)
/-- THE LAW -/
theorem long_law {e : Ev} {y m d n : Int} (h : badE e = 0) (ha : Cal.At e.st y m d) (hn : 0 ≤ n ∧ n ≤ 73048) (k : Nat) (hk : (k : Int) ≤ e.lg ∧ (k : Int) ≤ n + 1) (he : (k : Int) = e.lg ∨ (k : Int) = n + 1) : coversB e y m d n = wantB e y m d n k := by
  rw [Bool.eq_iff_iff, cov_good h ha]
  unfold wantB
  rw [List.any_eq_true]
  constructor
  · rintro ⟨_, x, h1, h2, h3⟩
    have hx := occ_day (fit_of h ha) h3
    refine ⟨(n - x).toNat, List.mem_range.2 (by omega), ?_⟩
    rw [cov_good (oneE_bad h) ha]
    refine ⟨by omega, x, ?_, by omega, h3⟩
    show n - ((n - x).toNat : Int) - 1 + 1 ≤ x
    omega
  · rintro ⟨j, hj, hc⟩
    have hj := List.mem_range.1 hj
    rw [cov_good (oneE_bad h) ha] at hc
    obtain ⟨h0, x, h1, h2, h3⟩ := hc
    have h1' : n - (j : Int) - 1 + 1 ≤ x := h1
    exact ⟨hn, x, by omega, by omega, h3⟩
theorem one_law {e : Ev} {y m d n : Int} (h : badE e = 0) (ha : Cal.At e.st y m d) (hn : 0 ≤ n ∧ n ≤ 73048) : decide ((daysIn (oneE e) (evL (oneE e) y m d) n n).length = 1) = coversB (oneE e) y m d n := by
  have hf := fit_of (oneE_bad h) (y := y) (m := m) (d := d) ha
  have hl := in_len (a := n) (b := n) hf
  unfold coversB covB
  rw [oneE_bad h, decide_eq_true rfl, Bool.true_and, right_iff.2 hn, Bool.true_and]
  have e1 : n - (oneE e).lg + 1 = n := by show n - 1 + 1 = n; omega
  rw [e1, Bool.eq_iff_iff, decide_eq_true_eq, decide_eq_true_eq]
  cases hd : daysIn (oneE e) (evL (oneE e) y m d) n n with
  | nil => simp
  | cons x t =>
    rw [hd] at hl
    simp only [List.length_cons] at hl ⊢
    constructor
    · intro _ hc; cases hc
    · intro _; omega

set_option maxRecDepth 100000 in
set_option maxHeartbeats 8000000 in
theorem eventLong_any (e : Ev) (vd vs vm : Value) (dd : Int) (er : Nat → Addr) (w : World) (hT : Tb w er) (hr : Rv w e vd vs vm) (hf : Fin64 e) :
    Calls Tryz.prog 5 #[.agg (e.cells vd vs vm), .int .i64 dd] w fun r w' => r = .returned (.bool true) ∧ Below w.heap.size w w' := by
  obtain ⟨W0, hW0⟩ : ∃ W0, w.alloc (.cells (e.cells vd vs vm) 38) = W0 := ⟨_, rfl⟩
  have hB0 : Below w.heap.size w W0 := by rw [← hW0]; exact (Below.refl _ w).alloc (Nat.le_refl _) _
  have hx0 : W0.heap[w.heap.size]? = some (.cells (e.cells vd vs vm) 38) := by rw [← hW0]; exact heap_new w _
  have HEV := Lib.hid (evented_any er W0 (hT.below hB0))
  have HT0 := Lib.hid (hT.below hB0)
  have HR0 := Lib.hid (hr.below hB0)
  have HF := Lib.hid hf
  have HX0 := Lib.hid hx0
  have HB0 := Lib.hid hB0
  have HW0 := Lib.hid hW0
  clear hT hr hf hW0 hB0 hx0
  go_enter Tryz.func5, Tryz.ntmps5
  go_upto_region 1 with fail
  rw [HW0.out]
  go_wp2_with fail
  (with_reducible refine HEV.out.mono ?_)
  rintro e1 w1 ⟨rfl, hb1⟩
  have HB1 := Lib.hid hb1
  have HX1 := Lib.hid (row_below HX0.out hb1)
  have HR1 := Lib.hid (HR0.out.below hb1)
  have HT1 := Lib.hid (HT0.out.below hb1)
  have HBW1 := Lib.hid (HB0.out.trans (hb1.mono HB0.out.size))
  have hle := longEvent_any e vd vs vm w1 (HR0.out.below hb1) HF.out
  obtain ⟨la, hla⟩ : ∃ la : Int, (if LongP e then (1 : Int) else 0) = la := ⟨_, rfl⟩
  rw [hla] at hle
  have HLE := Lib.hid hle
  have HLA := Lib.hid hla
  clear hb1 hle hla HX0 HR0 HT0 HEV
  obtain ⟨k0, k1, k2, k3, k4, k5, k6, k7, k8, k9, k10⟩ := cells11 HX1.out
  go_wp2_with fail
  (with_reducible refine HLE.out.mono ?_)
  rintro e2 w2 ⟨rfl, hb2⟩
  have HX2 := Lib.hid (row_below HX1.out hb2)
  have HR2 := Lib.hid (HR1.out.below hb2)
  have HT2 := Lib.hid (HT1.out.below hb2)
  have HBW2 := Lib.hid (HBW1.out.trans (hb2.mono HBW1.out.size))
  clear hb2 k0 k1 k2 k3 k4 k5 k6 k7 k8 k9 k10 HX1 HR1 HT1
  by_cases h1 : (0 : Int) < la
  · go_wp2
    go_ret
    exact ⟨rfl, HBW2.out⟩
  by_cases h2 : dd < 0
  · go_wp2
    go_ret
    exact ⟨rfl, HBW2.out⟩
  by_cases h3 : (73048 : Int) < dd
  · go_wp2
    go_ret
    exact ⟨rfl, HBW2.out⟩
  have hsz : Size e := size_of (fun h => by have := HLA.out; rw [if_pos h] at this; omega)
  have HSZ := Lib.hid hsz
  have HOW := Lib.hid (ownEvent_any e vd vs vm w2 HR2.out hsz)
  have HDD := Lib.hid (show 0 ≤ dd ∧ dd ≤ 73048 by omega)
  obtain ⟨k0, k1, k2, k3, k4, k5, k6, k7, k8, k9, k10⟩ := cells11 HX2.out
  clear hsz
  go_wp2_with fail
  (with_reducible refine HOW.out.mono ?_)
  rintro e3 w3 ⟨vd3, vs3, vm3, rfl, hr3, hb3⟩
  obtain ⟨a36, c36, rfl⟩ := hr3.d.shape
  obtain ⟨a39, c39, rfl⟩ := hr3.s.shape
  obtain ⟨a30, c30, rfl⟩ := hr3.m.shape
  have HB3 := Lib.hid hb3
  have HR3 := Lib.hid hr3
  clear hb3 hr3 HOW k0 k1 k2 k3 k4 k5 k6 k7 k8 k9 k10
  go_upto_region 5 with fail
  obtain ⟨W4, hW4⟩ : ∃ W4, w3.alloc (.cells #[.string e.id, .string e.ti, .int .i64 e.st, .int .i64 e.lg, .string e.ru.fq, .int .i64 e.ru.ev, .slice a36 e.ru.ds.length c36, .int .i64 e.ru.ct, .int .i64 e.ru.un, .slice a39 e.sk.length c39, .slice a30 e.mv.length c30] 38) = W4 := ⟨_, rfl⟩
  have hb4 : Below w3.heap.size w3 W4 := by rw [← hW4]; exact (Below.refl _ w3).alloc (Nat.le_refl _) _
  have hx4 : W4.heap[w3.heap.size]? = some (.cells (e.cells (.slice a36 e.ru.ds.length c36) (.slice a39 e.sk.length c39) (.slice a30 e.mv.length c30)) 38) := by rw [← hW4]; exact heap_new w3 _
  have HX4 := Lib.hid hx4
  have HR4 := Lib.hid (HR3.out.below hb4)
  have HT4 := Lib.hid ((HT2.out.below HB3.out).below hb4)
  have HBW4 := Lib.hid ((HBW2.out.trans (HB3.out.mono HBW2.out.size)).trans (hb4.mono (Nat.le_trans HBW2.out.size HB3.out.size)))
  rw [hW4]
  clear hW4 hb4 hx4 HR3 HB3 HT2 HBW2 HX2 HR2 HB1 HBW1
  have hck := check_any e _ _ _ er W4 HT4.out.errs HR4.out HSZ.out
  obtain ⟨q, hq⟩ : ∃ q, badE e = q := ⟨_, rfl⟩
  rw [hq] at hck
  have HCK := Lib.hid hck
  have HQ := Lib.hid hq
  clear hck hq
  obtain ⟨k0, k1, k2, k3, k4, k5, k6, k7, k8, k9, k10⟩ := cells11 HX4.out
  go_wp2_with fail
  (with_reducible refine HCK.out.mono ?_)
  rintro e5 w5 ⟨rfl, hb5⟩
  have HX5 := Lib.hid (row_below HX4.out hb5)
  have HR5 := Lib.hid (HR4.out.below hb5)
  have HT5 := Lib.hid (HT4.out.below hb5)
  have HBW5 := Lib.hid (HBW4.out.trans (hb5.mono HBW4.out.size))
  clear hb5 k0 k1 k2 k3 k4 k5 k6 k7 k8 k9 k10 HX4 HR4 HT4 HBW4 HCK
  obtain ⟨k0, k1, k2, k3, k4, k5, k6, k7, k8, k9, k10⟩ := cells11 HX5.out
  cases q with
  | succ q =>
    have hcv := covers_any e _ _ _ 0 0 0 dd er w5 HT5.out.errs HR5.out HSZ.out (fun h => by rw [HQ.out] at h; cases h)
    have hcf : coversB e 0 0 0 dd = false := by unfold coversB; rw [HQ.out, decide_eq_false (by omega)]; rfl
    rw [hcf] at hcv
    have HCV := Lib.hid hcv
    clear hcv hcf
    simp only [errV, ev]
    go_wp2_with fail
    (with_reducible refine HCV.out.mono ?_)
    rintro e6 w6 ⟨rfl, hb6⟩
    have HB6 := Lib.hid (HBW5.out.trans (hb6.mono HBW5.out.size))
    clear hb6
    go_wp2
    go_ret
    exact ⟨rfl, HB6.out⟩
  | zero =>
    have hst := (badE_zero HQ.out).2.2.1
    obtain ⟨y, m, d, ha⟩ := Cal.at_exists e.st hst.1 hst.2
    have HLG := Lib.hid (badE_zero HQ.out).2.2.2.1
    have HA := Lib.hid ha
    have HOW := Lib.hid (ownEvent_any e _ _ _ w5 HR5.out HSZ.out)
    clear hst ha
    simp only [errV]
    go_wp2_with fail
    (with_reducible refine HOW.out.mono ?_)
    rintro e6 w6 ⟨vd6, vs6, vm6, rfl, hr6, hb6⟩
    obtain ⟨a66, c66, rfl⟩ := hr6.d.shape
    obtain ⟨a69, c69, rfl⟩ := hr6.s.shape
    obtain ⟨a60, c60, rfl⟩ := hr6.m.shape
    have HB6 := Lib.hid hb6
    have HR6 := Lib.hid hr6
    clear hb6 hr6 HOW k0 k1 k2 k3 k4 k5 k6 k7 k8 k9 k10
    go_upto_region 8 with fail
    obtain ⟨W7, hW7⟩ : ∃ W7, w6.alloc (.cells #[.string e.id, .string e.ti, .int .i64 e.st, .int .i64 e.lg, .string e.ru.fq, .int .i64 e.ru.ev, .slice a66 e.ru.ds.length c66, .int .i64 e.ru.ct, .int .i64 e.ru.un, .slice a69 e.sk.length c69, .slice a60 e.mv.length c60] 38) = W7 := ⟨_, rfl⟩
    have hb7 : Below w6.heap.size w6 W7 := by rw [← hW7]; exact (Below.refl _ w6).alloc (Nat.le_refl _) _
    have hx7 : W7.heap[w6.heap.size]? = some (.cells (e.cells (.slice a66 e.ru.ds.length c66) (.slice a69 e.sk.length c69) (.slice a60 e.mv.length c60)) 38) := by rw [← hW7]; exact heap_new w6 _
    rw [hW7]
    obtain ⟨W8, hW8⟩ : ∃ W8, W7.setCell ⟨w6.heap.size, 3, none⟩ (.int .i64 1) = W8 := ⟨_, rfl⟩
    have hb8 : Below w6.heap.size w6 W8 := by rw [← hW8]; exact hb7.setCell (p := ⟨w6.heap.size, 3, none⟩) (Nat.le_refl _) _
    have hx8 : W8.heap[w6.heap.size]? = some (.cells ((oneE e).cells (.slice a66 e.ru.ds.length c66) (.slice a69 e.sk.length c69) (.slice a60 e.mv.length c60)) 38) := by rw [← hW8]; exact row_set hx7 3 _
    obtain ⟨k0, k1, k2, k3, k4, k5, k6, k7, k8, k9, k10⟩ := cells11 hx7
    obtain ⟨f0, f1, f2, f3, f4, f5, f6, f7, f8, f9, f10⟩ := frozen11 hx7
    have HX8 := Lib.hid hx8
    have HY8 := Lib.hid (row_below (row_below HX5.out HB6.out) hb8)
    have hr80 := (HR5.out.below HB6.out).below hb8
    have hr81 : Rv W8 (oneE e) (.slice a66 e.ru.ds.length c66) (.slice a69 e.sk.length c69) (.slice a60 e.mv.length c60) := by
      have h := HR6.out.below hb8
      exact ⟨h.d, h.s, h.m⟩
    have hT8 := (HT5.out.below HB6.out).below hb8
    have hb58 := HB6.out.trans (hb8.mono HB6.out.size)
    have HBW8 := Lib.hid (HBW5.out.trans (hb58.mono HBW5.out.size))
    have h1b := oneE_bad HQ.out
    have h1z := oneE_size HSZ.out
    have hc0 := fun W (h : Below W8.heap.size W8 W) => covers_any e _ _ _ y m d dd er W (hT8.errs.below h) (hr80.below h) HSZ.out (fun _ => HA.out)
    have hc1 := fun (n : Int) W (h : Below W8.heap.size W8 W) => covers_any (oneE e) _ _ _ y m d n er W (hT8.errs.below h) (hr81.below h) h1z (fun _ => HA.out)
    have hd1 := fun W (h : Below W8.heap.size W8 W) => days_good (oneE e) _ _ _ dd dd (evL (oneE e) y m d) er W (hT8.errs.below h) (hr81.below h) h1z h1b (gives_of h1b HA.out _ er W (hT8.errs.below h).four h1z.ds) (fit_of h1b HA.out)
    have hin := in_len (a := dd) (b := dd) (fit_of h1b (y := y) (m := m) (d := d) HA.out)
    have hol := one_law HQ.out HA.out HDD.out
    have hll := fun k => long_law HQ.out HA.out HDD.out k
    obtain ⟨C0, hC0⟩ : ∃ C0, coversB e y m d dd = C0 := ⟨_, rfl⟩
    obtain ⟨DL, hDL⟩ : ∃ DL, daysIn (oneE e) (evL (oneE e) y m d) dd dd = DL := ⟨_, rfl⟩
    rw [hC0] at hc0 hll
    rw [hDL] at hd1 hin hol
    have HC0 := Lib.hid hc0
    have HC1 := Lib.hid hc1
    have HD1 := Lib.hid hd1
    have HIN := Lib.hid hin
    have HOL := Lib.hid hol
    have HLL := Lib.hid hll
    clear hb7 hx7 hx8 hr80 hr81 hT8 hb58 h1b h1z hc0 hc1 hd1 hin hol hll hC0 hDL HX5 HR5 HT5 HBW5 HR6 HB6
    go_wp2_with fail
    (try rw [hW8])
    clear hW8 hW7 hb8 k0 k1 k2 k3 k4 k5 k6 k7 k8 k9 k10 f0 f1 f2 f3 f4 f5 f6 f7 f8 f9 f10
    go_loopw [8, 9] (fun v8 p wr => ∃ k : Nat, (k : Int) ≤ e.lg ∧ (k : Int) ≤ dd + 1 ∧ v8 = .bool (wantB e y m d dd k) ∧ p = .int .i64 (k : Int) ∧ Below W8.heap.size W8 wr) (fun _ p _ => (e.lg - intOf p).toNat)
    case atStart => have h1 := HLG.out; have h2 := HDD.out; exact ⟨0, by omega, by omega, rfl, rfl, Below.refl _ _⟩
    case round =>
      obtain ⟨k, hk1, hk2, rfl, rfl, hbr⟩ := hrel
      have HBR := Lib.hid hbr
      have HK1 := Lib.hid hk1
      have HK2 := Lib.hid hk2
      obtain ⟨h60a, h60⟩ := HLG.out
      obtain ⟨hd0, hd1⟩ := HDD.out
      obtain ⟨k0, k1, k2, k3, k4, k5, k6, k7, k8, k9, k10⟩ := cells11 (row_below HY8.out hbr)
      obtain ⟨j0, j1, j2, j3, j4, j5, j6, j7, j8, j9, j10⟩ := cells11 (row_below HX8.out hbr)
      have hnext := wantB_succ e y m d dd k
      obtain ⟨wb, hwb⟩ : ∃ wb, wantB e y m d dd k = wb := ⟨_, rfl⟩
      have HWB := Lib.hid hwb
      rw [hwb] at hnext ⊢
      have HNX := Lib.hid hnext
      clear hbr hnext hwb
      by_cases hgo : (k : Int) < e.lg ∧ (k : Int) ≤ dd
      · obtain ⟨h1, h2⟩ := hgo
        · have hcv := HC1.out (dd - (k : Int)) wr HBR.out
          obtain ⟨cb, hcb⟩ : ∃ cb, coversB (oneE e) y m d (dd - (k : Int)) = cb := ⟨_, rfl⟩
          rw [hcb] at hcv
          have HCV := Lib.hid hcv
          have HCB := Lib.hid hcb
          clear hcv hcb hk1 hk2
          go_wp2_with fail
          (with_reducible refine HCV.out.mono ?_)
          rintro e9 w9 ⟨rfl, hb9⟩
          have HB9 := Lib.hid (HBR.out.trans (hb9.mono HBR.out.size))
          clear hb9 k0 k1 k2 k3 k4 k5 k6 k7 k8 k9 k10 j0 j1 j2 j3 j4 j5 j6 j7 j8 j9 j10
          cases wb with
          | true =>
            go_wp2
            go_roundw
            case rel => exact ⟨k + 1, by omega, by omega, by rw [HNX.out]; rfl, by go_num, HB9.out⟩
            case measure => simp [intOf]; omega
          | false =>
            go_wp2
            go_roundw
            case rel => exact ⟨k + 1, by omega, by omega, by rw [HNX.out, HCB.out]; rfl, by go_num, HB9.out⟩
            case measure => simp [intOf]; omega
      · have hl := HLL.out k ⟨hk1, hk2⟩ (by omega)
        rw [HWB.out] at hl
        have hcv := fun W (h : Below W8.heap.size W8 W) => HC1.out dd W h
        have hol := HOL.out
        obtain ⟨S, hS⟩ : ∃ S, coversB (oneE e) y m d dd = S := ⟨_, rfl⟩
        rw [hS] at hcv hol
        have hin := HIN.out
        have hlen : (S = true ∧ DL.length = 1) ∨ (S = false ∧ DL.length = 0) := by
          cases S with
          | true => exact .inl ⟨rfl, of_decide_eq_true hol⟩
          | false => exact .inr ⟨rfl, by have := of_decide_eq_false hol; omega⟩
        subst hl
        have HCV := Lib.hid hcv
        have HLN := Lib.hid hlen
        have hcs : ¬ (k : Int) < e.lg ∨ ((k : Int) < e.lg ∧ ¬ (k : Int) ≤ dd) := by omega
        clear hcv hol hS hin hlen hgo hk1 hk2 HOL HIN
        rcases hcs with h1 | ⟨h1, h2⟩
        all_goals
          go_wp2_with fail
          (with_reducible refine (HD1.out _ HBR.out).mono ?_)
          rintro e9 w9 ⟨v9, er9, rfl, hv, hb9⟩
          have HB9 := Lib.hid (HBR.out.trans (hb9.mono HBR.out.size))
          have hln := HLN.out
          rcases hv with ⟨hv1, _⟩ | ⟨_, rfl, hrd⟩
          · omega
          obtain ⟨a9x, c9x, rfl⟩ := hrd.shape
          clear hrd hb9 hln k0 k1 k2 k3 k4 k5 k6 k7 k8 k9 k10 j0 j1 j2 j3 j4 j5 j6 j7 j8 j9 j10
          obtain ⟨j0, j1, j2, j3, j4, j5, j6, j7, j8, j9, j10⟩ := cells11 (row_below HX8.out HB9.out)
          go_wp2_with fail
          (with_reducible refine (HCV.out _ HB9.out).mono ?_)
          rintro e10 w10 ⟨rfl, hb10⟩
          have HB10 := Lib.hid (HB9.out.trans (hb10.mono HB9.out.size))
          clear hb10 j0 j1 j2 j3 j4 j5 j6 j7 j8 j9 j10
          obtain ⟨k0, k1, k2, k3, k4, k5, k6, k7, k8, k9, k10⟩ := cells11 (row_below HY8.out HB10.out)
          go_wp2_with fail
          (with_reducible refine (HC0.out _ HB10.out).mono ?_)
          rintro e11 w11 ⟨rfl, hb11⟩
          have HB11 := Lib.hid (HB10.out.trans (hb11.mono HB10.out.size))
          clear hb11 k0 k1 k2 k3 k4 k5 k6 k7 k8 k9 k10
          have hln := HLN.out
          rcases hln with ⟨rfl, hln⟩ | ⟨rfl, hln⟩
          · have hld : ((DL.length : Int) == 1) = true := by rw [hln]; rfl
            clear hln
            go_wp2_with fail
            (with_reducible refine (Ref.isDay_yes dd _ ⟨hd0, hd1⟩).mono ?_)
            rintro e12 w12 ⟨rfl, rfl⟩
            go_wp2
            go_ret
            exact ⟨rfl, HBW8.out.trans (HB11.out.mono HBW8.out.size)⟩
          · have hld : ((DL.length : Int) == 1) = false := by rw [hln]; rfl
            clear hln
            go_wp2_with fail
            (with_reducible refine (Ref.isDay_yes dd _ ⟨hd0, hd1⟩).mono ?_)
            rintro e12 w12 ⟨rfl, rfl⟩
            go_wp2
            go_ret
            exact ⟨rfl, HBW8.out.trans (HB11.out.mono HBW8.out.size)⟩
end Evt
end Go.Proofs.YtkhkhbeolhhomaaGreatDoor
