/- The reference's DaysOf. -/
import Derived.Test.YtkhkhbeolhhomaaGreatDoorRefDaysOf
import Derived.Laws.AppendOwnNone
import Derived.Deep.CutBlock
namespace Go.Proofs.YtkhkhbeolhhomaaGreatDoor
open Go Go.RowKit Go.Shelf Lmd
attribute [local go_sem] Oper.semAt_some
namespace Evt
open Rul Day Cand Er

theorem el_mem_iff {A : List Int} {d : Int} {k : Nat} (h : ∀ j, j < k → Ints.el A j < d) : d ∈ A ↔ k < A.length ∧ ∃ j, k ≤ j ∧ j < A.length ∧ Ints.el A j = d := by
  constructor
  · intro hm
    obtain ⟨j, hj, e⟩ := mem_el.1 hm
    have : k ≤ j := by
      rcases Nat.lt_or_ge j k with h2 | h2
      · have := h j h2; omega
      · exact h2
    exact ⟨by omega, j, this, hj, e⟩
  · rintro ⟨_, j, _, hj, e⟩
    exact mem_el.2 ⟨j, hj, e⟩
theorem el_rise {A : List Int} (hr : A.Pairwise (· < ·)) {i j : Nat} (hij : i < j) (hj : j < A.length) : Ints.el A i < Ints.el A j := by
  rw [Ints.el_lt hj, Ints.el_lt (by omega)]
  exact List.pairwise_iff_getElem.1 hr i j (by omega) hj hij
/-- the day at the place that was reached, or none -/
theorem at_place {A : List Int} {d : Int} {k : Nat} (hr : A.Pairwise (· < ·)) (h : ∀ j, j < k → Ints.el A j < d) (h2 : k = A.length ∨ d ≤ Ints.el A k) : decide (d ∈ A) = (decide (k < A.length) && decide (Ints.el A k = d)) := by
  rw [Bool.eq_iff_iff, Bool.and_eq_true, decide_eq_true_eq, decide_eq_true_eq, decide_eq_true_eq, el_mem_iff h]
  constructor
  · rintro ⟨h3, j, h4, h5, e⟩
    refine ⟨h3, ?_⟩
    rcases Nat.lt_or_ge k j with h6 | h6
    · have := el_rise hr h6 h5
      rcases h2 with h2 | h2 <;> omega
    · have : j = k := by omega
      rw [← this]; exact e
  · rintro ⟨h3, e⟩
    exact ⟨h3, k, Nat.le_refl _, h3, e⟩
theorem filter_mem {L : List Int} {d b : Int} (h : d ≤ b) : decide (d ∈ L.filter fun x => decide (x ≤ b)) = decide (d ∈ L) := by
  rw [Bool.eq_iff_iff, decide_eq_true_eq, decide_eq_true_eq, List.mem_filter, decide_eq_true_eq]
  exact ⟨fun h => h.1, fun h2 => ⟨h2, h⟩⟩
/-- what DaysOf tells -/
def SpanPost (DL : List Int) (w : World) (r : Ending) (w' : World) : Prop :=
  ∃ v' b, r = .returned (.tuple #[v', .bool b]) ∧ ((b = true ∧ 1000 < DL.length) ∨ (b = false ∧ DL.length ≤ 1000 ∧ (∃ a c, v' = .slice a DL.length c) ∧ Ints.Reads w' v' DL)) ∧ Below w.heap.size w w'
set_option maxRecDepth 100000 in
set_option maxHeartbeats 8000000 in
theorem daysOf_any (e : Ev) (vd vs vm : Value) (y m d ka kb : Int) (w : World) (hr : Rv w e vd vs vm) (hz : Size e) (hbad : badE e = 0) (ha : Cal.At e.st y m d) :
    Calls Tryz.prog 30 #[.agg (e.cells vd vs vm), .int .i64 ka, .int .i64 kb] w (SpanPost (daysIn e (evL e y m d) ka kb) w) := by
  obtain ⟨i0, hi0, hz0, hz1, hz2⟩ := info_parts int_info
  obtain ⟨a6, c6, rfl⟩ := hr.d.shape
  obtain ⟨a9, c9, rfl⟩ := hr.s.shape
  obtain ⟨a10, c10, rfl⟩ := hr.m.shape
  have hfit := fit_of hbad ha
  have hbr := (badE_zero hbad).2.2.2.2.1
  have hall := fun w' (h : Below w.heap.size w w') => allDays_any e.st y m d kb e.ru _ w' ha hbr (hr.d.below h) hz.ds
  have hone := fun x w' (h : Below w.heap.size w w') => isOne_any e.st y m d x e.ru _ w' ha hbr (hr.d.below h) hz.ds
  have hin := fun x w' (h : Below w.heap.size w w') => isIn_any x _ e.sk w' (hr.s.below h) (by have := hz.sk; omega)
  obtain ⟨L, hL⟩ : ∃ L, evL e y m d = L := ⟨_, rfl⟩
  have hL2 : daysOf e.ru.ct e.ru.un (cands e.st y m d e.ru) = L := hL
  rw [hL2] at hall
  simp only [hL2] at hone
  rw [hL] at hfit ⊢
  have hAr : (L.filter fun x => decide (x ≤ kb)).Pairwise (· < ·) := List.Pairwise.filter _ hfit.rise
  have hAl : (L.filter fun x => decide (x ≤ kb)).length ≤ 73049 := by
    have := Cpt.len_sub (b := steps 0 1 73048) hAr (fun x hx => by
      have := hfit.days x (List.mem_filter.1 hx).1
      rw [steps_mem (by omega)]; omega)
    have hl : (steps 0 1 73048).length = 73049 := by simp [steps]
    omega
  have hAm := fun (x : Int) (h : x ≤ kb) => filter_mem (L := L) h
  obtain ⟨A, hA⟩ : ∃ A, (L.filter fun x => decide (x ≤ kb)) = A := ⟨_, rfl⟩
  rw [hA] at hall hAr hAl
  simp only [hA] at hAm
  obtain ⟨F, hF⟩ : ∃ F : Int, F = if ka < 0 then 0 else ka := ⟨_, rfl⟩
  obtain ⟨W, hW⟩ : ∃ W, w.alloc (.cells (e.cells (.slice a6 e.ru.ds.length c6) (.slice a9 e.sk.length c9) (.slice a10 e.mv.length c10)) 38) = W := ⟨_, rfl⟩
  have hB : Below w.heap.size w W := by rw [← hW]; exact (Below.refl _ w).alloc (Nat.le_refl _) _
  have hx : W.heap[w.heap.size]? = some (.cells (e.cells (.slice a6 e.ru.ds.length c6) (.slice a9 e.sk.length c9) (.slice a10 e.mv.length c10)) 38) := by rw [← hW]; exact heap_new w _
  obtain ⟨n6, hn6⟩ : ∃ n, e.ru.ds.length = n := ⟨_, rfl⟩
  obtain ⟨n9, hn9⟩ : ∃ n, e.sk.length = n := ⟨_, rfl⟩
  obtain ⟨n10, hn10⟩ : ∃ n, e.mv.length = n := ⟨_, rfl⟩
  have hmv := hz.mv
  rw [hn6] at hall hone hx hW hr ⊢
  rw [hn9] at hin hx hW hr ⊢
  rw [hn10] at hmv hx hW hr ⊢
  have HALL := Lib.hid hall
  have HONE := Lib.hid hone
  have HIN := Lib.hid hin
  have HFIT := Lib.hid hfit
  have HAR := Lib.hid hAr
  have HAM := Lib.hid hAm
  have HF := Lib.hid hF
  have HW := Lib.hid hW
  have HB := Lib.hid hB
  have HX := Lib.hid hx
  have HM := Lib.hid hr.m
  have HN10 := Lib.hid hn10
  have HF0 := Lib.hid (show 0 ≤ F by rw [hF]; split <;> omega)
  clear hr hz hall hone hin hfit hAr hAm hF hW hB hx hn6 hn9 hn10 hL hL2 hA ha hbad hbr
  go_enter Tryz.func30, Tryz.ntmps30
  obtain ⟨k0, k1, k2, k3, k4, k5, k6, k7, k8, k9, k10⟩ := cells11 HX.out
  go_upto_region 1 with fail
  rw [HW.out]
  go_upto_if 17 with fail
  go_cut [1] from 16 (fun s1 wx => s1 = .int .i64 F ∧ wx = W)
  case first =>
    by_cases h0 : ka < 0
    · have HF2 := Lib.hid (show F = 0 by rw [HF.out, if_pos h0])
      go_wp2_with fail
      go_meet
      exact ⟨by rw [HF2.out], rfl⟩
    · have HF2 := Lib.hid (show F = ka by rw [HF.out, if_neg h0])
      go_wp2_with fail
      go_meet
      exact ⟨by rw [HF2.out], rfl⟩
  case rest =>
    obtain ⟨rfl, rfl⟩ := hcut
    go_wp2_with fail
    (with_reducible refine (HALL.out _ HB.out).mono ?_)
    rintro e1 w1 ⟨v1, rfl, hr1, hb1⟩
    have HX1 := Lib.hid (row_below HX.out hb1)
    have HB1 := Lib.hid (HB.out.trans (hb1.mono HB.out.size))
    obtain ⟨aA, cA, rfl⟩ := hr1.shape
    have HRA := Lib.hid hr1
    clear hr1 hb1 k0 k1 k2 k3 k4 k5 k6 k7 k8 k9 k10
    go_wp2_with fail
    go_loopw [8, 10, 11] (fun v8 v10 v11 wr => ∃ (d' : Int) (k : Nat) (out : List Int), v11 = .int .i64 d' ∧ v10 = .int .i64 (k : Int) ∧ F ≤ d' ∧ (d' = F ∨ (d' ≤ kb + 1 ∧ d' ≤ 73049)) ∧ k ≤ A.length ∧ (∀ j, j < k → Ints.el A j < d') ∧ (∃ a c, v8 = .slice a out.length c) ∧ out.length ≤ 1000 ∧ wr.ownsRow w1.heap.size 3 1 v8 out.length (cellsOf out) ∧ Below w1.heap.size w1 wr ∧ out = daysIn e L F (d' - 1)) (fun _ _ p _ => (73049 - intOf p).toNat)
    case atStart => exact ⟨F, 0, [], rfl, rfl, Int.le_refl _, .inl rfl, Nat.zero_le _, fun _ h => absurd h (Nat.not_lt_zero _), ⟨none, 0, rfl⟩, Nat.zero_le _, ⟨rfl, .inl ⟨rfl, rfl⟩⟩, Below.refl _ _, (in_none HFIT.out F).symm⟩
    case round =>
    obtain ⟨d', k, out, rfl, rfl, hd0, hd1, hk, hbe, ⟨a8, c8, rfl⟩, hlen, hown, hbr, hout⟩ := hrel
    have hF0 := HF0.out
    have HD1 := Lib.hid hd1
    have HBE := Lib.hid hbe
    have HOWN := Lib.hid hown
    have HBR := Lib.hid hbr
    have HOUT := Lib.hid hout
    have HX2 := Lib.hid (row_below HX1.out hbr)
    have HB2 := Lib.hid (HB1.out.trans (hbr.mono HB1.out.size))
    have HM2 := Lib.hid (HM.out.below HB2.out)
    have HRA2 := Lib.hid (HRA.out.below hbr)
    clear hd1 hbe hown hbr hout
    by_cases hto : d' ≤ kb
    case neg =>
      have HDN := Lib.hid (in_done HFIT.out HF.out (HD1.out.imp id (fun h => h.1)) (.inl (by omega)))
      have HDO := Lib.hid (show daysIn e L ka kb = out by rw [HOUT.out]; exact HDN.out.symm)
      go_wp2
      go_ret2
      rw [HDO.out]
      exact ⟨_, false, rfl, .inr ⟨rfl, hlen, ⟨_, _, rfl⟩, reads_own HOWN.out⟩, HB2.out⟩
    by_cases hto2 : d' ≤ 73048
    case neg =>
      have HDN := Lib.hid (in_done HFIT.out HF.out (HD1.out.imp id (fun h => h.1)) (.inr (by omega)))
      have HDO := Lib.hid (show daysIn e L ka kb = out by rw [HOUT.out]; exact HDN.out.symm)
      go_wp2
      go_ret2
      rw [HDO.out]
      exact ⟨_, false, rfl, .inr ⟨rfl, hlen, ⟨_, _, rfl⟩, reads_own HOWN.out⟩, HB2.out⟩
    obtain ⟨W2, hW2⟩ : ∃ W2, W2 = wr := ⟨_, rfl⟩
    subst hW2
    obtain ⟨k0, k1, k2, k3, k4, k5, k6, k7, k8, k9, k10⟩ := cells11 HX2.out
    go_upto_block 2 with fail
    go_cut [10] from 34 to 47 (fun v10 wx => ∃ n2 : Nat, v10 = .int .i64 (n2 : Int) ∧ n2 ≤ A.length ∧ (∀ j, j < n2 → Ints.el A j < d') ∧ (n2 = A.length ∨ d' ≤ Ints.el A n2) ∧ wx = W2)
    case first =>
      go_wp2_with fail
      go_loopw [10] (fun v10 wr2 => ∃ n2 : Nat, v10 = .int .i64 (n2 : Int) ∧ n2 ≤ A.length ∧ (∀ j, j < n2 → Ints.el A j < d') ∧ wr2 = W2) (fun p _ => A.length - (intOf p).toNat)
      case atStart => exact ⟨k, rfl, hk, HBE.out, rfl⟩
      case round =>
        obtain ⟨n2, rfl, hn2, hbe2, rfl⟩ := hrel
        have HBE2 := Lib.hid hbe2
        clear hbe2
        by_cases hlt : (n2 : Int) < (A.length : Int)
        · obtain ⟨-, b, o, ha, hc⟩ := HRA2.out.at (by rintro rfl; simp at hlt; omega)
          subst ha
          have c1 := hc n2 (by omega)
          obtain ⟨x, hx⟩ : ∃ x, Ints.el A n2 = x := ⟨_, rfl⟩
          rw [hx] at c1
          have HXX := Lib.hid hx
          clear hc hx
          by_cases hq : x < d'
          · go_wp2
            go_roundw
            case rel => exact ⟨n2 + 1, by go_num, by omega, fun j hj => by
              by_cases ej : j = n2
              · subst ej; rw [HXX.out]; exact hq
              · exact HBE2.out j (by omega), by trivial⟩
            case measure => simp [intOf]; omega
          · go_wp2
            go_meet
            exact ⟨n2, rfl, hn2, HBE2.out, .inr (by rw [HXX.out]; omega), rfl⟩
        · go_wp2
          go_meet
          exact ⟨n2, rfl, hn2, HBE2.out, .inl (by omega), rfl⟩
    case rest =>
    obtain ⟨n2, rfl, hn2, hbe2, hen2, rfl⟩ := hcut
    have HPL := Lib.hid (at_place HAR.out hbe2 hen2)
    have HBE2 := Lib.hid hbe2
    clear hbe2 hen2
    obtain ⟨b0, hb0⟩ : ∃ b, decide (d' ∈ A) = b := ⟨_, rfl⟩
    have HAL := Lib.hid (show decide (d' ∈ L) = b0 by rw [← HAM.out d' hto, hb0])
    rw [hb0] at HPL
    clear hb0
    go_upto_if 52 with fail
    go_cut [12] from 48 to 58 (fun v12 wx => v12 = .bool b0 ∧ wx = wc)
    case first =>
      by_cases hlt : (n2 : Int) < (A.length : Int)
      · obtain ⟨-, b, o, ha, hc⟩ := HRA2.out.at (by rintro rfl; simp at hlt; omega)
        subst ha
        have c1 := hc n2 (by omega)
        have hpl := HPL.out
        rw [decide_eq_true (show n2 < A.length by omega), Bool.true_and] at hpl
        obtain ⟨x, hx⟩ : ∃ x, Ints.el A n2 = x := ⟨_, rfl⟩
        rw [hx] at c1 hpl
        clear hc hx
        by_cases hq : x = d'
        · have q1 : (x == d') = true := by rw [hq]; simp
          have HPB := Lib.hid (show b0 = true by rw [hpl]; exact decide_eq_true hq)
          clear hpl hq
          go_wp2
          go_meet
          exact ⟨by rw [HPB.out], rfl⟩
        · have q1 : (x == d') = false := by simpa using hq
          have HPB := Lib.hid (show b0 = false by rw [hpl]; exact decide_eq_false hq)
          clear hpl hq
          go_wp2
          go_meet
          exact ⟨by rw [HPB.out], rfl⟩
      · have HPB := Lib.hid (show b0 = false by rw [HPL.out, decide_eq_false (show ¬ n2 < A.length by omega)]; rfl)
        go_wp2
        go_meet
        exact ⟨by rw [HPB.out], rfl⟩
    case rest =>
    obtain ⟨rfl, rfl⟩ := hcut
    have hi := HIN.out d' _ HB2.out
    obtain ⟨b1, hb1⟩ : ∃ b, decide (d' ∈ e.sk) = b := ⟨_, rfl⟩
    rw [hb1] at hi
    have HI := Lib.hid hi
    have HB1E := Lib.hid hb1
    clear hi hb1
    go_upto_region 14 with fail
    go_wp2_with fail
    (with_reducible refine HI.out.mono ?_)
    rintro e2 w2 ⟨rfl, rfl⟩
    obtain ⟨c0, hc0⟩ : ∃ c, (b0 && !b1) = c := ⟨_, rfl⟩
    have HC0 := Lib.hid hc0
    clear hc0
    go_upto_if 62 with fail
    go_cut [12] from 59 to 62 (fun v12 wx => v12 = .bool c0 ∧ wx = w2)
    case first =>
      cases b1 with
      | true =>
        obtain rfl : c0 = false := by rw [← HC0.out]; simp
        go_wp2
        go_meet
        exact ⟨rfl, rfl⟩
      | false =>
        obtain rfl : c0 = b0 := by rw [← HC0.out]; simp
        go_wp2
        go_meet
        exact ⟨rfl, rfl⟩
    case rest =>
    obtain ⟨rfl, rfl⟩ := hcut
    obtain ⟨W3, hW3⟩ : ∃ W3, W3 = wc := ⟨_, rfl⟩
    subst hW3
    clear HI
    go_wp2_with fail
    go_loopw [12, 13] (fun v12 v13 wr => ∃ (j : Nat) (bt : Bool), j ≤ n10 ∧ v12 = .bool bt ∧ v13 = .int .i64 (j : Int) ∧ wr = W3 ∧ bt = (c0 && !fromB (e.mv.take j) d')) (fun _ p _ => n10 - (intOf p).toNat)
    case atStart => exact ⟨0, c0, Nat.zero_le _, rfl, rfl, rfl, by simp [fromB]⟩
    case round =>
    obtain ⟨j, bt, hj, rfl, rfl, rfl, hbt⟩ := hrel
    have HBT := Lib.hid hbt
    clear hbt
    by_cases hlt : j < n10
    · obtain ⟨-, b, o, ha9, hc⟩ := HM2.out.at (by intro h; have := HN10.out; rw [h] at this; simp at this; omega)
      subst ha9
      obtain ⟨c1, c2⟩ := hc j (by rw [HN10.out]; exact hlt)
      have hts := fromB_snoc (d := d') (show j < e.mv.length by rw [HN10.out]; exact hlt)
      obtain ⟨mm, hm⟩ : ∃ mm, ml e.mv j = mm := ⟨_, rfl⟩
      obtain ⟨m1, m2⟩ := mm
      rw [hm] at c1 c2 hts
      simp only at c1 c2 hts
      have HTS := Lib.hid hts
      clear hm hc hts
      by_cases h2 : m1 = d'
      · have q1 : (m1 == d') = true := by rw [h2]; simp
        have H2 := Lib.hid h2
        clear h2
        go_wp2
        go_roundw
        case rel => exact ⟨j + 1, false, by omega, rfl, by go_num, by trivial, by rw [HTS.out, decide_eq_true H2.out]; simp⟩
        case measure => simp [intOf]; omega
      · have q1 : (m1 == d') = false := by simpa using h2
        have H2 := Lib.hid h2
        clear h2
        go_wp2
        go_roundw
        case rel => exact ⟨j + 1, bt, by omega, rfl, by go_num, by trivial, by rw [HTS.out, decide_eq_false H2.out, Bool.or_false]; exact HBT.out⟩
        case measure => simp [intOf]; omega
    obtain rfl : j = n10 := by omega
    have HBT2 := Lib.hid (show bt = ((b0 && !b1) && !fromB e.mv d') by
      have h := HBT.out
      rw [List.take_of_length_le (by rw [HN10.out]; omega)] at h
      rw [h, HC0.out])
    obtain ⟨W4, hW4⟩ : ∃ W4, W4 = wr := ⟨_, rfl⟩
    subst hW4
    clear HBT HC0
    go_wp2_with fail
    go_loopw [12, 14] (fun v12 v14 wr => ∃ (i : Nat) (bu : Bool), i ≤ j ∧ v12 = .bool bu ∧ v14 = .int .i64 (i : Int) ∧ Below W4.heap.size W4 wr ∧ bu = (bt || toB (e.mv.take i) L d')) (fun _ p _ => j - (intOf p).toNat)
    case atStart => exact ⟨0, bt, Nat.zero_le _, rfl, rfl, Below.refl _ _, by simp [toB]⟩
    case round =>
    obtain ⟨i, bu, hi, rfl, rfl, hbr2, hbu⟩ := hrel
    have HBU := Lib.hid hbu
    have HBR2 := Lib.hid hbr2
    have HX3 := Lib.hid (row_below HX2.out hbr2)
    have HB3 := Lib.hid (HB2.out.trans (hbr2.mono HB2.out.size))
    have HM3 := Lib.hid (HM2.out.below hbr2)
    clear hbu hbr2 k0 k1 k2 k3 k4 k5 k6 k7 k8 k9 k10
    obtain ⟨k0, k1, k2, k3, k4, k5, k6, k7, k8, k9, k10⟩ := cells11 HX3.out
    by_cases hlt2 : i < j
    · obtain ⟨-, b, o, ha9, hc⟩ := HM3.out.at (by intro h; have := HN10.out; rw [h] at this; simp at this; omega)
      subst ha9
      obtain ⟨c1, c2⟩ := hc i (by rw [HN10.out]; exact hlt2)
      have hts := toB_snoc (L := L) (d := d') (show i < e.mv.length by rw [HN10.out]; exact hlt2)
      obtain ⟨mm, hm⟩ : ∃ mm, ml e.mv i = mm := ⟨_, rfl⟩
      obtain ⟨m1, m2⟩ := mm
      rw [hm] at c1 c2 hts
      simp only at c1 c2 hts
      have HTS := Lib.hid hts
      clear hm hc hts
      by_cases h2 : m2 = d'
      · have q1 : (m2 == d') = true := by rw [h2]; simp
        have H2 := Lib.hid h2
        clear h2
        have hdw : Below w.heap.size w wr.drew := below_draw HB3.out 1
        go_upto_region 25 with fail
        go_region_with ((go_at_call 100; (with_reducible refine (HONE.out _ _ hdw).mono ?_); rintro e1 w5 ⟨rfl, hb5⟩))
        all_goals (
          have HB5 := Lib.hid (HBR2.out.trans (((below_draw (Below.refl _ wr) 1).trans (hb5.mono (Nat.le_refl _))).mono HBR2.out.size))
          obtain ⟨bb, hbb⟩ : ∃ bb, decide (m1 ∈ L) = bb := ⟨_, rfl⟩
          rw [hbb] at HTS
          rw [hbb]
          clear hbb hb5
          cases bb with
          | true =>
            go_wp2
            go_roundw
            case rel => exact ⟨i + 1, true, by omega, rfl, by go_num, HB5.out, by rw [HTS.out, decide_eq_true H2.out]; simp⟩
            case measure => simp [intOf]; omega
          | false =>
            go_wp2
            go_roundw
            case rel => exact ⟨i + 1, bu, by omega, rfl, by go_num, HB5.out, by rw [HTS.out, Bool.and_false, Bool.or_false]; exact HBU.out⟩
            case measure => simp [intOf]; omega)
      · have q1 : (m2 == d') = false := by simpa using h2
        have H2 := Lib.hid h2
        clear h2
        go_wp2
        go_roundw
        case rel => exact ⟨i + 1, bu, by omega, rfl, by go_num, HBR2.out, by rw [HTS.out, decide_eq_false H2.out, Bool.false_and, Bool.or_false]; exact HBU.out⟩
        case measure => simp [intOf]; omega
    obtain rfl : i = j := by omega
    have HOC := Lib.hid (show occB e L d' = bu by
      have h := HBU.out
      rw [List.take_of_length_le (by rw [HN10.out]; omega), HBT2.out, ← HAL.out, ← HB1E.out, ← occ_ref] at h
      exact h.symm)
    have HSN := Lib.hid (in_snoc HFIT.out hd0)
    have HOW2 := Lib.hid (own_below HOWN.out HBR2.out)
    have HBF := Lib.hid (HBR.out.trans (HBR2.out.mono HBR.out.size))
    clear HBU
    cases bu with
    | false =>
      have HSN2 := Lib.hid (show out = daysIn e L F (d' + 1 - 1) by
        have h := HSN.out
        rw [HOC.out] at h
        simp only [Bool.false_eq_true, if_false, List.append_nil] at h
        rw [Int.add_sub_cancel, h]; exact HOUT.out)
      have hl3 : ¬ (1000 : Int) < (out.length : Int) := by omega
      go_wp2
      go_roundw
      case rel => exact ⟨d' + 1, n2, out, by go_num, rfl, by omega, .inr ⟨by omega, by omega⟩, hn2, fun j hj => by have := HBE2.out j hj; omega, ⟨_, _, rfl⟩, hlen, HOW2.out, HBF.out, HSN2.out⟩
      case measure => simp [intOf]; omega
    | true =>
      have HSN2 := Lib.hid (show out ++ [d'] = daysIn e L F (d' + 1 - 1) by
        have h := HSN.out
        rw [HOC.out] at h
        simp only [if_true] at h
        rw [Int.add_sub_cancel, h, ← HOUT.out])
      go_upto_region 30 with (
        at_builtin
        refine append_int rfl (.tmp 106) (.tmp 108) rfl w1.heap.size (.slice a8 out.length c8) out rfl (HOW2.out.alloc _) wr.heap.size d' rfl (cell_of (heap_new wr _) rfl) (by omega) (by have := HBF.out.size; simp; omega) ?_
        intro a9 c9 w6 hown6 hb6
        have HOW6 := Lib.hid hown6
        have HB6 := Lib.hid ((HBF.out.alloc (Nat.le_trans HBF.out.size (Nat.le_refl _)) _).trans hb6)
        clear hown6 hb6)
      have HLL := Lib.hid (show (out ++ [d']).length = out.length + 1 by simp)
      by_cases hl3 : (1000 : Int) < (out.length : Int) + 1
      · have HPR := Lib.hid (in_pre HFIT.out HF.out hto)
        go_wp2
        go_ret2
        refine ⟨_, true, rfl, .inl ⟨rfl, ?_⟩, HB1.out.trans (HB6.out.mono HB1.out.size)⟩
        have h := HPR.out
        have h2 := HSN2.out
        rw [Int.add_sub_cancel] at h2
        rw [← h2, HLL.out] at h
        omega
      · go_wp2
        go_roundw
        case rel => exact ⟨d' + 1, n2, out ++ [d'], by go_num, rfl, by omega, .inr ⟨by omega, by omega⟩, hn2, fun j hj => by have := HBE2.out j hj; omega, ⟨_, _, by rw [HLL.out]⟩, by rw [HLL.out]; omega, HOW6.out, HB6.out, HSN2.out⟩
        case measure => simp [intOf]; omega
end Evt
end Go.Proofs.YtkhkhbeolhhomaaGreatDoor
