/- The reference's isOwn, DaysOf, IsCovered. -/
import Derived.Test.YtkhkhbeolhhomaaGreatDoorEvCov
import Derived.Test.YtkhkhbeolhhomaaGreatDoorRefOne
import Derived.Deep.CutRange
namespace Go.Proofs.YtkhkhbeolhhomaaGreatDoor
open Go Go.RowKit Go.Shelf Lmd
attribute [local go_sem] Oper.semAt_some
namespace Evt
open Rul Day Cand Er

theorem in_snoc {e : Ev} {L : List Int} (h : Fit e L) {a d : Int} (hd : a ≤ d) : daysIn e L a d = daysIn e L a (d - 1) ++ (if occB e L d = true then [d] else []) := by
  refine (in_eq h ?_ fun x => ?_).symm
  · rw [List.pairwise_append]
    refine ⟨in_rise _ _ _ _, by split <;> simp, fun p hp q hq => ?_⟩
    have g1 := (in_mem h).1 hp
    split at hq
    · simp at hq; omega
    · simp at hq
  · rw [List.mem_append, in_mem h]
    constructor
    · rintro (⟨g1, g2, g3⟩ | g)
      · exact ⟨g1, by omega, g3⟩
      · split at g
        · rename_i ho
          simp at g; subst g; exact ⟨hd, Int.le_refl _, ho⟩
        · simp at g
    · rintro ⟨g1, g2, g3⟩
      by_cases hx : x = d
      · subst hx; right; rw [if_pos g3]; simp
      · exact .inl ⟨g1, by omega, g3⟩
theorem in_none {e : Ev} {L : List Int} (h : Fit e L) (a : Int) : daysIn e L a (a - 1) = [] := by
  rw [List.eq_nil_iff_forall_not_mem]
  intro x hx
  have := (in_mem h).1 hx
  omega
theorem in_done {e : Ev} {L : List Int} (h : Fit e L) {a b F d : Int} (hF : F = if a < 0 then 0 else a) (h1 : d = F ∨ d ≤ b + 1) (h2 : b < d ∨ 73048 < d) : daysIn e L F (d - 1) = daysIn e L a b := by
  refine in_eq h (in_rise _ _ _ _) fun x => ?_
  rw [in_mem h]
  constructor
  · rintro ⟨g1, g2, g3⟩
    have := occ_day h g3
    exact ⟨by split at hF <;> omega, by omega, g3⟩
  · rintro ⟨g1, g2, g3⟩
    have := occ_day h g3
    exact ⟨by split at hF <;> omega, by omega, g3⟩
theorem in_pre {e : Ev} {L : List Int} (h : Fit e L) {a b F d : Int} (hF : F = if a < 0 then 0 else a) (hd : d ≤ b) : (daysIn e L F d).length ≤ (daysIn e L a b).length := by
  refine Cpt.len_sub (in_rise _ _ _ _) fun x hx => ?_
  obtain ⟨g1, g2, g3⟩ := (in_mem h).1 hx
  exact (in_mem h).2 ⟨by split at hF <;> omega, by omega, g3⟩
/-- is a day the target of a move of a day of the rule's -/
def toB (mv : List (Int × Int)) (L : List Int) (d : Int) : Bool := mv.any fun m => decide (m.2 = d) && decide (m.1 ∈ L)
def fromB (mv : List (Int × Int)) (d : Int) : Bool := mv.any fun m => decide (m.1 = d)
theorem occ_ref (e : Ev) (L : List Int) (d : Int) : occB e L d = (((decide (d ∈ L) && !decide (d ∈ e.sk)) && !fromB e.mv d) || toB e.mv L d) := by
  rw [Bool.eq_iff_iff, occ_iff]
  simp only [goneB, fromB, toB, froms, Bool.or_eq_true, Bool.and_eq_true, Bool.not_eq_true', decide_eq_true_eq, decide_eq_false_iff_not, List.any_eq_true, List.any_eq_false, Bool.or_eq_false_iff]
  refine or_congr ?_ Iff.rfl
  constructor
  · rintro ⟨h1, h2, h3⟩
    refine ⟨⟨h1, by intro h; simp [h] at h2⟩, fun m hm h => ?_⟩
    have : (e.mv.map Prod.fst).contains d = true := by rw [List.contains_iff_mem, List.mem_map]; exact ⟨m, hm, h⟩
    rw [h3] at this; cases this
  · rintro ⟨⟨h1, h2⟩, h3⟩
    refine ⟨h1, by rw [← Bool.not_eq_true, List.contains_iff_mem]; exact h2, ?_⟩
    rw [← Bool.not_eq_true, List.contains_iff_mem, List.mem_map]
    rintro ⟨m, hm, h⟩
    exact h3 m hm h
theorem take_snoc_ml {xs : List (Int × Int)} {k : Nat} (h : k < xs.length) : xs.take (k + 1) = xs.take k ++ [ml xs k] := by
  rw [List.take_succ_eq_append_getElem h, ml_lt h]
theorem toB_snoc {mv : List (Int × Int)} {L : List Int} {d : Int} {k : Nat} (h : k < mv.length) : toB (mv.take (k + 1)) L d = (toB (mv.take k) L d || (decide ((ml mv k).2 = d) && decide ((ml mv k).1 ∈ L))) := by
  rw [take_snoc_ml h]; simp [toB]
theorem fromB_snoc {mv : List (Int × Int)} {d : Int} {k : Nat} (h : k < mv.length) : fromB (mv.take (k + 1)) d = (fromB (mv.take k) d || decide ((ml mv k).1 = d)) := by
  rw [take_snoc_ml h]; simp [fromB]
theorem toB_yes {mv : List (Int × Int)} {L : List Int} {d : Int} {k : Nat} (h : k < mv.length) (h1 : (ml mv k).2 = d) (h2 : decide ((ml mv k).1 ∈ L) = true) : toB mv L d = true :=
  List.any_eq_true.2 ⟨ml mv k, by rw [ml_lt h]; exact List.getElem_mem _, by rw [h2, decide_eq_true h1]; rfl⟩
theorem fromB_yes {mv : List (Int × Int)} {d : Int} {k : Nat} (h : k < mv.length) (h1 : (ml mv k).1 = d) : fromB mv d = true :=
  List.any_eq_true.2 ⟨ml mv k, by rw [ml_lt h]; exact List.getElem_mem _, decide_eq_true h1⟩
set_option maxRecDepth 100000 in
set_option maxHeartbeats 8000000 in
theorem isOwn_any (e : Ev) (vd vs vm : Value) (y m d dd : Int) (w : World) (hr : Rv w e vd vs vm) (hz : Size e) (hbad : badE e = 0) (ha : Cal.At e.st y m d) :
    Calls Tryz.prog 101 #[.agg (e.cells vd vs vm), .int .i64 dd] w fun r w' => r = .returned (.bool (occB e (evL e y m d) dd)) ∧ Below w.heap.size w w' := by
  obtain ⟨a6, c6, rfl⟩ := hr.d.shape
  obtain ⟨a9, c9, rfl⟩ := hr.s.shape
  obtain ⟨a10, c10, rfl⟩ := hr.m.shape
  obtain ⟨q, hq⟩ : ∃ q, occB e (evL e y m d) dd = q := ⟨_, rfl⟩
  have hone := fun x w' (h : Below w.heap.size w w') => isOne_any e.st y m d x e.ru _ w' ha (badE_zero hbad).2.2.2.2.1 (hr.d.below h) hz.ds
  obtain ⟨L, hL⟩ : ∃ L, evL e y m d = L := ⟨_, rfl⟩
  have hone2 : ∀ x w', Below w.heap.size w w' → Calls Tryz.prog 100 #[.int .i64 e.st, .agg #[.string e.ru.fq, .int .i64 e.ru.ev, .slice a6 e.ru.ds.length c6, .int .i64 e.ru.ct, .int .i64 e.ru.un], .int .i64 x] w' fun e' w2 => e' = .returned (.bool (decide (x ∈ L))) ∧ Below w'.heap.size w' w2 := by
    rw [← hL]; exact hone
  rw [occ_ref, hL] at hq
  rw [hL, occ_ref, hq]
  have hin := fun w' (h : Below w.heap.size w w') => isIn_any dd _ e.sk w' (hr.s.below h) (by have := hz.sk; omega)
  obtain ⟨W, hW⟩ : ∃ W, w.alloc (.cells (e.cells (.slice a6 e.ru.ds.length c6) (.slice a9 e.sk.length c9) (.slice a10 e.mv.length c10)) 38) = W := ⟨_, rfl⟩
  have hB : Below w.heap.size w W := by rw [← hW]; exact (Below.refl _ w).alloc (Nat.le_refl _) _
  have hx : W.heap[w.heap.size]? = some (.cells (e.cells (.slice a6 e.ru.ds.length c6) (.slice a9 e.sk.length c9) (.slice a10 e.mv.length c10)) 38) := by rw [← hW]; exact heap_new w _
  obtain ⟨n6, hn6⟩ : ∃ n, e.ru.ds.length = n := ⟨_, rfl⟩
  obtain ⟨n9, hn9⟩ : ∃ n, e.sk.length = n := ⟨_, rfl⟩
  obtain ⟨n10, hn10⟩ : ∃ n, e.mv.length = n := ⟨_, rfl⟩
  have hmv := hz.mv
  rw [hn6] at hone2 hx hW hr ⊢
  rw [hn9] at hin hx hW hr ⊢
  rw [hn10] at hmv hx hW hr ⊢
  have HQ := Lib.hid hq
  have HONE := Lib.hid hone2
  have HIN := Lib.hid hin
  have HW := Lib.hid hW
  have HB := Lib.hid hB
  have HX := Lib.hid hx
  have HM := Lib.hid hr.m
  have HN10 := Lib.hid hn10
  clear hr hz hq hone hone2 hin hW hB hx hn6 hn9 hn10 hL ha hbad
  go_enter Tryz.func101, Tryz.ntmps101
  go_upto_region 1 with fail
  rw [HW.out]
  go_wp2_with fail
  go_loopw [5] (fun p wr => ∃ k : Nat, k ≤ n10 ∧ p = .int .i64 (k : Int) ∧ toB (e.mv.take k) L dd = false ∧ Below W.heap.size W wr) (fun p _ => n10 - (intOf p).toNat)
  case atStart => exact ⟨0, Nat.zero_le _, rfl, rfl, Below.refl _ _⟩
  case round =>
    obtain ⟨k, hk, rfl, hto, hbr⟩ := hrel
    have HTO := Lib.hid hto
    have HBR := Lib.hid hbr
    have HBB := Lib.hid (HB.out.trans (hbr.mono HB.out.size))
    obtain ⟨k0, k1, k2, k3, k4, k5, k6, k7, k8, k9, k10⟩ := cells11 (row_below HX.out hbr)
    clear hto hbr
    by_cases hlt : k < n10
    · obtain ⟨-, b, o, ha9, hc⟩ := (HM.out.below HBB.out).at (by intro h; have := HN10.out; rw [h] at this; simp at this; omega)
      subst ha9
      obtain ⟨c1, c2⟩ := hc k (by rw [HN10.out]; exact hlt)
      have hts := toB_snoc (L := L) (d := dd) (show k < e.mv.length by rw [HN10.out]; exact hlt)
      rw [HTO.out, Bool.false_or] at hts
      have hty := toB_yes (L := L) (d := dd) (show k < e.mv.length by rw [HN10.out]; exact hlt)
      obtain ⟨mm, hm⟩ : ∃ mm, ml e.mv k = mm := ⟨_, rfl⟩
      obtain ⟨m1, m2⟩ := mm
      rw [hm] at c1 c2 hts hty
      simp only at c1 c2 hts hty
      have HTS := Lib.hid hts
      have HTY := Lib.hid hty
      clear hm hc hts hty
      by_cases h2 : m2 = dd
      · have q1 : (m2 == dd) = true := by rw [h2]; simp
        have H2 := Lib.hid h2
        clear h2
        have hdw : Below w.heap.size w wr.drew := below_draw HBB.out 1
        go_upto_region 5 with fail
        go_region_with ((go_at_call 100; (with_reducible refine (HONE.out _ _ hdw).mono ?_); rintro e1 w1 ⟨rfl, hb1⟩))
        all_goals (
          have HB1 := Lib.hid (HBR.out.trans (((below_draw (Below.refl _ wr) 1).trans (hb1.mono (Nat.le_refl _))).mono HBR.out.size))
          obtain ⟨bb, hbb⟩ : ∃ bb, decide (m1 ∈ L) = bb := ⟨_, rfl⟩
          rw [hbb] at HTS HTY
          rw [hbb]
          have HBBB := Lib.hid hbb
          clear hbb hb1
          cases bb with
          | true =>
            obtain rfl : q = true := by rw [← HQ.out, HTY.out H2.out rfl, Bool.or_true]
            go_wp2
            go_ret
            exact ⟨rfl, HB.out.trans (HB1.out.mono HB.out.size)⟩
          | false =>
            go_wp2
            go_roundw
            case rel => exact ⟨k + 1, by omega, by go_num, by rw [HTS.out, Bool.and_false], HB1.out⟩
            case measure => simp [intOf]; omega)
      · have q1 : (m2 == dd) = false := by simpa using h2
        have H2 := Lib.hid h2
        clear h2
        go_wp2_with fail
        go_roundw
        case rel => exact ⟨k + 1, by omega, by go_num, by rw [HTS.out, decide_eq_false H2.out]; rfl, HBR.out⟩
        case measure => simp [intOf]; omega
    · obtain rfl : k = n10 := by omega
      have hto := HTO.out
      rw [List.take_of_length_le (by rw [HN10.out]; omega)] at hto
      have hq2 := HQ.out
      rw [hto, Bool.or_false] at hq2
      have HQ2 := Lib.hid hq2
      obtain ⟨W1, hW1⟩ : ∃ W1, W1 = wr := ⟨_, rfl⟩
      subst hW1
      have HX1 := Lib.hid (row_below HX.out HBR.out)
      have HM1 := Lib.hid (HM.out.below HBB.out)
      clear HQ HTO hto hq2 HM HX HBR
      go_wp2_with fail
      go_loopw [7] (fun p wr2 => ∃ j : Nat, j ≤ k ∧ p = .int .i64 (j : Int) ∧ fromB (e.mv.take j) dd = false ∧ wr2 = W1) (fun p _ => k - (intOf p).toNat)
      case atStart => exact ⟨0, Nat.zero_le _, rfl, rfl, rfl⟩
      case round =>
        obtain ⟨j, hj, rfl, hfr, rfl⟩ := hrel
        have HFR := Lib.hid hfr
        clear hfr
        obtain ⟨k0, k1, k2, k3, k4, k5, k6, k7, k8, k9, k10⟩ := cells11 HX1.out
        by_cases hlt2 : j < k
        · obtain ⟨-, b, o, ha9, hc⟩ := HM1.out.at (by intro h; have := HN10.out; rw [h] at this; simp at this; omega)
          subst ha9
          obtain ⟨c1, c2⟩ := hc j (by rw [HN10.out]; exact hlt2)
          have hts := fromB_snoc (d := dd) (show j < e.mv.length by rw [HN10.out]; exact hlt2)
          rw [HFR.out, Bool.false_or] at hts
          have hty := fromB_yes (d := dd) (show j < e.mv.length by rw [HN10.out]; exact hlt2)
          obtain ⟨mm, hm⟩ : ∃ mm, ml e.mv j = mm := ⟨_, rfl⟩
          obtain ⟨m1, m2⟩ := mm
          rw [hm] at c1 c2 hts hty
          simp only at c1 c2 hts hty
          have HTS := Lib.hid hts
          have HTY := Lib.hid hty
          clear hm hc hts hty
          by_cases h2 : m1 = dd
          · have q1 : (m1 == dd) = true := by rw [h2]; simp
            obtain rfl : q = false := by rw [← HQ2.out, HTY.out h2]; simp
            clear h2
            go_wp2
            go_ret
            exact ⟨rfl, HBB.out⟩
          · have q1 : (m1 == dd) = false := by simpa using h2
            have H2 := Lib.hid h2
            clear h2
            go_wp2_with fail
            go_roundw
            case rel => exact ⟨j + 1, by omega, by go_num, by rw [HTS.out, decide_eq_false H2.out], by trivial⟩
            case measure => simp [intOf]; omega
        · obtain rfl : j = k := by omega
          have hfr := HFR.out
          rw [List.take_of_length_le (by rw [HN10.out]; omega)] at hfr
          have hq2 := HQ2.out
          rw [hfr, Bool.not_false, Bool.and_true] at hq2
          have hi := HIN.out _ HBB.out
          obtain ⟨bb, hbb⟩ : ∃ bb, decide (dd ∈ e.sk) = bb := ⟨_, rfl⟩
          rw [hbb] at hq2 hi
          have HQ3 := Lib.hid hq2
          have HI := Lib.hid hi
          clear hfr hq2 hi hbb
          go_wp2_with fail
          (with_reducible refine HI.out.mono ?_)
          rintro e1 w1 ⟨rfl, rfl⟩
          cases bb with
          | true =>
            obtain rfl : q = false := by rw [← HQ3.out]; simp
            go_wp2
            go_ret
            exact ⟨rfl, HBB.out⟩
          | false =>
            have ho := HONE.out dd _ HBB.out
            obtain ⟨b2, hb2⟩ : ∃ b2, decide (dd ∈ L) = b2 := ⟨_, rfl⟩
            have hq3 := HQ3.out
            rw [hb2] at ho hq3
            obtain rfl : b2 = q := by rw [← hq3]; simp
            have HO := Lib.hid ho
            clear ho hb2 hq3 HQ3
            go_wp2_with fail
            (with_reducible refine HO.out.mono ?_)
            rintro e1 w1 ⟨rfl, hb1⟩
            have HB1 := Lib.hid (HBB.out.trans (hb1.mono HBB.out.size))
            clear hb1
            go_wp2
            go_ret
            exact ⟨rfl, HB1.out⟩
set_option maxRecDepth 100000 in
set_option maxHeartbeats 4000000 in
theorem isCovered_any (e : Ev) (vd vs vm : Value) (y m d dd : Int) (w : World) (hr : Rv w e vd vs vm) (hz : Size e) (hbad : badE e = 0) (ha : Cal.At e.st y m d) (h0 : 0 ≤ dd) (h1 : dd ≤ 73048) :
    Calls Tryz.prog 31 #[.agg (e.cells vd vs vm), .int .i64 dd] w fun r w' => r = .returned (.bool (covB e (evL e y m d) dd)) ∧ Below w.heap.size w w' := by
  obtain ⟨a6, c6, rfl⟩ := hr.d.shape
  obtain ⟨a9, c9, rfl⟩ := hr.s.shape
  obtain ⟨a10, c10, rfl⟩ := hr.m.shape
  obtain ⟨q, hq⟩ : ∃ q, covB e (evL e y m d) dd = q := ⟨_, rfl⟩
  have hci := cov_iff (fit_of hbad ha) (d := dd)
  have hown := fun x w' (h : Below w.heap.size w w') => isOwn_any e _ _ _ y m d x w' (hr.below h) hz hbad ha
  have hdy := fun x => occ_day (fit_of hbad ha) (x := x)
  obtain ⟨L, hL⟩ : ∃ L, evL e y m d = L := ⟨_, rfl⟩
  rw [hL] at hq hci hdy
  have HDY := Lib.hid hdy
  rw [hq] at hci
  simp only [hL] at hown
  rw [hL, hq]
  obtain ⟨l0, l1⟩ := (badE_zero hbad).2.2.2.1
  obtain ⟨W, hW⟩ : ∃ W, w.alloc (.cells (e.cells (.slice a6 e.ru.ds.length c6) (.slice a9 e.sk.length c9) (.slice a10 e.mv.length c10)) 38) = W := ⟨_, rfl⟩
  have hB : Below w.heap.size w W := by rw [← hW]; exact (Below.refl _ w).alloc (Nat.le_refl _) _
  have hx : W.heap[w.heap.size]? = some (.cells (e.cells (.slice a6 e.ru.ds.length c6) (.slice a9 e.sk.length c9) (.slice a10 e.mv.length c10)) 38) := by rw [← hW]; exact heap_new w _
  obtain ⟨n6, hn6⟩ : ∃ n, e.ru.ds.length = n := ⟨_, rfl⟩
  obtain ⟨n9, hn9⟩ : ∃ n, e.sk.length = n := ⟨_, rfl⟩
  obtain ⟨n10, hn10⟩ : ∃ n, e.mv.length = n := ⟨_, rfl⟩
  rw [hn6] at hown hx hW ⊢
  rw [hn9] at hown hx hW ⊢
  rw [hn10] at hown hx hW ⊢
  have HCI := Lib.hid hci
  have HOWN := Lib.hid hown
  have HW := Lib.hid hW
  have HB := Lib.hid hB
  have HX := Lib.hid hx
  clear hr hz hq hci hown hW hB hx hn6 hn9 hn10 hL ha hbad hdy
  go_enter Tryz.func31, Tryz.ntmps31
  go_upto_region 1 with fail
  rw [HW.out]
  go_wp2_with fail
  go_loopw [5] (fun p wr => ∃ k : Int, dd - e.lg ≤ k ∧ k ≤ dd ∧ -1 ≤ k ∧ p = .int .i64 k ∧ (∀ x, k < x → x ≤ dd → occB e L x = false) ∧ Below W.heap.size W wr) (fun p _ => (intOf p + 1).toNat)
  case atStart => exact ⟨dd, by omega, by omega, by omega, rfl, fun x h1 h2 => by omega, Below.refl _ _⟩
  case round =>
    obtain ⟨k, hk1, hk2, hk3, rfl, hno, hbr⟩ := hrel
    have HNO := Lib.hid hno
    have HBR := Lib.hid hbr
    have HBB := Lib.hid (HB.out.trans (hbr.mono HB.out.size))
    obtain ⟨k0, k1, k2, k3, k4, k5, k6, k7, k8, k9, k10⟩ := cells11 (row_below HX.out hbr)
    clear hno hbr
    by_cases hlt : dd - e.lg < k
    case neg =>
      have HF := Lib.hid (show q = false by
        rw [← Bool.not_eq_true]
        intro h
        obtain ⟨_, x, x1, x2, x3⟩ := HCI.out.1 h
        rw [HNO.out x (by omega) x2] at x3; cases x3)
      go_wp2
      go_ret
      exact ⟨by (rw [HF.out]); all_goals rfl, HBB.out⟩
    by_cases hge : 0 ≤ k
    case neg =>
      have HF := Lib.hid (show q = false by
        rw [← Bool.not_eq_true]
        intro h
        have hci := HCI.out
        obtain ⟨_, x, x1, x2, x3⟩ := hci.1 h
        have hx0 := (HDY.out x x3).1
        rw [HNO.out x (by omega) x2] at x3; cases x3)
      go_wp2
      go_ret
      exact ⟨by (rw [HF.out]); all_goals rfl, HBB.out⟩
    have ho := HOWN.out k wr HBB.out
    obtain ⟨bb, hbb⟩ : ∃ bb, occB e L k = bb := ⟨_, rfl⟩
    rw [hbb] at ho
    have HO := Lib.hid (show Calls Tryz.prog 101 #[.agg #[.string e.id, .string e.ti, .int .i64 e.st, .int .i64 e.lg, .string e.ru.fq, .int .i64 e.ru.ev, .slice a6 n6 c6, .int .i64 e.ru.ct, .int .i64 e.ru.un, .slice a9 n9 c9, .slice a10 n10 c10], .int .i64 k] wr fun r w' => r = .returned (.bool bb) ∧ Below wr.heap.size wr w' from ho)
    have HBBB := Lib.hid hbb
    clear ho hbb
    go_wp2_with fail
    (with_reducible refine HO.out.mono ?_)
    rintro e1 w1 ⟨rfl, hb1⟩
    have HB1 := Lib.hid (HBR.out.trans (hb1.mono HBR.out.size))
    clear hb1
    cases bb with
    | true =>
      have HF := Lib.hid (show q = true from HCI.out.2 ⟨⟨by omega, by omega⟩, k, by omega, by omega, HBBB.out⟩)
      go_wp2
      go_ret
      exact ⟨by (rw [HF.out]); all_goals rfl, HB.out.trans (HB1.out.mono HB.out.size)⟩
    | false =>
      go_wp2
      go_roundw
      case rel => exact ⟨k - 1, by omega, by omega, by omega, by go_num, fun x h1 h2 => by
        by_cases e9 : x = k
        · rw [e9]; exact HBBB.out
        · exact HNO.out x (by omega) h2, HB1.out⟩
      case measure => simp [intOf]; omega
end Evt
end Go.Proofs.YtkhkhbeolhhomaaGreatDoor
