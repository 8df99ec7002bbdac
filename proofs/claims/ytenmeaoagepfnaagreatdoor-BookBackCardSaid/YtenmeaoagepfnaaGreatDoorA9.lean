/- Weekly, CandMonths, All, ExpLaw: texts joined. -/
import Derived.Test.YtenmeaoagepfnaaGreatDoorA8
import Derived.Deep.QuietTactic
import Derived.BigQuiet
section
/- The candidates by weeks: the function weekly, which calls yield. -/
namespace Go.Proofs.YtenmeaoagepfnaaGreatDoor
open Go Go.RowKit Go.Shelf Lmd
attribute [local go_sem] Oper.semAt_some
namespace Cand
open Rul Day

theorem wkC_take {start M : Int} {ds : List Int} {i : Nat} (h : i < ds.length) : wkC start (ds.take (i + 1)) M = wkC start (ds.take i) M ++ (if start ≤ M + Ints.el ds i ∧ M + Ints.el ds i ≤ 73048 then [M + Ints.el ds i] else []) := by
  rw [Ints.el_lt h]
  unfold wkC
  rw [List.take_succ_eq_append_getElem h, List.map_append, List.filter_append]
  congr 1
  simp only [List.map_cons, List.map_nil, List.filter_cons, List.filter_nil, decide_eq_true_eq]
theorem wkC_yes {start M y : Int} {ds : List Int} {i : Nat} (h : i < ds.length) (hy : Ints.el ds i = y) (h1 : start ≤ M + y ∧ M + y ≤ 73048) : wkC start (ds.take (i + 1)) M = wkC start (ds.take i) M ++ [M + y] := by rw [wkC_take h, hy, if_pos h1]
theorem wkC_no {start M y : Int} {ds : List Int} {i : Nat} (h : i < ds.length) (hy : Ints.el ds i = y) (h1 : ¬ (start ≤ M + y ∧ M + y ≤ 73048)) : wkC start (ds.take (i + 1)) M = wkC start (ds.take i) M := by rw [wkC_take h, hy, if_neg h1, List.append_nil]
theorem wks_pre {start w ev M : Int} {ds : List Int} {k i : Nat} (he : 1 ≤ ev) (hM : start - w + 7 * ev * k = M) (h : M ≤ 73048) : wksTo start w ev ds k ++ wkC start (ds.take i) M <+: wks start w ev ds := by
  obtain ⟨t, ht⟩ := steps_pre (a := start - w) (s := 7 * ev) (hi := 73048) (k := k) (by omega) (by omega)
  have h2 : wks start w ev ds = wksTo start w ev ds k ++ wkC start ds M ++ t.flatMap (wkC start ds) := by
    rw [wks, ← ht, List.flatMap_append, upTo_succ, List.flatMap_append, hM]
    simp [wksTo]
  have h3 : wkC start ds M = wkC start (ds.take i) M ++ wkC start (ds.drop i) M := by
    unfold wkC
    rw [← List.filter_append, ← List.map_append, List.take_append_drop]
  rw [h2, h3]
  exact ⟨wkC start (ds.drop i) M ++ t.flatMap (wkC start ds), by simp⟩
theorem wks_done {start w ev : Int} {ds : List Int} {k : Nat} (he : 1 ≤ ev) (h1 : 73048 < start - w + 7 * ev * k) (h2 : k = 0 ∨ start - w + 7 * ev * ((k : Int) - 1) ≤ 73048) : wks start w ev ds = wksTo start w ev ds k := by
  rw [wks, steps_of (by omega) h1 h2]; rfl

set_option maxRecDepth 100000 in
set_option maxHeartbeats 4000000 in
theorem weekly_seq (start : Int) (r : Ru) (v : Value) (w : World) (hs0 : 0 ≤ start) (hs1 : start ≤ 73048) (he0 : 1 ≤ r.ev) (he1 : r.ev ≤ 100) (hr : Ints.Reads w v r.ds)
    (hl : (wdays start r.ds).length ≤ 7) (hd : ∀ d ∈ wdays start r.ds, 0 ≤ d ∧ d ≤ 6)
    (O : Nat → Prop) (l : Nat) (J Jx : Nat → List Int → World → Prop) (W : World) (hW : Below w.heap.size w W) (hO : ∀ b o n c, v = .slice (some ⟨b, o, none⟩) n c → n ≠ 0 → ¬ O b) (hOb : ∀ b, O b → b < W.heap.size)
    (hY : ∀ hi pre x W1, W.heap.size ≤ hi → J hi pre W1 → pre.length < 100000 → YieldAt Fence.wide Rng.dp Tryz.prog l #[.int .i64 x] W1 fun e W' =>
      (e = .returned (.bool true) ∧ J hi (pre ++ [x]) W' ∧ Rng.Stay O hi W1 W') ∨ (e = .returned (.bool false) ∧ Jx hi (pre ++ [x]) W' ∧ Rng.Rest W.heap.size W1 W'))
    (h0 : ∀ W', Below W.heap.size W W' → J W'.heap.size [] W') :
    Calls Tryz.prog 249 #[.int .i64 start, r.val v, .func (.yield l) #[] #[]] W fun e W' => (∃ v, e = .returned v) ∧ ∃ hi, W.heap.size ≤ hi ∧ ((∃ xs, xs = wks start ((start + 5) % 7) r.ev (wdays start r.ds) ∧ J hi xs W') ∨ (∃ pre, pre <+: wks start ((start + 5) % 7) r.ev (wdays start r.ds) ∧ Jx hi pre W')) := by
  have hweek := fun w => week_yes start w hs0 hs1
  have hrW : Ints.Reads W v r.ds := hr.below hW
  obtain ⟨wd, hwd⟩ : ∃ wd, (start + 5) % 7 = wd := ⟨_, rfl⟩
  obtain ⟨ds, hds⟩ : ∃ ds, wdays start r.ds = ds := ⟨_, rfl⟩
  have hwdays : ds = if r.ds = [] then [wd] else r.ds := by rw [← hds, ← hwd]; rfl
  rw [hds] at hl hd ⊢
  rw [hwd] at hweek ⊢
  have hwd0 : 0 ≤ wd := by omega
  have hwd6 : wd ≤ 6 := by omega
  have HW := Lib.hid hweek
  have HY := Lib.hid hY
  have HH := Lib.hid h0
  have HD := Lib.hid hd
  have HO := Lib.hid hO
  have HOb := Lib.hid hOb
  have HWD := Lib.hid hwdays
  have HWB := Lib.hid hW
  have HRW := Lib.hid hrW
  clear hweek hY h0 hd hO hOb hwdays hW hrW hr hwd hds
  obtain ⟨fq, ev, ct, un, rds⟩ := r
  simp only [Ru.val] at *
  refine (callsIn_wide (n := Rng.dp + 1)).1 ?_
  refine callsIn_of_wp Tryz.func249 rfl trivial ?_ rfl
  simp only [Tryz.ntmps249, List.size_toArray, List.length_cons, List.length_nil, Nat.reduceAdd, Nat.reduceSub, Array.replicate_succ, Array.replicate_zero, List.push_toArray, List.append_toArray, List.nil_append, List.cons_append]
  by_cases hnil : rds = []
  · have hds1 : ds = [wd] := by rw [HWD.out, if_pos hnil]
    subst hnil
    obtain ⟨a, c, rfl⟩ := HRW.out.shape
    gi_wp2_with (refine ⟨trivial, ?_⟩; gi_at_call 292; refine (callsIn_wide.2 (HW.out _)).mono ?_; rintro e w1 ⟨rfl, rfl⟩)
    have hdl : ds.length = 1 := by rw [hds1]; rfl
    obtain ⟨W2, hW2⟩ : ∃ W2, (W.alloc (.cells #[.string fq, .int .i64 ev, .slice a 0 c, .int .i64 ct, .int .i64 un] 32)).alloc (.cells #[.int .i64 wd] 3) = W2 := ⟨_, rfl⟩
    have hB2 : Below W.heap.size W W2 := by rw [← hW2]; exact ((Below.refl _ W).alloc (Nat.le_refl _) _).alloc (by simp) _
    have hz2 : W2.heap.size = W.heap.size + 2 := by rw [← hW2]; simp
    have k1 : W2.cell? ⟨W.heap.size, 1, none⟩ = some (.int .i64 ev) := by
      rw [← hW2]; exact cell_of ((Below.heap_alloc _ _ _ (by simp)).trans (heap_new W _)) rfl
    have hdc : ∀ i, i < ds.length → W2.cell? ⟨W.heap.size + 1, i, none⟩ = some (.int .i64 (Ints.el ds i)) := fun i hi => by
      obtain rfl : i = 0 := by omega
      have h1 := heap_new (W.alloc (.cells #[.string fq, .int .i64 ev, .slice a 0 c, .int .i64 ct, .int .i64 un] 32)) (.cells #[.int .i64 wd] 3)
      rw [World.size_alloc] at h1
      rw [← hW2, hds1]; exact cell_of h1 rfl
    have hdO : ¬ O (W.heap.size + 1) := fun h => by have := HOb.out _ h; omega
    have hdb : W.heap.size + 1 < W2.heap.size := by omega
    rw [hW2]
    clear hW2 hds1
    have hbO : ¬ O W.heap.size := fun h => by have := HOb.out _ h; omega
    have hbz : W.heap.size < W2.heap.size := by omega
    have HJ0 := Lib.hid (HH.out W2 hB2)
    have HB2 := Lib.hid hB2
    have HDC := Lib.hid hdc
    clear HH hB2 hdc HOb HWD
    gi_loopw [9] (fun p wr => ∃ k : Nat, p = .int .i64 (start - wd + 7 * ev * (k : Int)) ∧ (k = 0 ∨ start - wd + 7 * ev * ((k : Int) - 1) ≤ 73048) ∧ Rng.Stay O W2.heap.size W2 wr ∧ J W2.heap.size (wksTo start wd ev ds k) wr) (fun p _ => (74000 - intOf p).toNat)
    case atStart => exact ⟨0, by simp, Or.inl rfl, Rng.Stay.refl _ _ _, HJ0.out⟩
    case round =>
      obtain ⟨k, rfl, hk, hst, hj⟩ := hrel
      have hkl : 7 * (k : Int) ≤ 7 * ev * (k : Int) := Int.mul_le_mul_of_nonneg_right (by omega) (Int.natCast_nonneg k)
      obtain ⟨M, hM⟩ : ∃ M, start - wd + 7 * ev * (k : Int) = M := ⟨_, rfl⟩
      have hM0 : -6 ≤ M := by omega
      have hk7 : 7 * (k : Int) ≤ M + 6 := by omega
      have hlen := wksTo_len start wd ev ds k
      have hlen2 : ds.length * k ≤ 7 * k := Nat.mul_le_mul_right k hl
      have hn1 : (wksTo start wd ev ds k).length ≤ 7 * k := Nat.le_trans hlen hlen2
      have HX := Lib.hid hM
      have HS := Lib.hid hst
      have HJ1 := Lib.hid hj
      have HK := Lib.hid hk
      have HN := Lib.hid hn1
      have HK7 := Lib.hid hk7
      rw [hM]
      clear hM hst hj hk hn1 hlen hlen2 hkl hk7
      by_cases hle : M ≤ 73048
      · gi_wp2
        gi_loopw [39] (fun p wr2 => ∃ i : Nat, i ≤ ds.length ∧ p = .int .i64 (i : Int) ∧ Rng.Stay O W2.heap.size W2 wr2 ∧ J W2.heap.size (wksTo start wd ev ds k ++ wkC start (ds.take i) M) wr2) (fun p _ => ds.length - (intOf p).toNat)
        case atStart => exact ⟨0, Nat.zero_le _, rfl, HS.out, by simpa [wkC] using HJ1.out⟩
        case round =>
          obtain ⟨i, hi, rfl, hst2, hj2⟩ := hrel
          have HS2 := Lib.hid hst2
          have HJ2 := Lib.hid hj2
          clear hst2 hj2
          by_cases hil : i < ds.length
          · obtain ⟨y, hy⟩ : ∃ y, Ints.el ds i = y := ⟨_, rfl⟩
            have hyb := HD.out y (by rw [← hy, Ints.el_lt hil]; exact List.getElem_mem _)
            have hcell := stay_cell HS2.out (HDC.out i hil) hdO hdb
            rw [hy] at hcell
            have HEL := Lib.hid hy
            obtain ⟨hy0, hy6⟩ := hyb
            clear hy
            by_cases hge : start ≤ M + y
            · by_cases hle2 : M + y ≤ 73048
              · obtain ⟨f1, t1, a1, b1, hy1, hR1⟩ := HY.out W2.heap.size (wksTo start wd ev ds k ++ wkC start (ds.take i) M) (M + y) _ (by omega) HJ2.out (by
                  have h1 := HN.out
                  have h2 := HK7.out
                  have h3 := wkC_len start (ds.take i) M
                  have h4 : (ds.take i).length ≤ ds.length := List.length_take_le' _ _
                  rw [List.length_append]; omega)
                gi_wp2
                refine hR1.mono ?_
                rintro e W1 (⟨rfl, hJ3, hk3⟩ | ⟨rfl, hx3, hr3⟩)
                · have HJ3 := Lib.hid hJ3
                  have HK3 := Lib.hid hk3
                  clear hJ3 hk3
                  gi_wp2
                  go_roundw
                  case rel => exact ⟨i + 1, by omega, by simp, HS2.out.trans HK3.out, by rw [wkC_yes hil HEL.out ⟨hge, hle2⟩, ← List.append_assoc]; exact HJ3.out⟩
                  case measure => simp [intOf]; omega
                · gi_wp2
                  refine bodyPost_ret (results_none rfl _ _ _) rfl ?_
                  exact ⟨⟨_, rfl⟩, W2.heap.size, by omega, .inr ⟨_, by
                    have := wks_pre (i := i + 1) (ds := ds) he0 HX.out hle
                    rw [wkC_yes hil HEL.out ⟨hge, hle2⟩, ← List.append_assoc] at this
                    exact this, hx3⟩⟩
              · gi_wp2
                refine ⟨fun _ h => (by cases h), ?_⟩
                gi_wp2
                go_roundw
                case rel => exact ⟨i + 1, by omega, by simp, HS2.out, by rw [wkC_no hil HEL.out (fun h => by have := h.2; omega)]; exact HJ2.out⟩
                case measure => simp [intOf]; omega
            · gi_wp2
              refine ⟨fun _ h => (by cases h), ?_⟩
              gi_wp2
              go_roundw
              case rel => exact ⟨i + 1, by omega, by simp, HS2.out, by rw [wkC_no hil HEL.out (fun h => by have := h.1; omega)]; exact HJ2.out⟩
              case measure => simp [intOf]; omega
          · have hie : i = ds.length := by omega
            have k1' := stay_cell HS2.out k1 hbO hbz
            gi_wp2
            go_roundw
            case rel => exact ⟨k + 1, by rw [step_succ, HX.out], Or.inr (by rw [show ((k + 1 : Nat) : Int) - 1 = k by omega, HX.out]; exact hle), HS2.out, by
              have := HJ2.out
              rw [hie, List.take_length] at this
              rw [wksTo_succ, HX.out]; exact this⟩
            case measure => simp [intOf]; omega
      · gi_wp2
        go_end0
        exact ⟨⟨_, rfl⟩, W2.heap.size, by omega, .inl (by rw [wks_done he0 (by rw [HX.out]; omega) HK.out]; exact HJ1.out)⟩
  · have hds1 : ds = rds := by rw [HWD.out, if_neg hnil]
    subst hds1
    obtain ⟨a, c, rfl⟩ := HRW.out.shape
    obtain ⟨_, db, doff, rfl, hcell⟩ := HRW.out.at hnil
    have hq : ((ds.length : Int) == 0) = false := by
      have : ds.length ≠ 0 := fun h => hnil (List.length_eq_zero_iff.1 h)
      simp; omega
    gi_wp2_with (refine ⟨trivial, ?_⟩; gi_at_call 292; refine (callsIn_wide.2 (HW.out _)).mono ?_; rintro e w1 ⟨rfl, rfl⟩)
    have hdl : ds.length = ds.length := rfl
    have hne : ds.length ≠ 0 := fun h => hnil (List.length_eq_zero_iff.1 h)
    obtain ⟨W2, hW2⟩ : ∃ W2, W.alloc (.cells #[.string fq, .int .i64 ev, .slice (some ⟨db, doff, none⟩) ds.length c, .int .i64 ct, .int .i64 un] 32) = W2 := ⟨_, rfl⟩
    have hB2 : Below W.heap.size W W2 := by rw [← hW2]; exact (Below.refl _ W).alloc (Nat.le_refl _) _
    have hz2 : W2.heap.size = W.heap.size + 1 := by rw [← hW2]; simp
    have k1 : W2.cell? ⟨W.heap.size, 1, none⟩ = some (.int .i64 ev) := by
      rw [← hW2]; exact cell_of (heap_new W _) rfl
    have hdc : ∀ i, i < ds.length → W2.cell? ⟨db, doff + i, none⟩ = some (.int .i64 (Ints.el ds i)) := fun i hi => cell_later hB2 (hcell i hi)
    have hdO : ¬ O db := HO.out _ _ _ _ rfl hne
    have hdb : db < W2.heap.size := by
      have : db < W.heap.size := cell_lt (hcell 0 (by omega))
      omega
    rw [hW2]
    clear hW2 hcell
    have hbO : ¬ O W.heap.size := fun h => by have := HOb.out _ h; omega
    have hbz : W.heap.size < W2.heap.size := by omega
    have HJ0 := Lib.hid (HH.out W2 hB2)
    have HB2 := Lib.hid hB2
    have HDC := Lib.hid hdc
    clear HH hB2 hdc HOb HWD
    gi_loopw [9] (fun p wr => ∃ k : Nat, p = .int .i64 (start - wd + 7 * ev * (k : Int)) ∧ (k = 0 ∨ start - wd + 7 * ev * ((k : Int) - 1) ≤ 73048) ∧ Rng.Stay O W2.heap.size W2 wr ∧ J W2.heap.size (wksTo start wd ev ds k) wr) (fun p _ => (74000 - intOf p).toNat)
    case atStart => exact ⟨0, by simp, Or.inl rfl, Rng.Stay.refl _ _ _, HJ0.out⟩
    case round =>
      obtain ⟨k, rfl, hk, hst, hj⟩ := hrel
      have hkl : 7 * (k : Int) ≤ 7 * ev * (k : Int) := Int.mul_le_mul_of_nonneg_right (by omega) (Int.natCast_nonneg k)
      obtain ⟨M, hM⟩ : ∃ M, start - wd + 7 * ev * (k : Int) = M := ⟨_, rfl⟩
      have hM0 : -6 ≤ M := by omega
      have hk7 : 7 * (k : Int) ≤ M + 6 := by omega
      have hlen := wksTo_len start wd ev ds k
      have hlen2 : ds.length * k ≤ 7 * k := Nat.mul_le_mul_right k hl
      have hn1 : (wksTo start wd ev ds k).length ≤ 7 * k := Nat.le_trans hlen hlen2
      have HX := Lib.hid hM
      have HS := Lib.hid hst
      have HJ1 := Lib.hid hj
      have HK := Lib.hid hk
      have HN := Lib.hid hn1
      have HK7 := Lib.hid hk7
      rw [hM]
      clear hM hst hj hk hn1 hlen hlen2 hkl hk7
      by_cases hle : M ≤ 73048
      · gi_wp2
        gi_loopw [39] (fun p wr2 => ∃ i : Nat, i ≤ ds.length ∧ p = .int .i64 (i : Int) ∧ Rng.Stay O W2.heap.size W2 wr2 ∧ J W2.heap.size (wksTo start wd ev ds k ++ wkC start (ds.take i) M) wr2) (fun p _ => ds.length - (intOf p).toNat)
        case atStart => exact ⟨0, Nat.zero_le _, rfl, HS.out, by simpa [wkC] using HJ1.out⟩
        case round =>
          obtain ⟨i, hi, rfl, hst2, hj2⟩ := hrel
          have HS2 := Lib.hid hst2
          have HJ2 := Lib.hid hj2
          clear hst2 hj2
          by_cases hil : i < ds.length
          · obtain ⟨y, hy⟩ : ∃ y, Ints.el ds i = y := ⟨_, rfl⟩
            have hyb := HD.out y (by rw [← hy, Ints.el_lt hil]; exact List.getElem_mem _)
            have hcell := stay_cell HS2.out (HDC.out i hil) hdO hdb
            rw [hy] at hcell
            have HEL := Lib.hid hy
            obtain ⟨hy0, hy6⟩ := hyb
            clear hy
            by_cases hge : start ≤ M + y
            · by_cases hle2 : M + y ≤ 73048
              · obtain ⟨f1, t1, a1, b1, hy1, hR1⟩ := HY.out W2.heap.size (wksTo start wd ev ds k ++ wkC start (ds.take i) M) (M + y) _ (by omega) HJ2.out (by
                  have h1 := HN.out
                  have h2 := HK7.out
                  have h3 := wkC_len start (ds.take i) M
                  have h4 : (ds.take i).length ≤ ds.length := List.length_take_le' _ _
                  rw [List.length_append]; omega)
                gi_wp2
                refine hR1.mono ?_
                rintro e W1 (⟨rfl, hJ3, hk3⟩ | ⟨rfl, hx3, hr3⟩)
                · have HJ3 := Lib.hid hJ3
                  have HK3 := Lib.hid hk3
                  clear hJ3 hk3
                  gi_wp2
                  go_roundw
                  case rel => exact ⟨i + 1, by omega, by simp, HS2.out.trans HK3.out, by rw [wkC_yes hil HEL.out ⟨hge, hle2⟩, ← List.append_assoc]; exact HJ3.out⟩
                  case measure => simp [intOf]; omega
                · gi_wp2
                  refine bodyPost_ret (results_none rfl _ _ _) rfl ?_
                  exact ⟨⟨_, rfl⟩, W2.heap.size, by omega, .inr ⟨_, by
                    have := wks_pre (i := i + 1) (ds := ds) he0 HX.out hle
                    rw [wkC_yes hil HEL.out ⟨hge, hle2⟩, ← List.append_assoc] at this
                    exact this, hx3⟩⟩
              · gi_wp2
                refine ⟨fun _ h => (by cases h), ?_⟩
                gi_wp2
                go_roundw
                case rel => exact ⟨i + 1, by omega, by simp, HS2.out, by rw [wkC_no hil HEL.out (fun h => by have := h.2; omega)]; exact HJ2.out⟩
                case measure => simp [intOf]; omega
            · gi_wp2
              refine ⟨fun _ h => (by cases h), ?_⟩
              gi_wp2
              go_roundw
              case rel => exact ⟨i + 1, by omega, by simp, HS2.out, by rw [wkC_no hil HEL.out (fun h => by have := h.1; omega)]; exact HJ2.out⟩
              case measure => simp [intOf]; omega
          · have hie : i = ds.length := by omega
            have k1' := stay_cell HS2.out k1 hbO hbz
            gi_wp2
            go_roundw
            case rel => exact ⟨k + 1, by rw [step_succ, HX.out], Or.inr (by rw [show ((k + 1 : Nat) : Int) - 1 = k by omega, HX.out]; exact hle), HS2.out, by
              have := HJ2.out
              rw [hie, List.take_length] at this
              rw [wksTo_succ, HX.out]; exact this⟩
            case measure => simp [intOf]; omega
      · gi_wp2
        go_end0
        exact ⟨⟨_, rfl⟩, W2.heap.size, by omega, .inl (by rw [wks_done he0 (by rw [HX.out]; omega) HK.out]; exact HJ1.out)⟩
end Cand
end Go.Proofs.YtenmeaoagepfnaaGreatDoor
end

section
/- The candidates by months (in work). -/
namespace Go.Proofs.YtenmeaoagepfnaaGreatDoor
open Go Go.RowKit Go.Shelf Lmd
attribute [local go_sem] Oper.semAt_some
namespace Cand
open Rul Day

theorem wrap_small {n : Int} (h0 : 0 ≤ n) (h1 : n < 4611686018427387904) : wrap64 n = n := by unfold wrap64; omega

set_option maxRecDepth 100000 in
set_option maxHeartbeats 2000000 in
theorem months_seq (base br bs : Nat) (start y m d : Int) (r : Ru) (v : Value) (ad : Addr) (w : World) (hB : Boxes w br bs start r v) (hf1 : r.fq.toList ≠ [111, 110, 99, 101]) (hf2 : r.fq.toList ≠ [100, 97, 105, 108, 121]) (hf3 : r.fq.toList ≠ [119, 101, 101, 107, 108, 121])
    (ha : Cal.At start y m d) (he0 : 1 ≤ r.ev) (he1 : r.ev ≤ 100) (hg : 2 < base)
    (hc : w.cell? ⟨2, 0, none⟩ = some (.iface 363 (.pointer (some ad)))) :
    Rng.Seq Tryz.prog 248 (lb br bs) (fun x : Int => #[.int .i64 x]) (Apart base br bs v) (fun xs => xs = mons y m d (r.ev * mulOf r.fq)) (fun pre => pre <+: mons y m d (r.ev * mulOf r.fq)) 100000 w := by
  intro O l J Jx W hW hO _ _ hJ hJx hY h0
  refine (callsIn_wide (n := Rng.dp + 1)).1 ?_
  refine callsIn_of_wp Tryz.func248 rfl trivial ?_ rfl
  simp only [Tryz.ntmps248, lb, List.size_toArray, List.length_cons, List.length_nil, Nat.reduceAdd, Nat.reduceSub, Array.replicate_succ, Array.replicate_zero, List.push_toArray, List.append_toArray, List.nil_append, List.cons_append]
  have k0 := cell_later hW hB.r0
  have k1 := cell_later hW hB.r1
  have ks := cell_later hW hB.s
  have hE := cell_later hW hc
  have q1 : (r.fq.toList == [111, 110, 99, 101]) = false := by simpa using hf1
  have q2 : (r.fq.toList == [100, 97, 105, 108, 121]) = false := by simpa using hf2
  have q3 : (r.fq.toList == [119, 101, 101, 107, 108, 121]) = false := by simpa using hf3
  have HJ0 := Lib.hid (h0 W (Below.refl _ _))
  have HY := Lib.hid hY
  have hbr := cell_lt k1
  have hbs := cell_lt ks
  have hbe := cell_lt hE
  clear h0 hY hf1 hf2 hf3 hB hc
  obtain ⟨sp, hsp⟩ : ∃ sp, r.ev * mulOf r.fq = sp := ⟨_, rfl⟩
  have hs1 : 1 ≤ sp := by rw [← hsp]; unfold mulOf; split <;> omega
  have hs2 : sp ≤ 1200 := by rw [← hsp]; unfold mulOf; split <;> omega
  have HSP := Lib.hid hsp
  have HA := Lib.hid ha
  rw [hsp]
  clear hsp ha
  gi_wp2
  gi_loopw [6] (fun p wr => ∃ k : Nat, p = .int .i64 (0 + sp * k) ∧ (k = 0 ∨ 0 + sp * ((k : Int) - 1) ≤ 2400) ∧ Rng.Stay O W.heap.size W wr ∧ J W.heap.size (monTo y m d sp k) wr) (fun p _ => (4000 - intOf p).toNat)
  case atStart => exact ⟨0, by simp, Or.inl rfl, Rng.Stay.refl _ _ _, HJ0.out⟩
  case round =>
    obtain ⟨k, rfl, hk, hst, hj⟩ := hrel
    have hkl := step_le hs1 k
    obtain ⟨x, hx⟩ : ∃ x, 0 + sp * (k : Int) = x := ⟨_, rfl⟩
    have hx0 : 0 ≤ x := by omega
    have HX := Lib.hid hx
    have HS := Lib.hid hst
    have HJ1 := Lib.hid hj
    have HK := Lib.hid hk
    have HKL := Lib.hid hkl
    rw [hx]
    clear hx hst hj hk hkl
    by_cases hle : x ≤ 2400
    · have ks' := stay_cell HS.out ks hO.2.1 hbs
      have hng : ¬ O 2 := fun h => by have := hO.2.2.2 _ h; omega
      have hA := add_any start y m d x ad _ HA.out (by omega) (by omega) (stay_cell HS.out hE hng hbe)
      obtain ⟨bb, hbb⟩ : ∃ bb, Cal.addB (Cal.kth y m x) d = bb := ⟨_, rfl⟩
      obtain ⟨vv, hvv⟩ : ∃ vv, Cal.addV (Cal.kth y m x) d = vv := ⟨_, rfl⟩
      have hmc : monC y m d x = if bb then [vv] else [] := by unfold monC; rw [hbb, hvv]
      rw [hbb, hvv] at hA
      have HAD := Lib.hid hA
      have HMC := Lib.hid hmc
      clear hA hbb hvv hmc
      cases bb with
      | false =>
        gi_wp2_with (refine ⟨trivial, ?_⟩; gi_at_call 251; refine (callsIn_wide.2 HAD.out).mono ?_; rintro e w1 ⟨rfl, q, rfl⟩)
        refine ⟨fun _ h => (by cases h), ?_⟩
        gi_wp2
        refine wpIn_wide.2 ?_
        have k0' := stay_cell (HS.out.trans (Rng.Stay.of_below (below_draw (Below.refl _ _) q))) k0 hO.1 hbr
        have k1' := stay_cell (HS.out.trans (Rng.Stay.of_below (below_draw (Below.refl _ _) q))) k1 hO.1 hbr
        have hb3 : Below wr.heap.size wr (wr.drewN q) := below_draw (Below.refl _ _) q
        have HB3 := Lib.hid hb3
        clear hb3
        generalize wr.drewN q = w3 at *
        go_quiet ((go_at_call 250; exact Calls.quiet_of_same ((months_any _ _).mono fun _ _ ⟨h1, h2⟩ => ⟨h1, h2⟩)))
        rw [HSP.out, wrap_small (n := sp) (by omega) (by omega), wrap_small (n := x + sp) (by omega) (by omega)]
        go_roundw
        case rel => (repeat apply Exists.intro); exact ⟨⟨k + 1, by rw [step_succ, HX.out], Or.inr (by rw [show ((k + 1 : Nat) : Int) - 1 = k by omega, HX.out]; exact hle), HS.out.trans (Rng.Stay.of_below (below_draw HB3.out _)), by rw [monTo_succ, HX.out, HMC.out]; exact hJ.below (Nat.le_refl _) (by simpa using HJ1.out) (below_draw HB3.out _)⟩, rfl⟩
        case measure => simp [intOf]; omega
      | true =>
        have hjd : ∀ q, J W.heap.size (monTo y m d sp k) (wr.drewN q) := fun q => hJ.below (Nat.le_refl _) HJ1.out (below_draw (Below.refl _ _) q)
        have hyd := fun q => HY.out W.heap.size (monTo y m d sp k) vv (wr.drewN q) (Nat.le_refl _) (hjd q) (by have := monTo_len y m d sp k; have := HX.out; have := HKL.out; omega)
        have HYD := Lib.hid hyd
        clear hjd hyd
        gi_wp2_with (refine ⟨trivial, ?_⟩; gi_at_call 251; refine (callsIn_wide.2 HAD.out).mono ?_; rintro e w1 ⟨rfl, q, rfl⟩; obtain ⟨f1, t1, a1, b1, hy1, hR1⟩ := HYD.out q)
        refine hR1.mono ?_
        rintro e W1 (⟨rfl, hJ1, hk1⟩ | ⟨rfl, hx1, hr1⟩)
        · have hst1 := HS.out.trans ((Rng.Stay.of_below (below_draw (Below.refl _ _) q)).trans hk1)
          have k0' := stay_cell hst1 k0 hO.1 hbr
          have k1' := stay_cell hst1 k1 hO.1 hbr
          have HJ2 := Lib.hid hJ1
          have HS1 := Lib.hid hst1
          clear hJ1 hst1 hk1
          gi_wp2
          refine wpIn_wide.2 ?_
          go_quiet ((go_at_call 250; exact Calls.quiet_of_same ((months_any _ _).mono fun _ _ ⟨h1, h2⟩ => ⟨h1, h2⟩)))
          rw [HSP.out, wrap_small (n := sp) (by omega) (by omega), wrap_small (n := x + sp) (by omega) (by omega)]
          go_roundw
          case rel => (repeat apply Exists.intro); exact ⟨⟨k + 1, by rw [step_succ, HX.out], Or.inr (by rw [show ((k + 1 : Nat) : Int) - 1 = k by omega, HX.out]; exact hle), HS1.out.trans (Rng.Stay.of_below (below_draw (Below.refl _ _) _)), by rw [monTo_succ, HX.out, HMC.out]; exact hJ.below (Nat.le_refl _) HJ2.out (below_draw (Below.refl _ _) _)⟩, rfl⟩
          case measure => simp [intOf]; omega
        · gi_wp2
          refine bodyPost_ret (results_none rfl _ _ _) rfl ?_
          exact ⟨⟨_, rfl⟩, W.heap.size, Nat.le_refl _, .inr ⟨monTo y m d sp k ++ [vv], by
            have := monTo_succ y m d sp k
            rw [HX.out, HMC.out] at this
            rw [show monTo y m d sp k ++ [vv] = monTo y m d sp (k + 1) from this.symm]
            exact mons_pre (by omega) (by rw [HX.out]; exact hle), hx1⟩⟩
    · gi_wp2
      go_end0
      exact ⟨⟨_, rfl⟩, W.heap.size, Nat.le_refl _, .inl (by rw [show mons y m d sp = monTo y m d sp k by rw [mons, steps_of (by omega) (by rw [HX.out]; omega) HK.out]; rfl]; exact HJ1.out)⟩
end Cand
end Go.Proofs.YtenmeaoagepfnaaGreatDoor
end

section
/- All days of a start and a rule: the iterators candidates$1 and All$1, each as a contract. -/
namespace Go.Proofs.YtenmeaoagepfnaaGreatDoor
open Go Go.RowKit Go.Shelf Lmd
attribute [local go_sem] Oper.semAt_some
namespace Cand
open Rul Day

/-- a contract at fewer elements -/
theorem seq_more {α : Type} {P : Program} {g : Nat} {lb : Array Value} {encs : α → Array Value} {R R' : (Nat → Prop) → Prop} {S S' Sp Sp' : List α → Prop} {N N' : Nat} {w : World}
    (h : Rng.Seq P g lb encs R S Sp N w) (hR : ∀ O, R' O → R O) (hS : ∀ xs, S xs → S' xs) (hSp : ∀ xs, Sp xs → Sp' xs) (hN : N ≤ N') : Rng.Seq P g lb encs R' S' Sp' N' w := by
  intro O l J Jx W a b c d e f hY h0
  refine (h O l J Jx W a (hR O b) c d e f (fun hi pre x W1 h1 h2 h3 => hY hi pre x W1 h1 h2 (by omega)) h0).mono ?_
  rintro e W' ⟨hv, hi, hhi, (⟨xs, hs, hj⟩ | ⟨xs, hs, hj⟩)⟩
  · exact ⟨hv, hi, hhi, .inl ⟨xs, hS xs hs, hj⟩⟩
  · exact ⟨hv, hi, hhi, .inr ⟨xs, hSp xs hs, hj⟩⟩

set_option maxRecDepth 100000 in
set_option maxHeartbeats 2000000 in
theorem weekly1_seq (base br bs : Nat) (start : Int) (r : Ru) (v : Value) (w : World) (hB : Boxes w br bs start r v) (hf : r.fq = weekly) (hs0 : 0 ≤ start) (hs1 : start ≤ 73048) (he0 : 1 ≤ r.ev) (he1 : r.ev ≤ 100)
    (hl : (wdays start r.ds).length ≤ 7) (hd : ∀ d ∈ wdays start r.ds, 0 ≤ d ∧ d ≤ 6) :
    Rng.Seq Tryz.prog 248 (lb br bs) (fun x : Int => #[.int .i64 x]) (Apart base br bs v) (fun xs => xs = wks start ((start + 5) % 7) r.ev (wdays start r.ds)) (fun pre => pre <+: wks start ((start + 5) % 7) r.ev (wdays start r.ds)) 100000 w := by
  intro O l J Jx W hW hO hOb _ hJ hJx hY h0
  refine (callsIn_wide (n := Rng.dp + 1)).1 ?_
  refine callsIn_of_wp Tryz.func248 rfl trivial ?_ rfl
  simp only [Tryz.ntmps248, lb, List.size_toArray, List.length_cons, List.length_nil, Nat.reduceAdd, Nat.reduceSub, Array.replicate_succ, Array.replicate_zero, List.push_toArray, List.append_toArray, List.nil_append, List.cons_append]
  have k0 := cell_later hW hB.r0
  have k1 := cell_later hW hB.r1
  have k2 := cell_later hW hB.r2
  have k3 := cell_later hW hB.r3
  have k4 := cell_later hW hB.r4
  have ks := cell_later hW hB.s
  have hwk := weekly_seq start r v w hs0 hs1 he0 he1 hB.rd hl hd O l J Jx W hW hO.2.2.1 hOb hY h0
  have HWK := Lib.hid hwk
  rw [hf] at k0
  have hfe : r.fq = weekly := hf
  clear hwk hY h0 hB hf
  gi_wp2_with (refine ⟨trivial, ?_⟩; gi_at_call 249; rw [← hfe]; refine (callsIn_wide.2 HWK.out).mono ?_; rintro e W1 ⟨⟨vv, rfl⟩, hi, hhi, hq⟩)
  go_end0
  exact ⟨⟨_, rfl⟩, hi, hhi, hq⟩

/-- the iterator candidates$1 -/
theorem cands_seq (base br bs : Nat) (start y m d : Int) (r : Ru) (v : Value) (ad : Addr) (w : World) (hB : Boxes w br bs start r v) (hb : bad r = 0) (ha : Cal.At start y m d) (hg : 2 < base)
    (hc' : w.cell? ⟨2, 0, none⟩ = some (.iface 363 (.pointer (some ad)))) :
    Rng.Seq Tryz.prog 248 (lb br bs) (fun x : Int => #[.int .i64 x]) (Apart base br bs v) (fun xs => xs = cands start y m d r) (fun pre => pre <+: cands start y m d r) 100000 w := by
  obtain ⟨h1, h2, h3, h4, h5⟩ := bad_parts hb
  obtain ⟨⟨e1, e2⟩, _⟩ := bound_parts h2
  have hbd := Cal.at_bd ha
  rcases freqs_mem h1 with h | h | h | h | h
  · have e : r.fq.toList = [111, 110, 99, 101] := by rw [h]; simp
    have hc : cands start y m d r = [start] := by unfold cands; rw [if_pos e]
    rw [hc]
    exact seq_more (once_seq base br bs start r v w hB h) (fun _ h => h) (fun _ h => h) (fun _ h => h ▸ List.prefix_rfl) (by omega)
  · have e : r.fq.toList = [100, 97, 105, 108, 121] := by rw [h]; simp
    have hc : cands start y m d r = steps start r.ev 73048 := by unfold cands; rw [if_neg (by rw [e]; decide), if_pos e]
    rw [hc]
    exact daily_seq base br bs start r v w hB h hbd.1 hbd.2 e1 e2
  · have e : r.fq.toList = [119, 101, 101, 107, 108, 121] := by rw [h]; simp
    have hc : cands start y m d r = wks start ((start + 5) % 7) r.ev (wdays start r.ds) := by unfold cands; rw [if_neg (by rw [e]; decide), if_neg (by rw [e]; decide), if_pos e]
    rw [hc]
    refine weekly1_seq base br bs start r v w hB h hbd.1 hbd.2 e1 e2 (wdays_len h5 h3) ?_
    unfold wdays; split
    · intro x hx; simp at hx; omega
    · exact days_in h3
  · have e : r.fq.toList = [109, 111, 110, 116, 104, 108, 121] := by rw [h]; simp
    have hc : cands start y m d r = mons y m d (r.ev * mulOf r.fq) := by unfold cands; rw [if_neg (by rw [e]; decide), if_neg (by rw [e]; decide), if_neg (by rw [e]; decide)]
    rw [hc]
    exact months_seq base br bs start y m d r v ad w hB (by rw [e]; decide) (by rw [e]; decide) (by rw [e]; decide) ha e1 e2 hg hc'
  · have e : r.fq.toList = [121, 101, 97, 114, 108, 121] := by rw [h]; simp
    have hc : cands start y m d r = mons y m d (r.ev * mulOf r.fq) := by unfold cands; rw [if_neg (by rw [e]; decide), if_neg (by rw [e]; decide), if_neg (by rw [e]; decide)]
    rw [hc]
    exact months_seq base br bs start y m d r v ad w hB (by rw [e]; decide) (by rw [e]; decide) (by rw [e]; decide) ha e1 e2 hg hc'

set_option maxHeartbeats 1000000 in
theorem candidates_any (start : Int) (r : Ru) (v : Value) (w : World) :
    Calls Tryz.prog 211 #[.int .i64 start, r.val v] w fun e w' => e = .returned (.func (.func 248) #[] (lb (w.heap.size + 1) w.heap.size)) ∧ w' = (w.alloc (.cells #[.int .i64 start] 3)).alloc (.cells #[.string r.fq, .int .i64 r.ev, v, .int .i64 r.ct, .int .i64 r.un] 32) := by
  obtain ⟨fq, ev, ct, un, ds⟩ := r
  simp only [Ru.val] at *
  go_enter Tryz.func211, Tryz.ntmps211
  go_wp2
  go_ret
  exact ⟨rfl, rfl⟩
set_option maxHeartbeats 1000000 in
theorem all_any (start : Int) (r : Ru) (v : Value) (w : World) :
    Calls Tryz.prog 157 #[.int .i64 start, r.val v] w fun e w' => e = .returned (.func (.func 210) #[] #[.pointer (some ⟨w.heap.size, 0, none⟩), .pointer (some ⟨w.heap.size + 1, 0, none⟩)]) ∧ w' = (w.alloc (.cells #[.int .i64 start] 3)).alloc (.cells #[.string r.fq, .int .i64 r.ev, v, .int .i64 r.ct, .int .i64 r.un] 32) := by
  obtain ⟨fq, ev, ct, un, ds⟩ := r
  simp only [Ru.val] at *
  go_enter Tryz.func157, Tryz.ntmps157
  go_wp2
  go_ret
  exact ⟨rfl, rfl⟩
theorem boxes_new (start : Int) (r : Ru) (v : Value) (w : World) (hr : Ints.Reads w v r.ds) (t1 t2 : TypeId) :
    Boxes ((w.alloc (.cells #[.int .i64 start] t1)).alloc (.cells #[.string r.fq, .int .i64 r.ev, v, .int .i64 r.ct, .int .i64 r.un] t2)) (w.heap.size + 1) w.heap.size start r v := by
  have h1 := heap_new (w.alloc (.cells #[.int .i64 start] t1)) (.cells #[.string r.fq, .int .i64 r.ev, v, .int .i64 r.ct, .int .i64 r.un] t2)
  rw [World.size_alloc] at h1
  have h0 : ((w.alloc (.cells #[.int .i64 start] t1)).alloc (.cells #[.string r.fq, .int .i64 r.ev, v, .int .i64 r.ct, .int .i64 r.un] t2)).heap[w.heap.size]? = some (.cells #[.int .i64 start] t1) :=
    (Below.heap_alloc _ _ _ (by simp)).trans (heap_new w _)
  exact ⟨cell_of h0 rfl, cell_of h1 rfl, cell_of h1 rfl, cell_of h1 rfl, cell_of h1 rfl, cell_of h1 rfl, hr.below (((Below.refl _ w).alloc (Nat.le_refl _) _).alloc (by simp) _)⟩
end Cand
end Go.Proofs.YtenmeaoagepfnaaGreatDoor
end

section
/- Plain facts for the reference of expand: its test of a candidate, its list of all days, its step. No program stands here. -/
namespace Lmd.Cal
theorem num_28 {y m d y' m' : Int} (h : Ok y m d) (h' : Ok y' m' d) (hl : y < y' ∨ y = y' ∧ m < m') : num y m d + 28 ≤ num y' m' d := by
  obtain ⟨a, b, c, f, g, _⟩ := ok_range h
  obtain ⟨a', b', c', f', g', _⟩ := ok_range h'
  have hd := dim_bd y m
  have hc' := cum_bd y' m' c' (by omega)
  have hs := cum_succ y m c f
  have hm := cum_mono y (m + 1) 13 (by omega) (by omega) (by omega)
  have hl2 := cum_last y
  have hy := yrs_succ y a
  unfold num
  rcases hl with l | ⟨rfl, l⟩
  · have := yrs_mono (a := y + 1) (b := y') (by omega) (by omega); omega
  · have := cum_mono y (m + 1) m' (by omega) (by omega) (by omega); omega
theorem addV_28 {k k' d : Int} (h : addB k d = true) (h' : addB k' d = true) (hk : k < k') : addV k d + 28 ≤ addV k' d := by
  rw [addV_yes h, addV_yes h']
  exact num_28 (addB_yes h).2 (addB_yes h').2 (by omega)
theorem cum_next {y m : Int} (h1 : 1 ≤ m) (h2 : m ≤ 12) : cum y m ≤ 335 ∧ 365 ≤ 337 + feb y + cum (y + 1) m - cum y m := by
  have hf := feb_bd y
  have hf2 := feb_bd (y + 1)
  have hc : m = 1 ∨ m = 2 ∨ m = 3 ∨ m = 4 ∨ m = 5 ∨ m = 6 ∨ m = 7 ∨ m = 8 ∨ m = 9 ∨ m = 10 ∨ m = 11 ∨ m = 12 := by omega
  rcases hc with rfl | rfl | rfl | rfl | rfl | rfl | rfl | rfl | rfl | rfl | rfl | rfl <;> simp [cum] <;> omega
theorem num_365 {y m d y' m' : Int} (h : Ok y m d) (h' : Ok y' m' d) (hl : 12 * y + m + 12 ≤ 12 * y' + m') : num y m d + 365 ≤ num y' m' d := by
  obtain ⟨a, b, c, f, g, _⟩ := ok_range h
  obtain ⟨a', b', c', f', g', _⟩ := ok_range h'
  have hn := cum_next (y := y) c f
  have hc' := cum_bd y' m' c' (by omega)
  have hy := yrs_succ y a
  have hf := feb_bd y
  unfold num
  by_cases e : y' = y + 1
  · subst e
    have := cum_mono (y + 1) m m' (by omega) (by omega) (by omega)
    omega
  · have h2 := yrs_succ (y + 1) (by omega)
    have hf1 := feb_bd (y + 1)
    have := yrs_mono (a := y + 1 + 1) (b := y') (by omega) (by omega)
    omega
theorem addV_365 {k k' d : Int} (h : addB k d = true) (h' : addB k' d = true) (hk : k + 12 ≤ k') : addV k d + 365 ≤ addV k' d := by
  rw [addV_yes h, addV_yes h']
  exact num_365 (addB_yes h).2 (addB_yes h').2 (by omega)
end Lmd.Cal
namespace Go.Proofs.YtenmeaoagepfnaaGreatDoor
open Go Go.RowKit Lmd
namespace Cand
open Rul

/-- two rising lists with the same members are one -/
theorem rise_ext : ∀ {a b : List Int}, a.Pairwise (· < ·) → b.Pairwise (· < ·) → (∀ x, x ∈ a ↔ x ∈ b) → a = b
  | [], [], _, _, _ => rfl
  | [], y :: ys, _, _, h => by have := (h y).2 (by simp); cases this
  | x :: xs, [], _, _, h => by have := (h x).1 (by simp); cases this
  | x :: xs, y :: ys, ha, hb, h => by
    have pa := List.pairwise_cons.1 ha
    have pb := List.pairwise_cons.1 hb
    have e : x = y := by
      rcases List.mem_cons.1 ((h x).1 (by simp)) with e | e
      · exact e
      · rcases List.mem_cons.1 ((h y).2 (by simp)) with e2 | e2
        · exact e2.symm
        · have := pa.1 y e2; have := pb.1 x e; omega
    subst e
    rw [rise_ext pa.2 pb.2 fun z => ?_]
    constructor
    · intro hz
      rcases List.mem_cons.1 ((h z).1 (List.mem_cons_of_mem _ hz)) with e | e
      · have := pa.1 z hz; omega
      · exact e
    · intro hz
      rcases List.mem_cons.1 ((h z).2 (List.mem_cons_of_mem _ hz)) with e | e
      · have := pb.1 z hz; omega
      · exact e
/-- those below a day -/
def lows (c : List Int) (d : Int) : List Int := c.filter fun x => decide (x < d)
theorem lows_mem {c : List Int} {d x : Int} : x ∈ lows c d ↔ x ∈ c ∧ x < d := by simp [lows]
theorem lows_rise {c : List Int} {d : Int} (h : c.Pairwise (· < ·)) : (lows c d).Pairwise (· < ·) := List.Pairwise.filter _ h
theorem lows_start {c : List Int} {d : Int} (h : ∀ x ∈ c, d ≤ x) : lows c d = [] := by
  rw [lows, List.filter_eq_nil_iff]; intro x hx; have := h x hx; simp; omega
theorem lows_yes {c : List Int} {d s : Int} (h : c.Pairwise (· < ·)) (hd : d ∈ c) (hs : 0 < s) (hg : ∀ x ∈ c, d < x → d + s ≤ x) : lows c (d + s) = lows c d ++ [d] := by
  refine rise_ext (lows_rise h) ?_ ?_
  · rw [List.pairwise_append]
    exact ⟨lows_rise h, by simp, fun a ha b hb => by simp at hb; subst hb; exact (lows_mem.1 ha).2⟩
  · intro x
    rw [lows_mem, List.mem_append, lows_mem]
    simp only [List.mem_singleton]
    constructor
    · rintro ⟨h1, h2⟩
      by_cases hx : x < d
      · exact .inl ⟨h1, hx⟩
      · by_cases e : x = d
        · exact .inr e
        · have := hg x h1 (by omega); omega
    · rintro (⟨h1, h2⟩ | rfl)
      · exact ⟨h1, by omega⟩
      · exact ⟨hd, by omega⟩
theorem lows_no {c : List Int} {d : Int} (h : c.Pairwise (· < ·)) (hd : d ∉ c) : lows c (d + 1) = lows c d := by
  refine rise_ext (lows_rise h) (lows_rise h) fun x => ?_
  rw [lows_mem, lows_mem]
  constructor
  · rintro ⟨h1, h2⟩
    refine ⟨h1, ?_⟩
    by_cases e : x = d
    · subst e; exact absurd h1 hd
    · omega
  · rintro ⟨h1, h2⟩; exact ⟨h1, by omega⟩
/-- what lies behind those below a day -/
theorem lows_split {c : List Int} (h : c.Pairwise (· < ·)) (d : Int) : ∃ t, c = lows c d ++ t ∧ ∀ x ∈ t, d ≤ x := by
  refine ⟨c.filter fun x => decide (d ≤ x), ?_, fun x hx => by simpa using (List.mem_filter.1 hx).2⟩
  refine rise_ext h ?_ fun x => ?_
  · rw [List.pairwise_append]
    refine ⟨lows_rise h, List.Pairwise.filter _ h, fun a ha b hb => ?_⟩
    have h1 := (lows_mem.1 ha).2
    have h2 : d ≤ b := by simpa using (List.mem_filter.1 hb).2
    omega
  · rw [List.mem_append, lows_mem, List.mem_filter]
    simp only [decide_eq_true_eq]
    constructor
    · intro hx
      by_cases e : x < d
      · exact .inl ⟨hx, e⟩
      · exact .inr ⟨hx, by omega⟩
    · rintro (⟨h1, _⟩ | ⟨h1, _⟩) <;> exact h1
/-- the end of the reference's loop -/
theorem all_end {c : List Int} (h : c.Pairwise (· < ·)) {ct un tt d : Int} (hg : Goes ct un (lows c d)) (ht : ∀ x ∈ lows c d, x ≤ tt)
    (he : (un ≠ -1 ∧ un < d) ∨ (0 < ct ∧ ct ≤ (lows c d).length) ∨ tt < d ∨ ∀ x ∈ c, x < d) : (daysOf ct un c).filter (fun x => decide (x ≤ tt)) = lows c d := by
  obtain ⟨t, hc, hr⟩ := lows_split h d
  have hf : (lows c d).filter (fun x => decide (x ≤ tt)) = lows c d := by
    rw [List.filter_eq_self]; intro x hx; simpa using ht x hx
  have hext : ∀ e : List Int, daysOf ct un c = lows c d ++ e → (∀ x ∈ e, tt < x) → (daysOf ct un c).filter (fun x => decide (x ≤ tt)) = lows c d := fun e h1 h2 => by
    rw [h1, List.filter_append, hf, List.filter_eq_nil_iff.2 (fun x hx => by have := h2 x hx; simp; omega), List.append_nil]
  have hd := daysOf_goes (t := t) hg
  rw [← hc] at hd
  have hlen := hg.1
  rcases he with ⟨h1, h2⟩ | ⟨h1, h2⟩ | h1 | h1
  · have hw : t.takeWhile (under un) = [] := by
      cases t with
      | nil => rfl
      | cons x xs =>
        have := hr x (by simp)
        have hu : under un x = false := by simp only [under, decide_eq_false_iff_not]; omega
        rw [List.takeWhile_cons, hu]; rfl
    rw [hw] at hd
    exact hext [] (by rw [hd]; split <;> simp) (by simp)
  · have : ct.toNat - (lows c d).length = 0 := by omega
    rw [if_pos h1, this] at hd
    exact hext [] (by rw [hd]; simp) (by simp)
  · refine hext _ hd fun x hx => ?_
    have hm : x ∈ t := by
      split at hx
      · exact (List.takeWhile_sublist _).subset ((List.take_sublist _ _).subset hx)
      · exact (List.takeWhile_sublist _).subset hx
    have := hr x hm; omega
  · have hn : t = [] := by
      cases t with
      | nil => rfl
      | cons x xs =>
        have a1 := hr x (by simp)
        have a2 := h1 x (by rw [hc]; simp)
        omega
    subst hn
    exact hext [] (by rw [hd]; split <;> simp) (by simp)

/-- how far candidates lie apart, at least -/
def stepB (r : Ru) : Int := if r.fq.toList = [109, 111, 110, 116, 104, 108, 121] then 28 else if r.fq.toList = [121, 101, 97, 114, 108, 121] then 365 else 1
theorem steps_diff {a s hi x z : Int} (hs : 0 < s) (hx : x ∈ steps a s hi) (hz : z ∈ steps a s hi) (h : x < z) : x + s ≤ z := by
  have h1 := ((steps_mem hs).1 hx).2.2
  have h2 := ((steps_mem hs).1 hz).2.2
  have e1 := Int.emod_add_mul_ediv (x - a) s
  have e2 := Int.emod_add_mul_ediv (z - a) s
  have h3 : (x - a) / s < (z - a) / s := by
    by_cases hle : (z - a) / s ≤ (x - a) / s
    · have := Int.mul_le_mul_of_nonneg_left hle (by omega : 0 ≤ s); omega
    · omega
  have h4 : s * ((x - a) / s + 1) ≤ s * ((z - a) / s) := Int.mul_le_mul_of_nonneg_left (by omega) (by omega)
  rw [Int.mul_add, Int.mul_one] at h4
  omega
theorem cands_gap {start y m d : Int} {r : Ru} (he : 1 ≤ r.ev) {x z : Int} (hx : x ∈ cands start y m d r) (hz : z ∈ cands start y m d r) (h : x < z) : x + stepB r ≤ z := by
  unfold stepB
  by_cases h1 : r.fq.toList = [109, 111, 110, 116, 104, 108, 121] ∨ r.fq.toList = [121, 101, 97, 114, 108, 121]
  · have hc : cands start y m d r = mons y m d (r.ev * mulOf r.fq) := by
      unfold cands
      rw [if_neg (by rcases h1 with e | e <;> rw [e] <;> decide), if_neg (by rcases h1 with e | e <;> rw [e] <;> decide), if_neg (by rcases h1 with e | e <;> rw [e] <;> decide)]
    rw [hc] at hx hz
    have hm1 : 1 ≤ mulOf r.fq := by unfold mulOf; split <;> omega
    have hs := Int.mul_le_mul he hm1 (by omega) (by omega)
    rw [mons, List.mem_flatMap] at hx hz
    obtain ⟨k, hk, hx⟩ := hx
    obtain ⟨l, hl, hz⟩ := hz
    unfold monC at hx hz
    split at hx
    · rename_i hB1
      split at hz
      · rename_i hB2
        simp at hx hz
        subst hx; subst hz
        have hkl : k < l := by
          rcases Int.lt_trichotomy k l with e | e | e
          · exact e
          · subst e; omega
          · have := Cal.addV_lt hB2 hB1 (by unfold Cal.kth; omega : Cal.kth y m l < Cal.kth y m k); omega
        have hd := steps_diff (by omega) hk hl hkl
        rcases h1 with e | e
        · rw [if_pos e]
          exact Cal.addV_28 hB1 hB2 (by unfold Cal.kth; omega)
        · rw [if_neg (by rw [e]; decide), if_pos e]
          have hm : mulOf r.fq = 12 := mulOf_yes e
          rw [hm] at hd
          exact Cal.addV_365 hB1 hB2 (by unfold Cal.kth; omega)
      · simp at hz
    · simp at hx
  · rw [if_neg (fun e => h1 (.inl e)), if_neg (fun e => h1 (.inr e))]; omega
/-- what is tested to be a candidate -/
def candB (start y m d z n b : Int) (r : Ru) (x : Int) : Bool :=
  if r.fq.toList = [111, 110, 99, 101] then decide (x = start) else if r.fq.toList = [100, 97, 105, 108, 121] then decide ((x - start) % r.ev = 0)
  else if r.fq.toList = [119, 101, 101, 107, 108, 121] then decide (((x - (x + 5) % 7 - (start - (start + 5) % 7)) / 7) % r.ev = 0) && decide ((x + 5) % 7 ∈ wdays start r.ds)
  else decide (d = b) && (if r.fq.toList = [121, 101, 97, 114, 108, 121] then decide (n = m) && decide ((z - y) % r.ev = 0) else decide ((12 * (z - y) + n - m) % r.ev = 0))
theorem candB_iff {start y m d z n b x : Int} {r : Ru} (ha : Cal.At start y m d) (hx : Cal.At x z n b) (he : 1 ≤ r.ev) (hd : daysB r.ds = true) (hle : start ≤ x) : candB start y m d z n b r x = true ↔ x ∈ cands start y m d r := by
  have hb := Cal.at_bd ha
  have hbx := Cal.at_bd hx
  unfold candB cands
  by_cases h1 : r.fq.toList = [111, 110, 99, 101]
  · rw [if_pos h1, if_pos h1]; simp
  rw [if_neg h1, if_neg h1]
  by_cases h2 : r.fq.toList = [100, 97, 105, 108, 121]
  · rw [if_pos h2, if_pos h2, steps_mem (by omega)]
    simp only [decide_eq_true_eq]; omega
  rw [if_neg h2, if_neg h2]
  by_cases h3 : r.fq.toList = [119, 101, 101, 107, 108, 121]
  · rw [if_pos h3, if_pos h3]
    have hw : ∀ k ∈ wdays start r.ds, 0 ≤ k ∧ k ≤ 6 := by
      unfold wdays; split
      · intro k hk; simp at hk; omega
      · exact days_in hd
    simp only [Bool.and_eq_true, decide_eq_true_eq, wks, List.mem_flatMap, wkC_mem]
    obtain ⟨q, hq⟩ : ∃ q, (x - (x + 5) % 7 - (start - (start + 5) % 7)) / 7 = q := ⟨_, rfl⟩
    have hq7 : x - (x + 5) % 7 - (start - (start + 5) % 7) = 7 * q := by omega
    rw [hq]
    have hdv : (7 * q) % (7 * r.ev) = 0 ↔ q % r.ev = 0 := by
      rw [Int.mul_emod_mul_of_pos _ _ (by omega : (0:Int) < 7)]; omega
    constructor
    · rintro ⟨g1, g2⟩
      refine ⟨x - (x + 5) % 7, ?_, by rw [show x - (x - (x + 5) % 7) = (x + 5) % 7 by omega]; exact g2, hle, hbx.2⟩
      rw [steps_mem (by omega)]
      exact ⟨by omega, by omega, by rw [hq7]; exact hdv.2 g1⟩
    · rintro ⟨k, hk, g2, _, _⟩
      have hk2 := (steps_mem (by omega)).1 hk
      have hr := hw _ g2
      have h7 : (k - (start - (start + 5) % 7)) % 7 = 0 := Int.emod_eq_zero_of_dvd (Int.dvd_trans ⟨r.ev, rfl⟩ (Int.dvd_of_emod_eq_zero hk2.2.2))
      have hkx : k = x - (x + 5) % 7 := by omega
      refine ⟨hdv.1 ?_, by rw [show (x + 5) % 7 = x - k by omega]; exact g2⟩
      rw [← hq7, ← hkx]; exact hk2.2.2
  rw [if_neg h3, if_neg h3]
  obtain ⟨p1, p2⟩ := ha
  obtain ⟨q1, q2⟩ := hx
  have hr := Cal.ok_range p1
  have hr2 := Cal.ok_range q1
  have hm1 : 1 ≤ mulOf r.fq := by unfold mulOf; split <;> omega
  have hs := Int.mul_le_mul he hm1 (by omega) (by omega)
  have key : x ∈ mons y m d (r.ev * mulOf r.fq) ↔ d = b ∧ (12 * (z - y) + n - m) % (r.ev * mulOf r.fq) = 0 := by
    rw [mons, List.mem_flatMap]
    constructor
    · rintro ⟨k, hk, hm⟩
      unfold monC at hm
      split at hm
      · rename_i hB
        simp at hm
        have := Cal.addV_at hB
        rw [← hm] at this
        obtain ⟨e1, e2, e3⟩ := Cal.at_unique ⟨q1, q2⟩ this
        have hk2 := (steps_mem (by omega)).1 hk
        refine ⟨e3.symm, ?_⟩
        have : 12 * (z - y) + n - m = k := by rw [e1, e2]; unfold Cal.kth; omega
        rw [this]; simpa using hk2.2.2
      · simp at hm
    · rintro ⟨rfl, hmod⟩
      have hk0 : 0 ≤ 12 * (z - y) + n - m := by
        by_cases hc : z < y ∨ z = y ∧ n < m
        · have := Cal.num_lt q1 p1 (by omega); omega
        · omega
      refine ⟨12 * (z - y) + n - m, ?_, ?_⟩
      · rw [steps_mem (by omega)]
        exact ⟨hk0, by omega, by simpa using hmod⟩
      · have hkth : Cal.kth y m (12 * (z - y) + n - m) = 12 * (z - 2000) + n - 1 := by unfold Cal.kth; omega
        unfold monC
        rw [hkth]
        have e1 : 2000 + (12 * (z - 2000) + n - 1) / 12 = z := by omega
        have e2 : (12 * (z - 2000) + n - 1) % 12 + 1 = n := by omega
        have hB : Cal.addB (12 * (z - 2000) + n - 1) d = true := by
          unfold Cal.addB
          rw [e1, e2, Cal.okB_true q1]
          simp; omega
        rw [if_pos hB, Cal.addV_yes hB, e1, e2, q2]; simp
  rw [key]
  by_cases h4 : r.fq.toList = [121, 101, 97, 114, 108, 121]
  · rw [if_pos h4, mulOf_yes h4]
    simp only [Bool.and_eq_true, decide_eq_true_eq]
    have : (12 * (z - y) + n - m) % (r.ev * 12) = 0 ↔ n = m ∧ (z - y) % r.ev = 0 := by
      constructor
      · intro h
        have h12 : (12 * (z - y) + n - m) % 12 = 0 := Int.emod_eq_zero_of_dvd (Int.dvd_trans ⟨r.ev, by rw [Int.mul_comm]⟩ (Int.dvd_of_emod_eq_zero h))
        have e : n = m := by omega
        refine ⟨e, ?_⟩
        rw [e, show 12 * (z - y) + m - m = 12 * (z - y) by omega, Int.mul_comm r.ev 12, Int.mul_emod_mul_of_pos _ _ (by omega : (0:Int) < 12)] at h
        omega
      · rintro ⟨e, h⟩
        rw [e, show 12 * (z - y) + m - m = 12 * (z - y) by omega, Int.mul_comm r.ev 12, Int.mul_emod_mul_of_pos _ _ (by omega : (0:Int) < 12)]
        omega
    rw [this]
  · rw [if_neg h4, mulOf_no h4, Int.mul_one]
    simp only [Bool.and_eq_true, decide_eq_true_eq]
/-- those of a span -/
def spanOf (l : List Int) (a b : Int) : List Int := l.filter fun x => decide (a ≤ x ∧ x ≤ b)
/-- the reference's test -/
theorem one_in {c : List Int} (h : c.Pairwise (· < ·)) {ct un x : Int} (hx : x ∈ c) (hu : under un x = true) (h0 : ct ≤ 0) : x ∈ daysOf ct un c := by
  unfold daysOf
  rw [if_neg (by omega)]
  induction c with
  | nil => cases hx
  | cons a tl ih =>
    have hp := List.pairwise_cons.1 h
    rcases List.mem_cons.1 hx with e | e
    · subst e; rw [List.takeWhile_cons, hu]; simp
    · have ha : under un a = true := by
        have := hp.1 x e
        simp only [under, decide_eq_true_eq] at hu ⊢; omega
      rw [List.takeWhile_cons, ha]
      exact List.mem_cons_of_mem _ (ih hp.2 e)
theorem one_out {c : List Int} {ct un x : Int} (hx : x ∈ daysOf ct un c) : x ∈ c ∧ under un x = true := by
  refine ⟨(daysOf_sub ct un c).subset hx, ?_⟩
  unfold daysOf at hx
  split at hx
  · exact List.all_eq_true.1 List.all_takeWhile x ((List.take_sublist _ _).subset hx)
  · exact List.all_eq_true.1 List.all_takeWhile x hx

end Cand
end Go.Proofs.YtenmeaoagepfnaaGreatDoor
end
