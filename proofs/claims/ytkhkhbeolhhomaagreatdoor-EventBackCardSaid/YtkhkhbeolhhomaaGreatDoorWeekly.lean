/- The candidates by weeks: the function weekly, which calls yield. -/
import Derived.Test.YtkhkhbeolhhomaaGreatDoorCandLaw
namespace Go.Proofs.YtkhkhbeolhhomaaGreatDoor
open Go Go.RowKit Go.Shelf Lmd
attribute [local go_sem] Oper.semAt_some
namespace Cand
open Rul Day

theorem wkC_take {start M : Int} {ds : List Int} {i : Nat} (h : i < ds.length) : wkC start (ds.take (i + 1)) M = wkC start (ds.take i) M ++ (if start ≤ M + Ints.el ds i ∧ M + Ints.el ds i ≤ 73048 then [M + Ints.el ds i] else []) := by
  rw [Ints.el_lt h]
  unfold wkC
  rw [List.take_succ_eq_append_getElem h, List.map_append, List.filter_append]
  congr 1
  simp only [List.map_cons, List.map_nil, List.filter_cons, List.filter_nil, decide_eq_true_eq]
theorem wkC_yes {start M y : Int} {ds : List Int} {i : Nat} (h : i < ds.length) (hy : Ints.el ds i = y) (h1 : start ≤ M + y ∧ M + y ≤ 73048) : wkC start (ds.take (i + 1)) M = wkC start (ds.take i) M ++ [M + y] := by rw [wkC_take h, hy, if_pos h1]
theorem wkC_no {start M y : Int} {ds : List Int} {i : Nat} (h : i < ds.length) (hy : Ints.el ds i = y) (h1 : ¬ (start ≤ M + y ∧ M + y ≤ 73048)) : wkC start (ds.take (i + 1)) M = wkC start (ds.take i) M := by rw [wkC_take h, hy, if_neg h1, List.append_nil]
theorem wks_pre {start w ev M : Int} {ds : List Int} {k i : Nat} (he : 1 ≤ ev) (hM : start - w + 7 * ev * k = M) (h : M ≤ 73048) : wksTo start w ev ds k ++ wkC start (ds.take i) M <+: wks start w ev ds := by
  obtain ⟨t, ht⟩ := steps_pre (a := start - w) (s := 7 * ev) (hi := 73048) (k := k) (by omega) (by omega)
  have h2 : wks start w ev ds = wksTo start w ev ds k ++ wkC start ds M ++ t.flatMap (wkC start ds) := by
    rw [wks, ← ht, List.flatMap_append, upTo_succ, List.flatMap_append, hM]
    simp [wksTo]
  have h3 : wkC start ds M = wkC start (ds.take i) M ++ wkC start (ds.drop i) M := by
    unfold wkC
    rw [← List.filter_append, ← List.map_append, List.take_append_drop]
  rw [h2, h3]
  exact ⟨wkC start (ds.drop i) M ++ t.flatMap (wkC start ds), by simp⟩
theorem wks_done {start w ev : Int} {ds : List Int} {k : Nat} (he : 1 ≤ ev) (h1 : 73048 < start - w + 7 * ev * k) (h2 : k = 0 ∨ start - w + 7 * ev * ((k : Int) - 1) ≤ 73048) : wks start w ev ds = wksTo start w ev ds k := by
  rw [wks, steps_of (by omega) h1 h2]; rfl

set_option maxRecDepth 100000 in
set_option maxHeartbeats 4000000 in
theorem weekly_seq (start : Int) (r : Ru) (v : Value) (w : World) (hs0 : 0 ≤ start) (hs1 : start ≤ 73048) (he0 : 1 ≤ r.ev) (he1 : r.ev ≤ 100) (hr : Ints.Reads w v r.ds)
    (hl : (wdays start r.ds).length ≤ 7) (hd : ∀ d ∈ wdays start r.ds, 0 ≤ d ∧ d ≤ 6)
    (O : Nat → Prop) (l : Nat) (J Jx : Nat → List Int → World → Prop) (W : World) (hW : Below w.heap.size w W) (hO : ∀ b o n c, v = .slice (some ⟨b, o, none⟩) n c → n ≠ 0 → ¬ O b) (hOb : ∀ b, O b → b < W.heap.size)
    (hY : ∀ hi pre x W1, W.heap.size ≤ hi → J hi pre W1 → pre.length < 100000 → YieldAt Fence.wide Rng.dp Tryz.prog l #[.int .i64 x] W1 fun e W' =>
      (e = .returned (.bool true) ∧ J hi (pre ++ [x]) W' ∧ Rng.Stay O hi W1 W') ∨ (e = .returned (.bool false) ∧ Jx hi (pre ++ [x]) W' ∧ Rng.Rest W.heap.size W1 W'))
    (h0 : ∀ W', Below W.heap.size W W' → J W'.heap.size [] W') :
    Calls Tryz.prog 202 #[.int .i64 start, r.val v, .func (.yield l) #[] #[]] W fun e W' => (∃ v, e = .returned v) ∧ ∃ hi, W.heap.size ≤ hi ∧ ((∃ xs, xs = wks start ((start + 5) % 7) r.ev (wdays start r.ds) ∧ J hi xs W') ∨ (∃ pre, pre <+: wks start ((start + 5) % 7) r.ev (wdays start r.ds) ∧ Jx hi pre W')) := by
  have hweek := fun w => week_yes start w hs0 hs1
  have hrW : Ints.Reads W v r.ds := hr.below hW
  obtain ⟨wd, hwd⟩ : ∃ wd, (start + 5) % 7 = wd := ⟨_, rfl⟩
  obtain ⟨ds, hds⟩ : ∃ ds, wdays start r.ds = ds := ⟨_, rfl⟩
  have hwdays : ds = if r.ds = [] then [wd] else r.ds := by rw [← hds, ← hwd]; rfl
  rw [hds] at hl hd ⊢
  rw [hwd] at hweek ⊢
  have hwd0 : 0 ≤ wd := by omega
  have hwd6 : wd ≤ 6 := by omega
  have HW := Lib.hid hweek
  have HY := Lib.hid hY
  have HH := Lib.hid h0
  have HD := Lib.hid hd
  have HO := Lib.hid hO
  have HOb := Lib.hid hOb
  have HWD := Lib.hid hwdays
  have HWB := Lib.hid hW
  have HRW := Lib.hid hrW
  clear hweek hY h0 hd hO hOb hwdays hW hrW hr hwd hds
  obtain ⟨fq, ev, ct, un, rds⟩ := r
  simp only [Ru.val] at *
  refine (callsIn_wide (n := Rng.dp + 1)).1 ?_
  refine callsIn_of_wp Tryz.func202 rfl trivial ?_ rfl
  simp only [Tryz.ntmps202, List.size_toArray, List.length_cons, List.length_nil, Nat.reduceAdd, Nat.reduceSub, Array.replicate_succ, Array.replicate_zero, List.push_toArray, List.append_toArray, List.nil_append, List.cons_append]
  by_cases hnil : rds = []
  · have hds1 : ds = [wd] := by rw [HWD.out, if_pos hnil]
    subst hnil
    obtain ⟨a, c, rfl⟩ := HRW.out.shape
    gi_wp2_with (refine ⟨trivial, ?_⟩; gi_at_call 259; refine (callsIn_wide.2 (HW.out _)).mono ?_; rintro e w1 ⟨rfl, rfl⟩)
    have hdl : ds.length = 1 := by rw [hds1]; rfl
    obtain ⟨W2, hW2⟩ : ∃ W2, (W.alloc (.cells #[.string fq, .int .i64 ev, .slice a 0 c, .int .i64 ct, .int .i64 un] 35)).alloc (.cells #[.int .i64 wd] 3) = W2 := ⟨_, rfl⟩
    have hB2 : Below W.heap.size W W2 := by rw [← hW2]; exact ((Below.refl _ W).alloc (Nat.le_refl _) _).alloc (by simp) _
    have hz2 : W2.heap.size = W.heap.size + 2 := by rw [← hW2]; simp
    have k1 : W2.cell? ⟨W.heap.size, 1, none⟩ = some (.int .i64 ev) := by
      rw [← hW2]; exact cell_of ((Below.heap_alloc _ _ _ (by simp)).trans (heap_new W _)) rfl
    have hdc : ∀ i, i < ds.length → W2.cell? ⟨W.heap.size + 1, i, none⟩ = some (.int .i64 (Ints.el ds i)) := fun i hi => by
      obtain rfl : i = 0 := by omega
      have h1 := heap_new (W.alloc (.cells #[.string fq, .int .i64 ev, .slice a 0 c, .int .i64 ct, .int .i64 un] 35)) (.cells #[.int .i64 wd] 3)
      rw [World.size_alloc] at h1
      rw [← hW2, hds1]; exact cell_of h1 rfl
    have hdO : ¬ O (W.heap.size + 1) := fun h => by have := HOb.out _ h; omega
    have hdb : W.heap.size + 1 < W2.heap.size := by omega
    rw [hW2]
    clear hW2 hds1
    have hbO : ¬ O W.heap.size := fun h => by have := HOb.out _ h; omega
    have hbz : W.heap.size < W2.heap.size := by omega
    have HJ0 := Lib.hid (HH.out W2 hB2)
    have HB2 := Lib.hid hB2
    have HDC := Lib.hid hdc
    clear HH hB2 hdc HOb HWD
    gi_loopw [9] (fun p wr => ∃ k : Nat, p = .int .i64 (start - wd + 7 * ev * (k : Int)) ∧ (k = 0 ∨ start - wd + 7 * ev * ((k : Int) - 1) ≤ 73048) ∧ Rng.Stay O W2.heap.size W2 wr ∧ J W2.heap.size (wksTo start wd ev ds k) wr) (fun p _ => (74000 - intOf p).toNat)
    case atStart => exact ⟨0, by simp, Or.inl rfl, Rng.Stay.refl _ _ _, HJ0.out⟩
    case round =>
      obtain ⟨k, rfl, hk, hst, hj⟩ := hrel
      have hkl : 7 * (k : Int) ≤ 7 * ev * (k : Int) := Int.mul_le_mul_of_nonneg_right (by omega) (Int.natCast_nonneg k)
      obtain ⟨M, hM⟩ : ∃ M, start - wd + 7 * ev * (k : Int) = M := ⟨_, rfl⟩
      have hM0 : -6 ≤ M := by omega
      have hk7 : 7 * (k : Int) ≤ M + 6 := by omega
      have hlen := wksTo_len start wd ev ds k
      have hlen2 : ds.length * k ≤ 7 * k := Nat.mul_le_mul_right k hl
      have hn1 : (wksTo start wd ev ds k).length ≤ 7 * k := Nat.le_trans hlen hlen2
      have HX := Lib.hid hM
      have HS := Lib.hid hst
      have HJ1 := Lib.hid hj
      have HK := Lib.hid hk
      have HN := Lib.hid hn1
      have HK7 := Lib.hid hk7
      rw [hM]
      clear hM hst hj hk hn1 hlen hlen2 hkl hk7
      by_cases hle : M ≤ 73048
      · gi_wp2
        gi_loopw [39] (fun p wr2 => ∃ i : Nat, i ≤ ds.length ∧ p = .int .i64 (i : Int) ∧ Rng.Stay O W2.heap.size W2 wr2 ∧ J W2.heap.size (wksTo start wd ev ds k ++ wkC start (ds.take i) M) wr2) (fun p _ => ds.length - (intOf p).toNat)
        case atStart => exact ⟨0, Nat.zero_le _, rfl, HS.out, by simpa [wkC] using HJ1.out⟩
        case round =>
          obtain ⟨i, hi, rfl, hst2, hj2⟩ := hrel
          have HS2 := Lib.hid hst2
          have HJ2 := Lib.hid hj2
          clear hst2 hj2
          by_cases hil : i < ds.length
          · obtain ⟨y, hy⟩ : ∃ y, Ints.el ds i = y := ⟨_, rfl⟩
            have hyb := HD.out y (by rw [← hy, Ints.el_lt hil]; exact List.getElem_mem _)
            have hcell := stay_cell HS2.out (HDC.out i hil) hdO hdb
            rw [hy] at hcell
            have HEL := Lib.hid hy
            obtain ⟨hy0, hy6⟩ := hyb
            clear hy
            by_cases hge : start ≤ M + y
            · by_cases hle2 : M + y ≤ 73048
              · obtain ⟨f1, t1, a1, b1, hy1, hR1⟩ := HY.out W2.heap.size (wksTo start wd ev ds k ++ wkC start (ds.take i) M) (M + y) _ (by omega) HJ2.out (by
                  have h1 := HN.out
                  have h2 := HK7.out
                  have h3 := wkC_len start (ds.take i) M
                  have h4 : (ds.take i).length ≤ ds.length := List.length_take_le' _ _
                  rw [List.length_append]; omega)
                gi_wp2
                refine hR1.mono ?_
                rintro e W1 (⟨rfl, hJ3, hk3⟩ | ⟨rfl, hx3, hr3⟩)
                · have HJ3 := Lib.hid hJ3
                  have HK3 := Lib.hid hk3
                  clear hJ3 hk3
                  gi_wp2
                  go_roundw
                  case rel => exact ⟨i + 1, by omega, by simp, HS2.out.trans HK3.out, by rw [wkC_yes hil HEL.out ⟨hge, hle2⟩, ← List.append_assoc]; exact HJ3.out⟩
                  case measure => simp [intOf]; omega
                · gi_wp2
                  refine bodyPost_ret (results_none rfl _ _ _) rfl ?_
                  exact ⟨⟨_, rfl⟩, W2.heap.size, by omega, .inr ⟨_, by
                    have := wks_pre (i := i + 1) (ds := ds) he0 HX.out hle
                    rw [wkC_yes hil HEL.out ⟨hge, hle2⟩, ← List.append_assoc] at this
                    exact this, hx3⟩⟩
              · gi_wp2
                refine ⟨fun _ h => (by cases h), ?_⟩
                gi_wp2
                go_roundw
                case rel => exact ⟨i + 1, by omega, by simp, HS2.out, by rw [wkC_no hil HEL.out (fun h => by have := h.2; omega)]; exact HJ2.out⟩
                case measure => simp [intOf]; omega
            · gi_wp2
              refine ⟨fun _ h => (by cases h), ?_⟩
              gi_wp2
              go_roundw
              case rel => exact ⟨i + 1, by omega, by simp, HS2.out, by rw [wkC_no hil HEL.out (fun h => by have := h.1; omega)]; exact HJ2.out⟩
              case measure => simp [intOf]; omega
          · have hie : i = ds.length := by omega
            have k1' := stay_cell HS2.out k1 hbO hbz
            gi_wp2
            go_roundw
            case rel => exact ⟨k + 1, by rw [step_succ, HX.out], Or.inr (by rw [show ((k + 1 : Nat) : Int) - 1 = k by omega, HX.out]; exact hle), HS2.out, by
              have := HJ2.out
              rw [hie, List.take_length] at this
              rw [wksTo_succ, HX.out]; exact this⟩
            case measure => simp [intOf]; omega
      · gi_wp2
        go_end0
        exact ⟨⟨_, rfl⟩, W2.heap.size, by omega, .inl (by rw [wks_done he0 (by rw [HX.out]; omega) HK.out]; exact HJ1.out)⟩
  · have hds1 : ds = rds := by rw [HWD.out, if_neg hnil]
    subst hds1
    obtain ⟨a, c, rfl⟩ := HRW.out.shape
    obtain ⟨_, db, doff, rfl, hcell⟩ := HRW.out.at hnil
    have hq : ((ds.length : Int) == 0) = false := by
      have : ds.length ≠ 0 := fun h => hnil (List.length_eq_zero_iff.1 h)
      simp; omega
    gi_wp2_with (refine ⟨trivial, ?_⟩; gi_at_call 259; refine (callsIn_wide.2 (HW.out _)).mono ?_; rintro e w1 ⟨rfl, rfl⟩)
    have hdl : ds.length = ds.length := rfl
    have hne : ds.length ≠ 0 := fun h => hnil (List.length_eq_zero_iff.1 h)
    obtain ⟨W2, hW2⟩ : ∃ W2, W.alloc (.cells #[.string fq, .int .i64 ev, .slice (some ⟨db, doff, none⟩) ds.length c, .int .i64 ct, .int .i64 un] 35) = W2 := ⟨_, rfl⟩
    have hB2 : Below W.heap.size W W2 := by rw [← hW2]; exact (Below.refl _ W).alloc (Nat.le_refl _) _
    have hz2 : W2.heap.size = W.heap.size + 1 := by rw [← hW2]; simp
    have k1 : W2.cell? ⟨W.heap.size, 1, none⟩ = some (.int .i64 ev) := by
      rw [← hW2]; exact cell_of (heap_new W _) rfl
    have hdc : ∀ i, i < ds.length → W2.cell? ⟨db, doff + i, none⟩ = some (.int .i64 (Ints.el ds i)) := fun i hi => cell_later hB2 (hcell i hi)
    have hdO : ¬ O db := HO.out _ _ _ _ rfl hne
    have hdb : db < W2.heap.size := by
      have : db < W.heap.size := cell_lt (hcell 0 (by omega))
      omega
    rw [hW2]
    clear hW2 hcell
    have hbO : ¬ O W.heap.size := fun h => by have := HOb.out _ h; omega
    have hbz : W.heap.size < W2.heap.size := by omega
    have HJ0 := Lib.hid (HH.out W2 hB2)
    have HB2 := Lib.hid hB2
    have HDC := Lib.hid hdc
    clear HH hB2 hdc HOb HWD
    gi_loopw [9] (fun p wr => ∃ k : Nat, p = .int .i64 (start - wd + 7 * ev * (k : Int)) ∧ (k = 0 ∨ start - wd + 7 * ev * ((k : Int) - 1) ≤ 73048) ∧ Rng.Stay O W2.heap.size W2 wr ∧ J W2.heap.size (wksTo start wd ev ds k) wr) (fun p _ => (74000 - intOf p).toNat)
    case atStart => exact ⟨0, by simp, Or.inl rfl, Rng.Stay.refl _ _ _, HJ0.out⟩
    case round =>
      obtain ⟨k, rfl, hk, hst, hj⟩ := hrel
      have hkl : 7 * (k : Int) ≤ 7 * ev * (k : Int) := Int.mul_le_mul_of_nonneg_right (by omega) (Int.natCast_nonneg k)
      obtain ⟨M, hM⟩ : ∃ M, start - wd + 7 * ev * (k : Int) = M := ⟨_, rfl⟩
      have hM0 : -6 ≤ M := by omega
      have hk7 : 7 * (k : Int) ≤ M + 6 := by omega
      have hlen := wksTo_len start wd ev ds k
      have hlen2 : ds.length * k ≤ 7 * k := Nat.mul_le_mul_right k hl
      have hn1 : (wksTo start wd ev ds k).length ≤ 7 * k := Nat.le_trans hlen hlen2
      have HX := Lib.hid hM
      have HS := Lib.hid hst
      have HJ1 := Lib.hid hj
      have HK := Lib.hid hk
      have HN := Lib.hid hn1
      have HK7 := Lib.hid hk7
      rw [hM]
      clear hM hst hj hk hn1 hlen hlen2 hkl hk7
      by_cases hle : M ≤ 73048
      · gi_wp2
        gi_loopw [39] (fun p wr2 => ∃ i : Nat, i ≤ ds.length ∧ p = .int .i64 (i : Int) ∧ Rng.Stay O W2.heap.size W2 wr2 ∧ J W2.heap.size (wksTo start wd ev ds k ++ wkC start (ds.take i) M) wr2) (fun p _ => ds.length - (intOf p).toNat)
        case atStart => exact ⟨0, Nat.zero_le _, rfl, HS.out, by simpa [wkC] using HJ1.out⟩
        case round =>
          obtain ⟨i, hi, rfl, hst2, hj2⟩ := hrel
          have HS2 := Lib.hid hst2
          have HJ2 := Lib.hid hj2
          clear hst2 hj2
          by_cases hil : i < ds.length
          · obtain ⟨y, hy⟩ : ∃ y, Ints.el ds i = y := ⟨_, rfl⟩
            have hyb := HD.out y (by rw [← hy, Ints.el_lt hil]; exact List.getElem_mem _)
            have hcell := stay_cell HS2.out (HDC.out i hil) hdO hdb
            rw [hy] at hcell
            have HEL := Lib.hid hy
            obtain ⟨hy0, hy6⟩ := hyb
            clear hy
            by_cases hge : start ≤ M + y
            · by_cases hle2 : M + y ≤ 73048
              · obtain ⟨f1, t1, a1, b1, hy1, hR1⟩ := HY.out W2.heap.size (wksTo start wd ev ds k ++ wkC start (ds.take i) M) (M + y) _ (by omega) HJ2.out (by
                  have h1 := HN.out
                  have h2 := HK7.out
                  have h3 := wkC_len start (ds.take i) M
                  have h4 : (ds.take i).length ≤ ds.length := List.length_take_le' _ _
                  rw [List.length_append]; omega)
                gi_wp2
                refine hR1.mono ?_
                rintro e W1 (⟨rfl, hJ3, hk3⟩ | ⟨rfl, hx3, hr3⟩)
                · have HJ3 := Lib.hid hJ3
                  have HK3 := Lib.hid hk3
                  clear hJ3 hk3
                  gi_wp2
                  go_roundw
                  case rel => exact ⟨i + 1, by omega, by simp, HS2.out.trans HK3.out, by rw [wkC_yes hil HEL.out ⟨hge, hle2⟩, ← List.append_assoc]; exact HJ3.out⟩
                  case measure => simp [intOf]; omega
                · gi_wp2
                  refine bodyPost_ret (results_none rfl _ _ _) rfl ?_
                  exact ⟨⟨_, rfl⟩, W2.heap.size, by omega, .inr ⟨_, by
                    have := wks_pre (i := i + 1) (ds := ds) he0 HX.out hle
                    rw [wkC_yes hil HEL.out ⟨hge, hle2⟩, ← List.append_assoc] at this
                    exact this, hx3⟩⟩
              · gi_wp2
                refine ⟨fun _ h => (by cases h), ?_⟩
                gi_wp2
                go_roundw
                case rel => exact ⟨i + 1, by omega, by simp, HS2.out, by rw [wkC_no hil HEL.out (fun h => by have := h.2; omega)]; exact HJ2.out⟩
                case measure => simp [intOf]; omega
            · gi_wp2
              refine ⟨fun _ h => (by cases h), ?_⟩
              gi_wp2
              go_roundw
              case rel => exact ⟨i + 1, by omega, by simp, HS2.out, by rw [wkC_no hil HEL.out (fun h => by have := h.1; omega)]; exact HJ2.out⟩
              case measure => simp [intOf]; omega
          · have hie : i = ds.length := by omega
            have k1' := stay_cell HS2.out k1 hbO hbz
            gi_wp2
            go_roundw
            case rel => exact ⟨k + 1, by rw [step_succ, HX.out], Or.inr (by rw [show ((k + 1 : Nat) : Int) - 1 = k by omega, HX.out]; exact hle), HS2.out, by
              have := HJ2.out
              rw [hie, List.take_length] at this
              rw [wksTo_succ, HX.out]; exact this⟩
            case measure => simp [intOf]; omega
      · gi_wp2
        go_end0
        exact ⟨⟨_, rfl⟩, W2.heap.size, by omega, .inl (by rw [wks_done he0 (by rw [HX.out]; omega) HK.out]; exact HJ1.out)⟩
end Cand
end Go.Proofs.YtkhkhbeolhhomaaGreatDoor
