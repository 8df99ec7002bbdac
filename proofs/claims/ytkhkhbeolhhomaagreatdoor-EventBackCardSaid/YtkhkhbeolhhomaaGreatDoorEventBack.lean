/- The walk of the law EventBack. -/
import Derived.Test.YtkhkhbeolhhomaaGreatDoorEvTextL
namespace Go.Proofs.YtkhkhbeolhhomaaGreatDoor
open Go Go.RowKit Go.Shelf Lmd
attribute [local go_sem] Oper.semAt_some
namespace Evt
open Rul Day Cand Er Tp

theorem textL_short {r : Ru} (hb : bad r = 0) (hl : r.ds.length ≤ 20) : (textL r).length ≤ 1000 := by
  obtain ⟨h1, h2, h3, h4, h5⟩ := bad_parts hb
  obtain ⟨⟨e1, e2⟩, ⟨c1, c2⟩, u1, u2⟩ := bound_parts h2
  have hf : r.fq.data.toList.length ≤ 8 := by
    rcases freqs_mem h1 with h | h | h | h | h <;> rw [h] <;> decide
  have hi := Lib.itoa_length_le r.ev (by omega) (by omega)
  have hc := Lib.itoa_length_le r.ct (by omega) (by omega)
  have hj := join_le [44] (by simp) ((r.ds.map nameOf).map (·.data.toList)) (by
    intro x hx
    simp only [List.map_map, List.mem_map] at hx
    obtain ⟨d, _, rfl⟩ := hx
    exact nameOf_len d)
  simp only [List.length_map] at hj
  have hd : (dayT r.un).length ≤ 10 ∨ r.un = -1 := by
    by_cases hu : r.un = -1
    · exact .inr hu
    · obtain ⟨y, m, d, ha⟩ := Cal.at_exists r.un (by omega) (by omega)
      rw [dayT_at ha]; exact .inl (Nat.le_refl _)
  have hD : (daysL r).length ≤ 200 := by
    unfold daysL; split
    · simp
    · simp only [List.length_append, List.length_cons, List.length_nil]; omega
  have hC : (countL r).length ≤ 28 := by
    unfold countL; split
    · simp only [List.length_append, List.length_cons, List.length_nil]; omega
    · simp
  have hU : (untilL r).length ≤ 17 := by
    unfold untilL; split
    · simp only [List.length_append, List.length_cons, List.length_nil]; omega
    · simp
  unfold textL; split
  · omega
  · unfold headL
    simp only [List.length_append, List.length_cons, List.length_nil]; omega
theorem getL_short {e : Ev} (f : ByteArray) (h : badE e = 0) (hd : e.ru.ds.length ≤ 20) : (getL e f).data.toList.length ≤ 1000 := by
  obtain ⟨_, h2, _, h4, h5, h6⟩ := badE_zero h
  obtain ⟨s1, s2, _⟩ := badL_zero h6
  have ht : e.ti.data.toList.length ≤ 40 := by
    unfold titleB at h2
    rw [Bool.and_eq_true] at h2
    rw [Array.length_toList]
    exact of_decide_eq_true h2.1
  have hi := Lib.itoa_length_le e.lg (by omega) (by omega)
  have hs := skipsL_len e.sk
  have hm := movesL_len e.mv
  have hr := textL_short h5 hd
  have hdl := dayL_len e.st
  unfold getL
  split
  · omega
  split
  · show (mk _).data.toList.length ≤ _; rw [mk_list]; omega
  split
  · show (mk _).data.toList.length ≤ _; rw [mk_list]; omega
  split
  · (try rw [if_pos h5]); show (mk _).data.toList.length ≤ _; rw [mk_list]; omega
  split
  · show (mk _).data.toList.length ≤ _; rw [mk_list]; omega
  split
  · show (mk _).data.toList.length ≤ _; rw [mk_list]; omega
  · simp
theorem textE_short {e : Ev} (h : badE e = 0) (hd : e.ru.ds.length ≤ 20) : (textE e).length ≤ 8000 := by
  obtain ⟨h1, _⟩ := badE_zero h
  have hid : e.id.data.toList.length ≤ 12 := by
    unfold nameB at h1
    rw [Bool.and_eq_true, Bool.and_eq_true] at h1
    rw [Array.length_toList]
    exact of_decide_eq_true h1.1.2
  have := join_len [124] 1000 ((partsE e 6).map (·.data.toList)) (fun x hx => by
    simp only [partsE, List.map_cons, List.mem_cons, List.mem_map] at hx
    rcases hx with rfl | ⟨y, ⟨z, _, rfl⟩, rfl⟩
    · omega
    · exact getL_short z h hd)
  have hl : ((partsE e 6).map (·.data.toList)).length = 7 := by simp [partsE, fieldL]
  rw [hl] at this
  unfold textE
  simp only [List.length_cons, List.length_nil] at this
  omega
theorem getL_size {e : Ev} (f : ByteArray) (h : badE e = 0) (hd : e.ru.ds.length ≤ 20) : (getL e f).size ≤ 30000 := by
  have := getL_short f h hd
  rw [Array.length_toList] at this
  show (getL e f).data.size ≤ _
  omega
theorem setE_good {e : Ev} {f s : ByteArray} (h : setC e f s = 0) : badE (setE e f s) = 0 := by
  have h2 : setE e f s = putE e f s := by unfold setE; rw [if_pos h]
  rw [h2]
  unfold setC at h
  split at h
  · omega
  · exact h
/-- a whole store, written out -/
theorem only11 (W : World) (b : Nat) (a0 a1 a2 a3 a4 a5 a6 a7 a8 a9 a10 : Value) : Only b W (((((((((((W.setCell ⟨b, 0, none⟩ a0).setCell ⟨b, 1, none⟩ a1).setCell ⟨b, 2, none⟩ a2).setCell ⟨b, 3, none⟩ a3).setCell ⟨b, 4, none⟩ a4).setCell ⟨b, 5, none⟩ a5).setCell ⟨b, 6, none⟩ a6).setCell ⟨b, 7, none⟩ a7).setCell ⟨b, 8, none⟩ a8).setCell ⟨b, 9, none⟩ a9).setCell ⟨b, 10, none⟩ a10) := put11_only W b a0 a1 a2 a3 a4 a5 a6 a7 a8 a9 a10
/-- what a box holds behind Set -/
def SetAt (SE : Ev) (E : Value) (wr : World) (s12 s13 : Value) (wc : World) : Prop :=
  ∃ p a1 n1 c1 a2 n2 c2 a3 n3 c3, s12 = .pointer (some ⟨p, 0, none⟩) ∧ s13 = E ∧ wc.heap[p]? = some (.cells (SE.cells (.slice a1 n1 c1) (.slice a2 n2 c2) (.slice a3 n3 c3)) 38) ∧ Below wr.heap.size wr wc ∧ Rv wc SE (.slice a1 n1 c1) (.slice a2 n2 c2) (.slice a3 n3 c3)

set_option maxRecDepth 100000 in
set_option maxHeartbeats 20000000 in
theorem eventBack_any (a b : Ev) (vd vs vm ud us um : Value) (er : Nat → Addr) (m : Int) (w : World) (hv : Env w er m) (hra : Rv w a vd vs vm) (hrb : Rv w b ud us um) (hfa : Fin64 a) (hfb : Fin64 b) :
    Calls Tryz.prog 7 #[.agg (a.cells vd vs vm), .agg (b.cells ud us um)] w fun r w' => r = .returned (.bool true) ∧ Below w.heap.size w w' := by
  obtain ⟨WA, hWA⟩ : ∃ WA, w.alloc (.cells (a.cells vd vs vm) 38) = WA := ⟨_, rfl⟩
  obtain ⟨W0, hW0⟩ : ∃ W0, WA.alloc (.cells (b.cells ud us um) 38) = W0 := ⟨_, rfl⟩
  have hbA : Below w.heap.size w WA := by rw [← hWA]; exact (Below.refl _ w).alloc (Nat.le_refl _) _
  have hbA0 : Below WA.heap.size WA W0 := by rw [← hW0]; exact (Below.refl _ WA).alloc (Nat.le_refl _) _
  have hB0 : Below w.heap.size w W0 := hbA.trans (hbA0.mono hbA.size)
  have hxa0 : W0.heap[w.heap.size]? = some (.cells (a.cells vd vs vm) 38) := row_below (by rw [← hWA]; exact heap_new w _) hbA0
  have hwa : WA.heap.size = w.heap.size + 1 := by rw [← hWA]; show (w.heap.push _).size = _; simp
  have hxb0 : W0.heap[w.heap.size + 1]? = some (.cells (b.cells ud us um) 38) := by rw [← hwa, ← hW0]; exact heap_new WA _
  have hv0 := hv.below hB0
  have hra0 := hra.below hB0
  have hrb0 := hrb.below hB0
  have hev := evented_any er W0 hv0.tb
  have hla := fun W (h : Below W0.heap.size W0 W) => longEvent_any a vd vs vm W (hra0.below h) hfa
  have hlb := fun W (h : Below W0.heap.size W0 W) => longEvent_any b ud us um W (hrb0.below h) hfb
  obtain ⟨la, hla1⟩ : ∃ la : Int, (if LongP a then (1 : Int) else 0) = la := ⟨_, rfl⟩
  obtain ⟨lb, hlb1⟩ : ∃ lb : Int, (if LongP b then (1 : Int) else 0) = lb := ⟨_, rfl⟩
  simp only [hla1] at hla
  simp only [hlb1] at hlb
  have hla0 : 0 ≤ la ∧ la ≤ 1 := by rw [← hla1]; split <;> omega
  have hlb0 : 0 ≤ lb ∧ lb ≤ 1 := by rw [← hlb1]; split <;> omega
  have hwr : IntKind.i64.wrap (la + lb) = la + lb := IntWalk.i64_in _ (by omega)
  obtain ⟨a6, c6, rfl⟩ := hra.d.shape
  obtain ⟨a9, c9, rfl⟩ := hra.s.shape
  obtain ⟨a10, c10, rfl⟩ := hra.m.shape
  obtain ⟨b6, d6, rfl⟩ := hrb.d.shape
  obtain ⟨b9, d9, rfl⟩ := hrb.s.shape
  obtain ⟨b10, d10, rfl⟩ := hrb.m.shape
  have HEV := Lib.hid hev
  have HV0 := Lib.hid hv0
  have HRA0 := Lib.hid hra0
  have HRB0 := Lib.hid hrb0
  have HXA0 := Lib.hid hxa0
  have HXB0 := Lib.hid hxb0
  have HB0 := Lib.hid hB0
  have HWA := Lib.hid hWA
  have HW0 := Lib.hid hW0
  have HLA := Lib.hid hla
  have HLB := Lib.hid hlb
  have HLA1 := Lib.hid hla1
  have HLB1 := Lib.hid hlb1
  have HLA0 := Lib.hid hla0
  have HLB0 := Lib.hid hlb0
  clear hv hra hrb hfa hfb hWA hW0 hbA hbA0 hwa hB0 hxa0 hxb0 hv0 hra0 hrb0 hev hla hlb hla1 hlb1 hla0 hlb0
  go_enter Tryz.func7, Tryz.ntmps7
  go_upto_region 1 with fail
  rw [HWA.out, HW0.out]
  go_wp2_with fail
  (with_reducible refine HEV.out.mono ?_)
  rintro e1 w1 ⟨rfl, hb1⟩
  have HB1 := Lib.hid hb1
  obtain ⟨k0, k1, k2, k3, k4, k5, k6, k7, k8, k9, k10⟩ := cells11 (row_below HXA0.out hb1)
  obtain ⟨j0, j1, j2, j3, j4, j5, j6, j7, j8, j9, j10⟩ := cells11 (row_below HXB0.out hb1)
  clear hb1 HEV
  go_upto_region 2 with fail
  go_cut [25] from 15 (fun s25 wc => s25 = .bool (decide (0 < la + lb)) ∧ Below W0.heap.size W0 wc)
  case first =>
    have hacc : Below W0.heap.size W0 w1.drew := below_draw HB1.out 1
    go_region_with (first
      | ((go_at_call 22)
         (first
           | (with_reducible refine (HLA.out _ hacc).mono ?_)
           | (with_reducible refine (HLB.out _ hacc).mono ?_))
         rintro e2 w2 ⟨rfl, hb2⟩
         replace hacc := hacc.trans (hb2.mono hacc.size)
         obtain ⟨k0, k1, k2, k3, k4, k5, k6, k7, k8, k9, k10⟩ := cells11 (row_below HXA0.out hacc)
         obtain ⟨j0, j1, j2, j3, j4, j5, j6, j7, j8, j9, j10⟩ := cells11 (row_below HXB0.out hacc)
         clear hb2))
    all_goals go_wp2_with fail
    all_goals go_meet
    all_goals refine ⟨?_, hacc⟩
    all_goals (first | trivial | rfl | simp)
  case rest =>
  obtain ⟨rfl, hb2⟩ := hcut
  have HB2 := Lib.hid hb2
  clear hb2 k0 k1 k2 k3 k4 k5 k6 k7 k8 k9 k10 j0 j1 j2 j3 j4 j5 j6 j7 j8 j9 j10 hwr HB1
  by_cases h1 : (0 : Int) < la + lb
  · go_wp2
    go_ret
    exact ⟨rfl, HB0.out.trans (HB2.out.mono HB0.out.size)⟩
  have hna : ¬ LongP a := fun h => by have := HLA1.out; rw [if_pos h] at this; have := HLB0.out; omega
  have hnb : ¬ LongP b := fun h => by have := HLB1.out; rw [if_pos h] at this; have := HLA0.out; omega
  have hza := size_of hna
  have hzb := size_of hnb
  have hda : a.ru.ds.length ≤ 20 := by unfold LongP at hna; omega
  have hdb : b.ru.ds.length ≤ 20 := by unfold LongP at hnb; omega
  have HZA := Lib.hid hza
  have HZB := Lib.hid hzb
  have HDA := Lib.hid hda
  have HDB := Lib.hid hdb
  have HOA := Lib.hid (ownEvent_any a _ _ _ wc (HRA0.out.below HB2.out) hza)
  clear hna hnb hza hzb hda hdb HLA1 HLB1 HLA0 HLB0 HLA HLB
  obtain ⟨k0, k1, k2, k3, k4, k5, k6, k7, k8, k9, k10⟩ := cells11 (row_below HXA0.out HB2.out)
  go_wp2_with fail
  (with_reducible refine HOA.out.mono ?_)
  rintro e3 w3 ⟨x1, x2, x3, rfl, hr3, hb3⟩
  obtain ⟨a1, c1, rfl⟩ := hr3.d.shape
  obtain ⟨a2, c2, rfl⟩ := hr3.s.shape
  obtain ⟨a3, c3, rfl⟩ := hr3.m.shape
  obtain ⟨n1, hn1⟩ : ∃ n, a.ru.ds.length = n := ⟨_, rfl⟩
  obtain ⟨n2, hn2⟩ : ∃ n, a.sk.length = n := ⟨_, rfl⟩
  obtain ⟨n3, hn3⟩ : ∃ n, a.mv.length = n := ⟨_, rfl⟩
  rw [hn1, hn2, hn3] at hr3 ⊢
  clear k0 k1 k2 k3 k4 k5 k6 k7 k8 k9 k10 hn1 hn2 hn3 HOA
  go_upto_region 5 with fail
  obtain ⟨W4, hW4⟩ : ∃ W4, w3.alloc (.cells (a.cells (.slice a1 n1 c1) (.slice a2 n2 c2) (.slice a3 n3 c3)) 38) = W4 := ⟨_, rfl⟩
  have hb4 : Below w3.heap.size w3 W4 := by rw [← hW4]; exact (Below.refl _ w3).alloc (Nat.le_refl _) _
  have hx4 : W4.heap[w3.heap.size]? = some (.cells (a.cells (.slice a1 n1 c1) (.slice a2 n2 c2) (.slice a3 n3 c3)) 38) := by rw [← hW4]; exact heap_new w3 _
  rw [hW4]
  have hB3 := HB2.out.trans (hb3.mono HB2.out.size)
  have HB4 := Lib.hid (hB3.trans (hb4.mono hB3.size))
  have HX4 := Lib.hid hx4
  have HR4 := Lib.hid (hr3.below hb4)
  have HOB := Lib.hid (ownEvent_any b _ _ _ W4 (HRB0.out.below HB4.out) HZB.out)
  obtain ⟨j0, j1, j2, j3, j4, j5, j6, j7, j8, j9, j10⟩ := cells11 (row_below HXB0.out HB4.out)
  clear hr3 hb3 hb4 hx4 hW4 hB3 HB2
  go_wp2_with fail
  (with_reducible refine HOB.out.mono ?_)
  rintro e5 w5 ⟨y1, y2, y3, rfl, hr5, hb5⟩
  obtain ⟨b1, d1, rfl⟩ := hr5.d.shape
  obtain ⟨b2, d2, rfl⟩ := hr5.s.shape
  obtain ⟨b3, d3, rfl⟩ := hr5.m.shape
  obtain ⟨m1, hm1⟩ : ∃ n, b.ru.ds.length = n := ⟨_, rfl⟩
  obtain ⟨m2, hm2⟩ : ∃ n, b.sk.length = n := ⟨_, rfl⟩
  obtain ⟨m3, hm3⟩ : ∃ n, b.mv.length = n := ⟨_, rfl⟩
  rw [hm1, hm2, hm3] at hr5 ⊢
  clear j0 j1 j2 j3 j4 j5 j6 j7 j8 j9 j10 hm1 hm2 hm3 HOB
  go_upto_region 6 with fail
  obtain ⟨W6, hW6⟩ : ∃ W6, w5.alloc (.cells (b.cells (.slice b1 m1 d1) (.slice b2 m2 d2) (.slice b3 m3 d3)) 38) = W6 := ⟨_, rfl⟩
  have hb56 : Below w5.heap.size w5 W6 := by rw [← hW6]; exact (Below.refl _ w5).alloc (Nat.le_refl _) _
  have hy6 : W6.heap[w5.heap.size]? = some (.cells (b.cells (.slice b1 m1 d1) (.slice b2 m2 d2) (.slice b3 m3 d3)) 38) := by rw [← hW6]; exact heap_new w5 _
  rw [hW6]
  have hb46 : Below W4.heap.size W4 W6 := hb5.trans (hb56.mono hb5.size)
  have hB6 : Below W0.heap.size W0 W6 := HB4.out.trans (hb46.mono HB4.out.size)
  have hx6 := row_below HX4.out hb46
  have hv6 := HV0.out.below hB6
  have ha6 := HR4.out.below hb46
  have hb6 := hr5.below hb56
  have HBW := Lib.hid (HB0.out.trans (hB6.mono HB0.out.size))
  have HX6 := Lib.hid hx6
  have HY6 := Lib.hid hy6
  have HV6 := Lib.hid hv6
  have HA6 := Lib.hid ha6
  have HY6R := Lib.hid hb6
  obtain ⟨k0, k1, k2, k3, k4, k5, k6, k7, k8, k9, k10⟩ := cells11 hx6
  obtain ⟨j0, j1, j2, j3, j4, j5, j6, j7, j8, j9, j10⟩ := cells11 hy6
  have hca := check_any a _ _ _ er W6 hv6.errs ha6 HZA.out
  clear hr5 hb5 hb56 hy6 hW6 hb46 hB6 hx6 hv6 ha6 hb6 HV0 HRA0 HRB0 HXA0 HXB0 HB0 HB4 HX4 HR4 HWA HW0
  by_cases hqa : badE a = 0
  case neg =>
    obtain ⟨q, hq⟩ : ∃ q, badE a = q + 1 := ⟨badE a - 1, by omega⟩
    rw [hq] at hca
    simp only [errV] at hca
    have HCA := Lib.hid hca
    clear hca hqa hq
    go_wp2_with fail
    (with_reducible refine HCA.out.mono ?_)
    rintro e7 w7 ⟨rfl, hb7⟩
    go_wp2
    go_ret
    exact ⟨rfl, HBW.out.trans (hb7.mono HBW.out.size)⟩
  rw [hqa] at hca
  simp only [errV] at hca
  have HCA := Lib.hid hca
  have HQA := Lib.hid hqa
  clear hca hqa
  go_wp2_with fail
  (with_reducible refine HCA.out.mono ?_)
  rintro e7 w7 ⟨rfl, hb7⟩
  have HB7 := Lib.hid hb7
  have hcb := check_any b _ _ _ er w7 (HV6.out.below hb7).errs (HY6R.out.below hb7) HZB.out
  clear k0 k1 k2 k3 k4 k5 k6 k7 k8 k9 k10 j0 j1 j2 j3 j4 j5 j6 j7 j8 j9 j10 HCA
  obtain ⟨j0, j1, j2, j3, j4, j5, j6, j7, j8, j9, j10⟩ := cells11 (row_below HY6.out hb7)
  clear hb7
  by_cases hqb : badE b = 0
  case neg =>
    obtain ⟨q, hq⟩ : ∃ q, badE b = q + 1 := ⟨badE b - 1, by omega⟩
    rw [hq] at hcb
    simp only [errV] at hcb
    have HCB := Lib.hid hcb
    clear hcb hqb hq
    go_wp2_with fail
    (with_reducible refine HCB.out.mono ?_)
    rintro e8 w8 ⟨rfl, hb8⟩
    go_wp2
    go_ret
    exact ⟨rfl, HBW.out.trans ((HB7.out.trans (hb8.mono HB7.out.size)).mono HBW.out.size)⟩
  rw [hqb] at hcb
  simp only [errV] at hcb
  have HCB := Lib.hid hcb
  have HQB := Lib.hid hqb
  clear hcb hqb
  go_wp2_with fail
  (with_reducible refine HCB.out.mono ?_)
  rintro e8 w8 ⟨rfl, hb8⟩
  have HB8 := Lib.hid (HB7.out.trans (hb8.mono HB7.out.size))
  clear hb8 j0 j1 j2 j3 j4 j5 j6 j7 j8 j9 j10 HCB HB7
  obtain ⟨k0, k1, k2, k3, k4, k5, k6, k7, k8, k9, k10⟩ := cells11 (row_below HX6.out HB8.out)
  have htx := etext_any a _ _ _ er w8 (HV6.out.below HB8.out).tb (HA6.out.below HB8.out) HZA.out
  rw [if_pos HQA.out] at htx
  have hts : (mk (textE a)).size ≤ 30000 := by
    have := textE_short HQA.out HDA.out
    show (textE a).toArray.size ≤ _
    rw [List.size_toArray]; omega
  have hrd := fun W (h : Below W6.heap.size W6 W) => read_ev (mk (textE a)) er m W (HV6.out.below h) hts
  unfold ReadPost at hrd
  rw [(text_back HQA.out).1, (text_back HQA.out).2] at hrd
  simp only [errV] at hrd
  obtain ⟨TX, hTX⟩ : ∃ x, mk (textE a) = x := ⟨_, rfl⟩
  rw [hTX] at htx
  simp only [hTX] at hrd
  have HTX := Lib.hid htx
  have HRD := Lib.hid hrd
  clear htx hts hrd hTX
  go_wp2_with fail
  (with_reducible refine HTX.out.mono ?_)
  rintro e9 w9 ⟨rfl, hb9⟩
  have HB9 := Lib.hid (HB8.out.trans (hb9.mono HB8.out.size))
  clear hb9 HTX HB8 k0 k1 k2 k3 k4 k5 k6 k7 k8 k9 k10
  go_wp2_with fail
  (with_reducible refine (HRD.out _ HB9.out).mono ?_)
  rintro e10 w10 ⟨z1, z2, z3, rfl, hr10, hb10⟩
  obtain ⟨z1, f1, rfl⟩ := hr10.d.shape
  obtain ⟨z2, f2, rfl⟩ := hr10.s.shape
  obtain ⟨z3, f3, rfl⟩ := hr10.m.shape
  go_upto_region 9 with fail
  obtain ⟨W11, hW11⟩ : ∃ W11, w10.alloc (.cells (a.cells (.slice z1 a.ru.ds.length f1) (.slice z2 a.sk.length f2) (.slice z3 a.mv.length f3)) 38) = W11 := ⟨_, rfl⟩
  have hb11 : Below w10.heap.size w10 W11 := by rw [← hW11]; exact (Below.refl _ w10).alloc (Nat.le_refl _) _
  have hz11 : W11.heap[w10.heap.size]? = some (.cells (a.cells (.slice z1 a.ru.ds.length f1) (.slice z2 a.sk.length f2) (.slice z3 a.mv.length f3)) 38) := by rw [← hW11]; exact heap_new w10 _
  rw [hW11]
  have hB10 := HB9.out.trans (hb10.mono HB9.out.size)
  have HB11 := Lib.hid (hB10.trans (hb11.mono hB10.size))
  have hse := rsameEvent_any a a _ _ _ _ _ _ W11 (hr10.below hb11) (HA6.out.below HB11.out) HZA.out HZA.out
  rw [eqE_self] at hse
  have HSE := Lib.hid hse
  obtain ⟨j0, j1, j2, j3, j4, j5, j6, j7, j8, j9, j10⟩ := cells11 hz11
  obtain ⟨k0, k1, k2, k3, k4, k5, k6, k7, k8, k9, k10⟩ := cells11 (row_below HX6.out HB11.out)
  clear hb10 hb11 hz11 hW11 hB10 hr10 hse HB9 HRD
  go_wp2_with fail
  (with_reducible refine HSE.out.mono ?_)
  rintro e12 w12 ⟨rfl, hb12⟩
  have HB12 := Lib.hid (HB11.out.trans (hb12.mono HB11.out.size))
  clear hb12 HB11 HSE k0 k1 k2 k3 k4 k5 k6 k7 k8 k9 k10 j0 j1 j2 j3 j4 j5 j6 j7 j8 j9 j10
  go_wp2_with fail
  refine (fields_low _).mono ?_
  rintro e13 w13 ⟨rfl, hF13, hb13⟩
  have HF13 := Lib.hid hF13
  have HB13 := Lib.hid (HB12.out.trans (hb13.mono HB12.out.size))
  clear hF13 hb13 HB12
  go_wp2_with fail
  go_loopw [11] (fun p wr => ∃ k : Nat, k ≤ 6 ∧ p = .int .i64 (k : Int) ∧ Below w13.heap.size w13 wr) (fun p _ => 6 - (intOf p).toNat)
  case atStart => exact ⟨0, Nat.zero_le _, rfl, Below.refl _ _⟩
  case round =>
    obtain ⟨k, hk, rfl, hbr⟩ := hrel
    have hB : Below W6.heap.size W6 wr := HB13.out.trans (hbr.mono HB13.out.size)
    have HBR := Lib.hid hbr
    have HB := Lib.hid hB
    by_cases hlt : k < 6
    case neg =>
      obtain rfl : k = 6 := by omega
      clear hlt hbr hB
      go_wp2
      go_ret
      exact ⟨rfl, HBW.out.trans (HB.out.mono HBW.out.size)⟩
    case pos =>
      have hi1 : (k : Int) < 6 := by omega
      obtain ⟨F, hF⟩ : ∃ F, fieldL.getD k ByteArray.empty = F := ⟨_, rfl⟩
      have hFm : F ∈ fieldL := by
        rw [← hF, List.getD_eq_getElem?_getD, List.getElem?_eq_getElem (show k < fieldL.length from hlt)]
        exact List.getElem_mem _
      have hfr := row_below HF13.out hbr
      have hxr := row_below HX6.out hB
      have hyr := row_below HY6.out hB
      have hvr := HV6.out.below hB
      have har := HA6.out.below hB
      have hyv := HY6R.out.below hB
      have hgx := fun W (h : Below wr.heap.size wr W) => get_any a _ _ _ F er W (hvr.below h).tb (har.below h) HZA.out (by have := (badE_zero HQA.out).2.2.2.1; omega) (by have := (badE_zero HQA.out).2.2.2.1; omega) (movesC (hvr.below h).tb (har.below h).m (etextW_le HQA.out))
      have hgy := fun W (h : Below wr.heap.size wr W) => get_any b _ _ _ F er W (hvr.below h).tb (hyv.below h) HZB.out (by have := (badE_zero HQB.out).2.2.2.1; omega) (by have := (badE_zero HQB.out).2.2.2.1; omega) (movesC (hvr.below h).tb (hyv.below h).m (etextW_le HQB.out))
      have hs1 := fun W (h : Below wr.heap.size wr W) => set_any a _ _ _ F (getL a F) er m W (hvr.below h) (har.below h) HZA.out (getL_size F HQA.out HDA.out)
      have hs2 := fun W (h : Below wr.heap.size wr W) => set_any a _ _ _ F (getL b F) er m W (hvr.below h) (har.below h) HZA.out (getL_size F HQB.out HDB.out)
      unfold SetPost at hs1 hs2
      simp only [(set_same HQA.out hFm).1, (set_same HQA.out hFm).2, errV] at hs1
      have hso := set_other (x := a) HQB.out hFm
      have hsg := setE_good (e := a) (f := F) (s := getL b F)
      have hzS := setE_size HZA.out F (getL_size F HQB.out HDB.out)
      obtain ⟨GX, hGX⟩ : ∃ x, getL a F = x := ⟨_, rfl⟩
      obtain ⟨GY, hGY⟩ : ∃ x, getL b F = x := ⟨_, rfl⟩
      simp only [hGX] at hgx hs1
      simp only [hGY] at hgy hs2 hso hsg hzS
      obtain ⟨SE, hSE⟩ : ∃ x, setE a F GY = x := ⟨_, rfl⟩
      obtain ⟨sc, hsc⟩ : ∃ x, setC a F GY = x := ⟨_, rfl⟩
      simp only [hSE, hsc] at hs2 hso hsg hzS
      have HGX := Lib.hid hgx
      have HGY := Lib.hid hgy
      have HS1 := Lib.hid hs1
      have HS2 := Lib.hid hs2
      have HSO := Lib.hid hso
      have HSG := Lib.hid hsg
      have HZS := Lib.hid hzS
      have HVR := Lib.hid hvr
      have HAR := Lib.hid har
      have HYV := Lib.hid hyv
      have HXR := Lib.hid hxr
      have HYR := Lib.hid hyr
      have HF := Lib.hid hF
      have HFR0 := Lib.hid hfr
      have HFR := Lib.hid (fun W (h : Below wr.heap.size wr W) => (show W.cell? ⟨w12.heap.size, k, none⟩ = some (.string F) by rw [← hF]; exact field_cell (row_below hfr h) hlt))
      clear hF hFm hfr hxr hyr hvr har hyv hgx hgy hs1 hs2 hso hsg hzS hGX hGY hSE hsc hbr hB

      have hs := fun W (h : Below wr.heap.size wr W) => (show W.cell? ⟨w3.heap.size, 0, none⟩ = some (.string a.id) ∧ W.cell? ⟨w3.heap.size, 1, none⟩ = some (.string a.ti) ∧ W.cell? ⟨w3.heap.size, 2, none⟩ = some (.int .i64 a.st) ∧ W.cell? ⟨w3.heap.size, 3, none⟩ = some (.int .i64 a.lg) ∧ W.cell? ⟨w3.heap.size, 4, none⟩ = some (.string a.ru.fq) ∧ W.cell? ⟨w3.heap.size, 5, none⟩ = some (.int .i64 a.ru.ev) ∧ W.cell? ⟨w3.heap.size, 6, none⟩ = some (.slice a1 n1 c1) ∧ W.cell? ⟨w3.heap.size, 7, none⟩ = some (.int .i64 a.ru.ct) ∧ W.cell? ⟨w3.heap.size, 8, none⟩ = some (.int .i64 a.ru.un) ∧ W.cell? ⟨w3.heap.size, 9, none⟩ = some (.slice a2 n2 c2) ∧ W.cell? ⟨w3.heap.size, 10, none⟩ = some (.slice a3 n3 c3) ∧ W.cell? ⟨w12.heap.size, k, none⟩ = some (.string F) from by obtain ⟨h0, h1, h2, h3, h4, h5, h6, h7, h8, h9, h10⟩ := cells11 (row_below HXR.out h); exact ⟨h0, h1, h2, h3, h4, h5, h6, h7, h8, h9, h10, HFR.out _ h⟩)
      have HS := Lib.hid hs
      have hda : Below wr.heap.size wr (wr.alloc (.cells zeroV 38)) := (Below.refl _ _).alloc (Nat.le_refl _) _
      have HACC0 := Lib.hid hda
      have HACC := Lib.hid (show Below wr.heap.size wr (wr.alloc (.cells zeroV 38)).drew from below_draw hda 1)
      have HZN := Lib.hid (show (wr.alloc (.cells zeroV 38)).drew.heap[wr.heap.size]? = some (.cells zeroV 38) from heap_new wr _)
      have hacc : Below wr.heap.size wr wr.drew := below_draw (Below.refl _ _) 1
      clear hs hda
      go_wp2_with fail
      go_cut [12, 13] from 54 to 114 (fun s12 s13 wc => SetAt a .nilIface wr s12 s13 wc)
      case first =>
        go_region_held3 (fun W => W.cell? ⟨w3.heap.size, 0, none⟩ = some (.string a.id) ∧ W.cell? ⟨w3.heap.size, 1, none⟩ = some (.string a.ti) ∧ W.cell? ⟨w3.heap.size, 2, none⟩ = some (.int .i64 a.st) ∧ W.cell? ⟨w3.heap.size, 3, none⟩ = some (.int .i64 a.lg) ∧ W.cell? ⟨w3.heap.size, 4, none⟩ = some (.string a.ru.fq) ∧ W.cell? ⟨w3.heap.size, 5, none⟩ = some (.int .i64 a.ru.ev) ∧ W.cell? ⟨w3.heap.size, 6, none⟩ = some (.slice a1 n1 c1) ∧ W.cell? ⟨w3.heap.size, 7, none⟩ = some (.int .i64 a.ru.ct) ∧ W.cell? ⟨w3.heap.size, 8, none⟩ = some (.int .i64 a.ru.un) ∧ W.cell? ⟨w3.heap.size, 9, none⟩ = some (.slice a2 n2 c2) ∧ W.cell? ⟨w3.heap.size, 10, none⟩ = some (.slice a3 n3 c3) ∧ W.cell? ⟨w12.heap.size, k, none⟩ = some (.string F))
          (first
            | with_reducible exact HS.out _ hacc
            | with_reducible exact HS.out _ HACC.out
            | with_reducible exact HS.out _ HACC0.out
            | with_reducible exact HS.out _ (hacc.alloc hacc.size _)
            | ((with_reducible refine HS.out _ (hacc.trans ((only11 ..).below ?_)))
               (first | exact hpz | exact Nat.le_refl _)))
          (first
            | ((with_reducible refine (HGX.out _ hacc).mono ?_)
               rintro e5 w5 ⟨rfl, hb5⟩
               replace hacc := hacc.trans (hb5.mono hacc.size))
            | ((with_reducible refine (HGX.out _ HACC.out).mono ?_)
               rintro e5 w5 ⟨rfl, hb5⟩
               have hz5 := row_below HZN.out hb5
               have hpz := Nat.le_refl wr.heap.size
               replace hacc := HACC.out.trans (hb5.mono HACC.out.size))
            | ((with_reducible refine (HS1.out _ hacc).mono ?_)
               rintro e6 w6 ⟨u1, u2, u3, rfl, hr6, hof6, hb6⟩
               obtain ⟨g1, o1, rfl⟩ := hr6.d.shape
               obtain ⟨g2, o2, rfl⟩ := hr6.s.shape
               obtain ⟨g3, o3, rfl⟩ := hr6.m.shape
               (first
                 | (have hz6 := row_below hz5 hb6
                    have hq6 := hof6 _ (Array.getElem?_eq_some_iff.1 hz5).1
                    replace hacc := hacc.trans (hb6.mono hacc.size)
                    obtain ⟨kz0, kz1, kz2, kz3, kz4, kz5, kz6, kz7, kz8, kz9, kz10⟩ := cells11 hz6
                    obtain ⟨ky0, ky1, ky2, ky3, ky4, ky5, ky6, ky7, ky8, ky9, ky10⟩ := frozen11 hz6)
                 | replace hacc := hacc.trans (hb6.mono hacc.size)))
            | ((with_reducible refine (HS1.out _ (hacc.alloc hacc.size _)).mono ?_)
               rintro e6 w6 ⟨u1, u2, u3, rfl, hr6, hof6, hb6⟩
               obtain ⟨g1, o1, rfl⟩ := hr6.d.shape
               obtain ⟨g2, o2, rfl⟩ := hr6.s.shape
               obtain ⟨g3, o3, rfl⟩ := hr6.m.shape
               have hz5 := heap_new w5 (.cells zeroV 38)
               have hz6 := row_below hz5 hb6
               have hq6 := hof6 _ (Array.getElem?_eq_some_iff.1 hz5).1
               have hpz := hacc.size
               replace hacc := (hacc.alloc hacc.size _).trans (hb6.mono (hacc.alloc hacc.size _).size)
               obtain ⟨kz0, kz1, kz2, kz3, kz4, kz5, kz6, kz7, kz8, kz9, kz10⟩ := cells11 hz6
               obtain ⟨ky0, ky1, ky2, ky3, ky4, ky5, ky6, ky7, ky8, ky9, ky10⟩ := frozen11 hz6))
        all_goals go_wp2_with fail
        all_goals go_meet
        all_goals (first
          | exact ⟨_, _, _, _, _, _, _, _, _, _, rfl, rfl, put11_row hz6, hacc.trans ((only11 ..).below hpz), (only11 ..).rv hr6 hq6.1 hq6.2.1 hq6.2.2⟩
          | exact ⟨_, _, _, _, _, _, _, _, _, _, rfl, rfl, heap_new w6 _, hacc.alloc hacc.size _, hr6.below ((Below.refl _ w6).alloc (Nat.le_refl _) _)⟩)
      case rest =>

      obtain ⟨p, e1, l1, o1, e2, l2, o2, e3, l3, o3, rfl, rfl, hq15, hb15, hr15⟩ := hcut
      have hse := rsameEvent_any a a _ _ _ _ _ _ wc hr15 (HAR.out.below hb15) HZA.out HZA.out
      rw [eqE_self] at hse
      have HSE := Lib.hid hse
      have HB15 := Lib.hid hb15
      obtain ⟨j0, j1, j2, j3, j4, j5, j6, j7, j8, j9, j10⟩ := cells11 hq15
      obtain ⟨k0, k1, k2, k3, k4, k5, k6, k7, k8, k9, k10⟩ := cells11 (row_below HXR.out hb15)
      clear hse hq15 hb15 hr15 HS HACC HACC0 HZN hacc
      go_wp2_with fail
      (with_reducible refine HSE.out.mono ?_)
      rintro e16 w16 ⟨rfl, hb16⟩
      have HB16 := Lib.hid (HB15.out.trans (hb16.mono HB15.out.size))
      have hgy16 := fun W (h : Below w16.heap.size w16 W) => HGY.out W (HB16.out.trans (h.mono HB16.out.size))
      have hs16 := fun W (h : Below w16.heap.size w16 W) => HS2.out W (HB16.out.trans (h.mono HB16.out.size))
      have HGY16 := Lib.hid hgy16
      have HS16 := Lib.hid hs16
      have HX16 := Lib.hid (row_below HXR.out HB16.out)
      have HY16 := Lib.hid (row_below HYR.out HB16.out)
      have HF16 := Lib.hid (fun W (h : Below w16.heap.size w16 W) => HFR.out W (HB16.out.trans (h.mono HB16.out.size)))
      clear hb16 hgy16 hs16 HSE HB15 k0 k1 k2 k3 k4 k5 k6 k7 k8 k9 k10 j0 j1 j2 j3 j4 j5 j6 j7 j8 j9 j10

      have hs := fun W (h : Below w16.heap.size w16 W) => (show W.cell? ⟨w3.heap.size, 0, none⟩ = some (.string a.id) ∧ W.cell? ⟨w3.heap.size, 1, none⟩ = some (.string a.ti) ∧ W.cell? ⟨w3.heap.size, 2, none⟩ = some (.int .i64 a.st) ∧ W.cell? ⟨w3.heap.size, 3, none⟩ = some (.int .i64 a.lg) ∧ W.cell? ⟨w3.heap.size, 4, none⟩ = some (.string a.ru.fq) ∧ W.cell? ⟨w3.heap.size, 5, none⟩ = some (.int .i64 a.ru.ev) ∧ W.cell? ⟨w3.heap.size, 6, none⟩ = some (.slice a1 n1 c1) ∧ W.cell? ⟨w3.heap.size, 7, none⟩ = some (.int .i64 a.ru.ct) ∧ W.cell? ⟨w3.heap.size, 8, none⟩ = some (.int .i64 a.ru.un) ∧ W.cell? ⟨w3.heap.size, 9, none⟩ = some (.slice a2 n2 c2) ∧ W.cell? ⟨w3.heap.size, 10, none⟩ = some (.slice a3 n3 c3) ∧ W.cell? ⟨w5.heap.size, 0, none⟩ = some (.string b.id) ∧ W.cell? ⟨w5.heap.size, 1, none⟩ = some (.string b.ti) ∧ W.cell? ⟨w5.heap.size, 2, none⟩ = some (.int .i64 b.st) ∧ W.cell? ⟨w5.heap.size, 3, none⟩ = some (.int .i64 b.lg) ∧ W.cell? ⟨w5.heap.size, 4, none⟩ = some (.string b.ru.fq) ∧ W.cell? ⟨w5.heap.size, 5, none⟩ = some (.int .i64 b.ru.ev) ∧ W.cell? ⟨w5.heap.size, 6, none⟩ = some (.slice b1 m1 d1) ∧ W.cell? ⟨w5.heap.size, 7, none⟩ = some (.int .i64 b.ru.ct) ∧ W.cell? ⟨w5.heap.size, 8, none⟩ = some (.int .i64 b.ru.un) ∧ W.cell? ⟨w5.heap.size, 9, none⟩ = some (.slice b2 m2 d2) ∧ W.cell? ⟨w5.heap.size, 10, none⟩ = some (.slice b3 m3 d3) ∧ W.cell? ⟨w12.heap.size, k, none⟩ = some (.string F) from by obtain ⟨h0, h1, h2, h3, h4, h5, h6, h7, h8, h9, h10⟩ := cells11 (row_below HX16.out h); obtain ⟨i0, i1, i2, i3, i4, i5, i6, i7, i8, i9, i10⟩ := cells11 (row_below HY16.out h); exact ⟨h0, h1, h2, h3, h4, h5, h6, h7, h8, h9, h10, i0, i1, i2, i3, i4, i5, i6, i7, i8, i9, i10, HF16.out _ h⟩)
      have HS := Lib.hid hs
      have hda : Below w16.heap.size w16 (w16.alloc (.cells zeroV 38)) := (Below.refl _ _).alloc (Nat.le_refl _) _
      have HACC0 := Lib.hid hda
      have HACC := Lib.hid (show Below w16.heap.size w16 (w16.alloc (.cells zeroV 38)).drew from below_draw hda 1)
      have HZN := Lib.hid (show (w16.alloc (.cells zeroV 38)).drew.heap[w16.heap.size]? = some (.cells zeroV 38) from heap_new w16 _)
      have hacc : Below w16.heap.size w16 w16.drew := below_draw (Below.refl _ _) 1
      clear hs hda
      go_wp2_with fail
      go_cut [14, 13] from 54 to 114 (fun s12 s13 wc => SetAt SE (errV er sc) w16 s12 s13 wc)
      case first =>
        go_region_held3 (fun W => W.cell? ⟨w3.heap.size, 0, none⟩ = some (.string a.id) ∧ W.cell? ⟨w3.heap.size, 1, none⟩ = some (.string a.ti) ∧ W.cell? ⟨w3.heap.size, 2, none⟩ = some (.int .i64 a.st) ∧ W.cell? ⟨w3.heap.size, 3, none⟩ = some (.int .i64 a.lg) ∧ W.cell? ⟨w3.heap.size, 4, none⟩ = some (.string a.ru.fq) ∧ W.cell? ⟨w3.heap.size, 5, none⟩ = some (.int .i64 a.ru.ev) ∧ W.cell? ⟨w3.heap.size, 6, none⟩ = some (.slice a1 n1 c1) ∧ W.cell? ⟨w3.heap.size, 7, none⟩ = some (.int .i64 a.ru.ct) ∧ W.cell? ⟨w3.heap.size, 8, none⟩ = some (.int .i64 a.ru.un) ∧ W.cell? ⟨w3.heap.size, 9, none⟩ = some (.slice a2 n2 c2) ∧ W.cell? ⟨w3.heap.size, 10, none⟩ = some (.slice a3 n3 c3) ∧ W.cell? ⟨w5.heap.size, 0, none⟩ = some (.string b.id) ∧ W.cell? ⟨w5.heap.size, 1, none⟩ = some (.string b.ti) ∧ W.cell? ⟨w5.heap.size, 2, none⟩ = some (.int .i64 b.st) ∧ W.cell? ⟨w5.heap.size, 3, none⟩ = some (.int .i64 b.lg) ∧ W.cell? ⟨w5.heap.size, 4, none⟩ = some (.string b.ru.fq) ∧ W.cell? ⟨w5.heap.size, 5, none⟩ = some (.int .i64 b.ru.ev) ∧ W.cell? ⟨w5.heap.size, 6, none⟩ = some (.slice b1 m1 d1) ∧ W.cell? ⟨w5.heap.size, 7, none⟩ = some (.int .i64 b.ru.ct) ∧ W.cell? ⟨w5.heap.size, 8, none⟩ = some (.int .i64 b.ru.un) ∧ W.cell? ⟨w5.heap.size, 9, none⟩ = some (.slice b2 m2 d2) ∧ W.cell? ⟨w5.heap.size, 10, none⟩ = some (.slice b3 m3 d3) ∧ W.cell? ⟨w12.heap.size, k, none⟩ = some (.string F))
          (first
            | with_reducible exact HS.out _ hacc
            | with_reducible exact HS.out _ HACC.out
            | with_reducible exact HS.out _ HACC0.out
            | with_reducible exact HS.out _ (hacc.alloc hacc.size _)
            | ((with_reducible refine HS.out _ (hacc.trans ((only11 ..).below ?_)))
               (first | exact hpz | exact Nat.le_refl _)))
          (first
            | ((with_reducible refine (HGY16.out _ hacc).mono ?_)
               rintro e5 v5 ⟨rfl, hb5⟩
               replace hacc := hacc.trans (hb5.mono hacc.size))
            | ((with_reducible refine (HGY16.out _ HACC.out).mono ?_)
               rintro e5 v5 ⟨rfl, hb5⟩
               have hz5 := row_below HZN.out hb5
               have hpz := Nat.le_refl w16.heap.size
               replace hacc := HACC.out.trans (hb5.mono HACC.out.size))
            | ((with_reducible refine (HS16.out _ hacc).mono ?_)
               rintro e6 w6 ⟨u1, u2, u3, rfl, hr6, hof6, hb6⟩
               obtain ⟨g1, o1, rfl⟩ := hr6.d.shape
               obtain ⟨g2, o2, rfl⟩ := hr6.s.shape
               obtain ⟨g3, o3, rfl⟩ := hr6.m.shape
               (first
                 | (have hz6 := row_below hz5 hb6
                    have hq6 := hof6 _ (Array.getElem?_eq_some_iff.1 hz5).1
                    replace hacc := hacc.trans (hb6.mono hacc.size)
                    obtain ⟨kz0, kz1, kz2, kz3, kz4, kz5, kz6, kz7, kz8, kz9, kz10⟩ := cells11 hz6
                    obtain ⟨ky0, ky1, ky2, ky3, ky4, ky5, ky6, ky7, ky8, ky9, ky10⟩ := frozen11 hz6)
                 | replace hacc := hacc.trans (hb6.mono hacc.size)))
            | ((with_reducible refine (HS16.out _ (hacc.alloc hacc.size _)).mono ?_)
               rintro e6 w6 ⟨u1, u2, u3, rfl, hr6, hof6, hb6⟩
               obtain ⟨g1, o1, rfl⟩ := hr6.d.shape
               obtain ⟨g2, o2, rfl⟩ := hr6.s.shape
               obtain ⟨g3, o3, rfl⟩ := hr6.m.shape
               have hz5 := heap_new v5 (.cells zeroV 38)
               have hz6 := row_below hz5 hb6
               have hq6 := hof6 _ (Array.getElem?_eq_some_iff.1 hz5).1
               have hpz := hacc.size
               replace hacc := (hacc.alloc hacc.size _).trans (hb6.mono (hacc.alloc hacc.size _).size)
               obtain ⟨kz0, kz1, kz2, kz3, kz4, kz5, kz6, kz7, kz8, kz9, kz10⟩ := cells11 hz6
               obtain ⟨ky0, ky1, ky2, ky3, ky4, ky5, ky6, ky7, ky8, ky9, ky10⟩ := frozen11 hz6))
        all_goals go_wp2_with fail
        all_goals go_meet
        all_goals (first
          | exact ⟨_, _, _, _, _, _, _, _, _, _, rfl, rfl, put11_row hz6, hacc.trans ((only11 ..).below hpz), (only11 ..).rv hr6 hq6.1 hq6.2.1 hq6.2.2⟩
          | exact ⟨_, _, _, _, _, _, _, _, _, _, rfl, rfl, heap_new w6 _, hacc.alloc hacc.size _, hr6.below ((Below.refl _ w6).alloc (Nat.le_refl _) _)⟩)
      case rest =>

      obtain ⟨p2, e1', l1', o1', e2', l2', o2', e3', l3', o3', rfl, rfl, hq18, hb18, hr18⟩ := hcut
      have HQ18 := Lib.hid hq18
      have HR18 := Lib.hid hr18
      have HB18 := Lib.hid (HB16.out.trans (hb18.mono HB16.out.size))
      clear hq18 hb18 hr18 HS HACC HACC0 HZN hacc
      go_wp2_with fail
      go_cut [13, 114] from 54 to 114 (fun s13 s114 wd => s114 = .bool false ∧ Below wc.heap.size wc wd)
      case first =>
        by_cases hs0 : sc = 0
        case neg =>
          obtain ⟨q, rfl⟩ : ∃ q, sc = q + 1 := ⟨sc - 1, by omega⟩
          clear hs0
          simp only [errV]
          go_quiet (fail)
          all_goals go_wp2_with fail
          all_goals go_meet
          all_goals exact ⟨rfl, by first | exact below_draw (Below.refl _ _) 1 | exact Below.refl _ _ | exact below_draw (Below.refl _ _) _⟩
        case pos =>
          subst hs0
          simp only [errV]
          have hb0 := HSG.out rfl
          have hgo := fun W (h : Below wc.heap.size wc W) => get_any SE _ _ _ F er W ((HVR.out.below HB18.out).below h).tb (HR18.out.below h) HZS.out (by have := (badE_zero hb0).2.2.2.1; omega) (by have := (badE_zero hb0).2.2.2.1; omega) (movesC ((HVR.out.below HB18.out).below h).tb (HR18.out.below h).m (etextW_le hb0))
          have hgy18 := fun W (h : Below wc.heap.size wc W) => HGY.out W (HB18.out.trans (h.mono HB18.out.size))
          simp only [HSO.out rfl] at hgo
          have HGO := Lib.hid hgo
          have HGY18 := Lib.hid hgy18
          have HY18 := Lib.hid (row_below HYR.out HB18.out)
          have hs := fun W (h : Below wc.heap.size wc W) => (show W.cell? ⟨p2, 0, none⟩ = some (.string SE.id) ∧ W.cell? ⟨p2, 1, none⟩ = some (.string SE.ti) ∧ W.cell? ⟨p2, 2, none⟩ = some (.int .i64 SE.st) ∧ W.cell? ⟨p2, 3, none⟩ = some (.int .i64 SE.lg) ∧ W.cell? ⟨p2, 4, none⟩ = some (.string SE.ru.fq) ∧ W.cell? ⟨p2, 5, none⟩ = some (.int .i64 SE.ru.ev) ∧ W.cell? ⟨p2, 6, none⟩ = some (.slice e1' l1' o1') ∧ W.cell? ⟨p2, 7, none⟩ = some (.int .i64 SE.ru.ct) ∧ W.cell? ⟨p2, 8, none⟩ = some (.int .i64 SE.ru.un) ∧ W.cell? ⟨p2, 9, none⟩ = some (.slice e2' l2' o2') ∧ W.cell? ⟨p2, 10, none⟩ = some (.slice e3' l3' o3') ∧ W.cell? ⟨w5.heap.size, 0, none⟩ = some (.string b.id) ∧ W.cell? ⟨w5.heap.size, 1, none⟩ = some (.string b.ti) ∧ W.cell? ⟨w5.heap.size, 2, none⟩ = some (.int .i64 b.st) ∧ W.cell? ⟨w5.heap.size, 3, none⟩ = some (.int .i64 b.lg) ∧ W.cell? ⟨w5.heap.size, 4, none⟩ = some (.string b.ru.fq) ∧ W.cell? ⟨w5.heap.size, 5, none⟩ = some (.int .i64 b.ru.ev) ∧ W.cell? ⟨w5.heap.size, 6, none⟩ = some (.slice b1 m1 d1) ∧ W.cell? ⟨w5.heap.size, 7, none⟩ = some (.int .i64 b.ru.ct) ∧ W.cell? ⟨w5.heap.size, 8, none⟩ = some (.int .i64 b.ru.un) ∧ W.cell? ⟨w5.heap.size, 9, none⟩ = some (.slice b2 m2 d2) ∧ W.cell? ⟨w5.heap.size, 10, none⟩ = some (.slice b3 m3 d3) ∧ W.cell? ⟨w12.heap.size, k, none⟩ = some (.string F) from by obtain ⟨h0, h1, h2, h3, h4, h5, h6, h7, h8, h9, h10⟩ := cells11 (row_below HQ18.out h); obtain ⟨i0, i1, i2, i3, i4, i5, i6, i7, i8, i9, i10⟩ := cells11 (row_below HY18.out h); exact ⟨h0, h1, h2, h3, h4, h5, h6, h7, h8, h9, h10, i0, i1, i2, i3, i4, i5, i6, i7, i8, i9, i10, HFR.out _ (HB18.out.trans (h.mono HB18.out.size))⟩)
          have HS := Lib.hid hs
          have hacc : Below wc.heap.size wc wc.drew := below_draw (Below.refl _ _) 1
          clear hb0 hgo hgy18 hs
          go_region_held3 (fun W => W.cell? ⟨p2, 0, none⟩ = some (.string SE.id) ∧ W.cell? ⟨p2, 1, none⟩ = some (.string SE.ti) ∧ W.cell? ⟨p2, 2, none⟩ = some (.int .i64 SE.st) ∧ W.cell? ⟨p2, 3, none⟩ = some (.int .i64 SE.lg) ∧ W.cell? ⟨p2, 4, none⟩ = some (.string SE.ru.fq) ∧ W.cell? ⟨p2, 5, none⟩ = some (.int .i64 SE.ru.ev) ∧ W.cell? ⟨p2, 6, none⟩ = some (.slice e1' l1' o1') ∧ W.cell? ⟨p2, 7, none⟩ = some (.int .i64 SE.ru.ct) ∧ W.cell? ⟨p2, 8, none⟩ = some (.int .i64 SE.ru.un) ∧ W.cell? ⟨p2, 9, none⟩ = some (.slice e2' l2' o2') ∧ W.cell? ⟨p2, 10, none⟩ = some (.slice e3' l3' o3') ∧ W.cell? ⟨w5.heap.size, 0, none⟩ = some (.string b.id) ∧ W.cell? ⟨w5.heap.size, 1, none⟩ = some (.string b.ti) ∧ W.cell? ⟨w5.heap.size, 2, none⟩ = some (.int .i64 b.st) ∧ W.cell? ⟨w5.heap.size, 3, none⟩ = some (.int .i64 b.lg) ∧ W.cell? ⟨w5.heap.size, 4, none⟩ = some (.string b.ru.fq) ∧ W.cell? ⟨w5.heap.size, 5, none⟩ = some (.int .i64 b.ru.ev) ∧ W.cell? ⟨w5.heap.size, 6, none⟩ = some (.slice b1 m1 d1) ∧ W.cell? ⟨w5.heap.size, 7, none⟩ = some (.int .i64 b.ru.ct) ∧ W.cell? ⟨w5.heap.size, 8, none⟩ = some (.int .i64 b.ru.un) ∧ W.cell? ⟨w5.heap.size, 9, none⟩ = some (.slice b2 m2 d2) ∧ W.cell? ⟨w5.heap.size, 10, none⟩ = some (.slice b3 m3 d3) ∧ W.cell? ⟨w12.heap.size, k, none⟩ = some (.string F))
            (with_reducible exact HS.out _ hacc)
            (first
              | ((with_reducible refine (HGO.out _ hacc).mono ?_)
                 rintro e5 w5 ⟨rfl, hb5⟩
                 replace hacc := hacc.trans (hb5.mono hacc.size)
                 clear hb5)
              | ((with_reducible refine (HGY18.out _ hacc).mono ?_)
                 rintro e5 w5 ⟨rfl, hb5⟩
                 replace hacc := hacc.trans (hb5.mono hacc.size)
                 clear hb5))
          all_goals go_wp2_with fail
          all_goals go_meet
          all_goals refine ⟨?_, hacc⟩
          all_goals (first | trivial | rfl | simp)
      case rest =>
        obtain ⟨rfl, hb19⟩ := hcut
        have HB19 := Lib.hid (HB18.out.trans (hb19.mono HB18.out.size))
        clear hb19
        go_wp2_with fail
        go_roundw
        case rel => exact ⟨k + 1, by omega, by go_num, HBR.out.trans (HB19.out.mono HBR.out.size)⟩
        case measure => simp [intOf]; omega

end Evt
end Go.Proofs.YtkhkhbeolhhomaaGreatDoor
