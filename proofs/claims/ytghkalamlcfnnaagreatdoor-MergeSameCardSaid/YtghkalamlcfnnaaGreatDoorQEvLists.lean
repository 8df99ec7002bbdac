/- package event: froms, lists, Check. -/
import Derived.Test.YtghkalamlcfnnaaGreatDoorQA5
import Derived.Laws.EntriesVeiled
namespace Go.Proofs.YtghkalamlcfnnaaGreatDoor
open Go Go.RowKit Go.Shelf Lmd
attribute [local go_sem] Oper.semAt_some
namespace Evt
open Rul Day Cand Er
structure E7 (w : World) (e : Nat → Addr) : Prop where
  s0 : Frame.Sent w 1 (tx [116, 101, 120, 116]) (e 0)
  s1 : Frame.Sent w 0 (tx [98, 111, 117, 110, 100]) (e 1)
  s2 : Frame.Sent w 6 (tx [115, 104, 97, 112, 101]) (e 2)
  s3 : Frame.Sent w 3 (tx [110, 97, 109, 101]) (e 3)
  s5 : Frame.Sent w 7 (tx [101, 120, 105, 115, 116]) (e 5)
  s6 : Frame.Sent w 2 (tx [102, 117, 108, 108]) (e 6)
  s7 : Frame.Sent w 8 (tx [111, 114, 100, 101, 114]) (e 7)
theorem E7.below {w w' : World} {e : Nat → Addr} (h : E7 w e) (hb : Below w.heap.size w w') : E7 w' e := ⟨h.s0.below hb, h.s1.below hb, h.s2.below hb, h.s3.below hb, h.s5.below hb, h.s6.below hb, h.s7.below hb⟩
theorem E7.four {w : World} {e : Nat → Addr} (h : E7 w e) : E4 w e := ⟨h.s1, h.s2, h.s3, h.s7⟩
theorem seven {w : World} {e : Nat → Addr} (h : Errs w e) : E7 w e := ⟨h.s0, h.s1, h.s2, h.s3, h.s5, h.s6, h.s7⟩
abbrev Ev.cells (e : Ev) (vd vs vm : Value) : Array Value := #[.string e.id, .string e.ti, .int .i64 e.st, .int .i64 e.lg, .string e.ru.fq, .int .i64 e.ru.ev, vd, .int .i64 e.ru.ct, .int .i64 e.ru.un, vs, vm]
theorem cells11 {w : World} {b : Nat} {a0 a1 a2 a3 a4 a5 a6 a7 a8 a9 a10 : Value} {t : TypeId} (h : w.heap[b]? = some (.cells #[a0, a1, a2, a3, a4, a5, a6, a7, a8, a9, a10] t (0, 0))) :
    w.cell? ⟨b, 0, none⟩ = some a0 ∧ w.cell? ⟨b, 1, none⟩ = some a1 ∧ w.cell? ⟨b, 2, none⟩ = some a2 ∧ w.cell? ⟨b, 3, none⟩ = some a3 ∧ w.cell? ⟨b, 4, none⟩ = some a4 ∧ w.cell? ⟨b, 5, none⟩ = some a5 ∧ w.cell? ⟨b, 6, none⟩ = some a6 ∧ w.cell? ⟨b, 7, none⟩ = some a7 ∧ w.cell? ⟨b, 8, none⟩ = some a8 ∧ w.cell? ⟨b, 9, none⟩ = some a9 ∧ w.cell? ⟨b, 10, none⟩ = some a10 := by
  simp [World.cell?, h]
theorem froms_len (l : List (Int × Int)) : (froms l).length = l.length := by simp [froms]
theorem froms_snoc {l : List (Int × Int)} {k : Nat} (h : k < l.length) : froms (l.take (k + 1)) = froms (l.take k) ++ [(ml l k).1] := by
  rw [List.take_succ_eq_append_getElem h, froms, List.map_append, ml_lt h]; rfl
set_option maxRecDepth 100000 in
set_option maxHeartbeats 2000000 in
theorem froms_any (e : Ev) (vd vs vm : Value) (w : World) (hr : MReads w vm e.mv) (hl : e.mv.length ≤ 1000000) :
    Calls Tryz.prog 170 #[.agg (e.cells vd vs vm)] w fun er w' => ∃ v, er = .returned v ∧ Ints.Reads w' v (froms e.mv) ∧ Below w.heap.size w w' := by
  obtain ⟨a, cap, rfl⟩ := hr.shape
  obtain ⟨W, hW⟩ : ∃ W, w.alloc (.cells (e.cells vd vs (.slice a e.mv.length cap)) 40) = W := ⟨_, rfl⟩
  have hB : Below w.heap.size w W := by rw [← hW]; exact (Below.refl _ w).alloc (Nat.le_refl _) _
  have hx : W.heap[w.heap.size]? = some (.cells (e.cells vd vs (.slice a e.mv.length cap)) 40) := by rw [← hW]; exact heap_new w _
  obtain ⟨k0, k1, k2, k3, k4, k5, k6, k7, k8, k9, k10⟩ := cells11 hx
  have HR := Lib.hid (hr.below hB)
  obtain ⟨mv, hmv⟩ : ∃ mv, e.mv = mv := ⟨_, rfl⟩
  rw [hmv] at hl hW HR k10 ⊢
  have HW := Lib.hid hW
  have HB := Lib.hid hB
  obtain ⟨n, hn⟩ : ∃ n, mv.length = n := ⟨_, rfl⟩
  have HN := Lib.hid hn
  rw [hn] at hl HW HR k10 ⊢
  clear hr hW hB hx hmv hn
  go_enter Tryz.func170, Tryz.ntmps170
  go_wp2_with fail
  rw [HW.out]
  go_loopw [3, 9] (fun v3 p wr => ∃ k : Nat, k ≤ n ∧ p = .int .i64 (k : Int) ∧ (∃ a c, v3 = .slice a k c) ∧ wr.ownsRow W.heap.size 3 1 v3 (froms (mv.take k)).length (cellsOf (froms (mv.take k))) ∧ Below W.heap.size W wr) (fun _ p _ => n - (intOf p).toNat)
  case atStart => exact ⟨0, Nat.zero_le _, rfl, ⟨none, 0, rfl⟩, ⟨by simp [froms, cellsOf], .inl ⟨rfl, rfl⟩⟩, Below.refl _ _⟩
  case round =>
    obtain ⟨k, hk, rfl, ⟨a7, c7, rfl⟩, hown, hbr⟩ := hrel
    have hsr := hbr.size
    have HOWN := Lib.hid hown
    have HBR := Lib.hid hbr
    have hfl : (froms (mv.take k)).length = k := by rw [froms_len, List.length_take, HN.out]; omega
    by_cases hlt : k < n
    · obtain ⟨-, b, o, ha9, hc⟩ := (HR.out.below hbr).at (by intro h; have := HN.out; rw [h] at this; simp at this; omega)
      subst ha9
      obtain ⟨c1, c2⟩ := hc k (by rw [HN.out]; exact hlt)
      have hsn := froms_snoc (l := mv) (k := k) (by rw [HN.out]; exact hlt)
      obtain ⟨m1, hm1⟩ : ∃ m1, (ml mv k).1 = m1 := ⟨_, rfl⟩
      obtain ⟨m2, hm2⟩ : ∃ m2, (ml mv k).2 = m2 := ⟨_, rfl⟩
      rw [hm1] at c1 hsn
      rw [hm2] at c2
      have HSN := Lib.hid hsn
      have HFL := Lib.hid hfl
      clear hown hbr hc hm1 hm2 hsn hfl
      go_wp2_with (at_builtin
                   refine append_int rfl (.tmp 13) (.tmp 16) rfl W.heap.size (.slice a7 k c7) (froms (mv.take k)) rfl ((HOWN.out.alloc _).alloc _) (wr.heap.size + 1) m1 rfl ?_ (by rw [HFL.out]; omega) (by simp; omega) ?_
                   · have h := heap_new (wr.alloc (.cells #[.int .i64 m1, .int .i64 m2] 95)) (.cells #[.int .i64 m1] 3)
                     rw [World.size_alloc] at h
                     exact cell_of h rfl
                   intro a1 c2 wb hown' hbb
                   rw [HFL.out] at hown' ⊢
                   have HOB := Lib.hid hown'
                   have HBB := Lib.hid (HBR.out.trans ((((Below.refl _ wr).alloc hsr _).alloc (by simp; omega) _).trans hbb))
                   clear hown' hbb)
      go_roundw
      case rel => exact ⟨k + 1, by omega, by simp, ⟨a1, c2, rfl⟩, by rw [HSN.out]; exact HOB.out, HBB.out⟩
      case measure => simp [intOf]; omega
    · obtain rfl : k = n := by omega
      have htk : mv.take mv.length = mv := List.take_length
      rw [HN.out] at htk
      rw [htk] at HOWN
      have hrd := reads_own HOWN.out
      have HRD := Lib.hid hrd
      have HBX := Lib.hid (HB.out.trans (hbr.mono HB.out.size))
      clear hown hbr htk hrd
      go_wp2
      go_ret
      exact ⟨_, rfl, HRD.out, HBX.out⟩
theorem bad1_any (d : Int) (w : World) : Calls Tryz.prog 171 #[.int .i64 d] w fun e w' => e = .returned (.bool (!rightB d)) ∧ w' = w := by
  have hR := fun W => right_any d W
  obtain ⟨q, hq⟩ : ∃ q, rightB d = q := ⟨_, rfl⟩
  have hq2 : decide (0 ≤ d ∧ d ≤ 73048) = q := hq
  rw [hq2] at hR
  rw [hq]
  have HR := Lib.hid hR
  clear hq hq2 hR
  go_enter Tryz.func171, Tryz.ntmps171
  go_wp2_with (go_at_call 113; refine (HR.out _).mono ?_; rintro e w' ⟨rfl, rfl⟩)
  go_ret
  exact ⟨rfl, rfl⟩
theorem bad1_pred (w : World) : PredAt Tryz.prog 171 #[] (fun x : Int => Value.int .i64 x) (fun d => !rightB d) w := fun W d _ =>
  (bad1_any d W).mono fun _ _ ⟨h1, h2⟩ => ⟨h1, 0, h2⟩
set_option maxHeartbeats 1000000 in
theorem bad2_pred (w : World) (B : Nat) (hB : B < w.heap.size) (hc : w.cell? ⟨B, 0, none⟩ = some (.func (.func 171) #[] #[])) :
    PredBelow Tryz.prog 175 #[.pointer (some ⟨B, 0, none⟩)] (fun x => .agg (encM x).toArray) (fun m => !rightB m.1 || !rightB m.2) w := fun W m hb => by
  have hc' : W.cell? ⟨B, 0, none⟩ = some (.func (.func 171) #[] #[]) := (hb.cell (p := ⟨B, 0, none⟩) hB).trans hc
  obtain ⟨m1, m2⟩ := m
  have hBW : B < W.heap.size := Nat.lt_of_lt_of_le hB hb.size
  have hne : B ≠ W.heap.size := by omega
  have h1 := fun W => bad1_any m1 W
  have h2 := fun W => bad1_any m2 W
  obtain ⟨q1, hq1⟩ : ∃ q, rightB m1 = q := ⟨_, rfl⟩
  obtain ⟨q2, hq2⟩ : ∃ q, rightB m2 = q := ⟨_, rfl⟩
  rw [hq1] at h1
  rw [hq2] at h2
  have H1 := Lib.hid h1
  have H2 := Lib.hid h2
  have HB := Lib.hid hb
  show Calls Tryz.prog 175 #[.agg #[.int .i64 m1, .int .i64 m2], .pointer (some ⟨B, 0, none⟩)] W fun e w' => e = .returned (.bool (!rightB m1 || !rightB m2)) ∧ Below w.heap.size w w'
  rw [hq1, hq2]
  clear h1 h2 hq1 hq2 hb hc
  cases q1 with
  | false =>
    go_enter Tryz.func175, Tryz.ntmps175
    go_wp2_with (refine (H1.out _).mono ?_; rintro e w' ⟨rfl, rfl⟩)
    go_ret
    exact ⟨rfl, HB.out.alloc HB.out.size _⟩
  | true =>
    go_enter Tryz.func175, Tryz.ntmps175
    go_wp2_with fail
    refine (H1.out _).mono ?_
    rintro e w' ⟨rfl, rfl⟩
    go_wp2_with fail
    refine (H2.out _).mono ?_
    rintro e w' ⟨rfl, rfl⟩
    go_wp2
    go_ret
    exact ⟨by cases q2 <;> rfl, HB.out.alloc HB.out.size _⟩
set_option maxHeartbeats 1000000 in
theorem bad3_pred (w : World) (B : Nat) (e : Ev) (vd vs vm : Value) (hrow : w.heap[B]? = some (.cells (e.cells vd vs vm) 40)) (hs : Ints.Reads w vs e.sk) (hl : e.sk.length ≤ 1000000) :
    PredAt Tryz.prog 176 #[.pointer (some ⟨B, 0, none⟩)] (fun x : Int => Value.int .i64 x) (fun d => e.sk.contains d) w := fun W d hb => by
  have k9 := (cells11 (row_below hrow hb)).2.2.2.2.2.2.2.2.2.1
  have H := hasInt_any e.sk vs d W (hs.below hb) hl
  show Calls Tryz.prog 176 #[.int .i64 d, .pointer (some ⟨B, 0, none⟩)] W fun e' w' => e' = .returned (.bool (e.sk.contains d)) ∧ ∃ q, w' = W.drewN q
  obtain ⟨q, hq⟩ : ∃ q, e.sk.contains d = q := ⟨_, rfl⟩
  rw [hq] at H ⊢
  have H := Lib.hid H
  clear hrow hs hq
  go_enter Tryz.func176, Tryz.ntmps176
  go_wp2_with (go_at_call 177; refine H.out.mono ?_; rintro e' w' ⟨rfl, rfl⟩)
  go_ret
  exact ⟨rfl, 0, rfl⟩
theorem badL_full {e : Ev} (h : 20 < e.sk.length ∨ 20 < e.mv.length) : badL e = 7 := by unfold badL; rw [if_pos h]
theorem badL_order {e : Ev} (h : ¬ (20 < e.sk.length ∨ 20 < e.mv.length)) (h2 : (riseB e.sk && riseB (froms e.mv)) = false) : badL e = 8 := by unfold badL; rw [if_neg h, if_pos h2]
theorem badL_bound {e : Ev} (h : ¬ (20 < e.sk.length ∨ 20 < e.mv.length)) (h2 : (riseB e.sk && riseB (froms e.mv)) = true) (h3 : (e.sk.all rightB && e.mv.all fun m => rightB m.1 && rightB m.2) = false) : badL e = 2 := by
  unfold badL; rw [if_neg h, h2, if_neg (by simp), if_pos h3]
theorem badL_exist {e : Ev} (h : ¬ (20 < e.sk.length ∨ 20 < e.mv.length)) (h2 : (riseB e.sk && riseB (froms e.mv)) = true) (h3 : (e.sk.all rightB && e.mv.all fun m => rightB m.1 && rightB m.2) = true) (h4 : (froms e.mv).any (e.sk.contains ·) = true) : badL e = 6 := by
  unfold badL; rw [if_neg h, h2, if_neg (by simp), h3, if_neg (by simp), if_pos h4]
theorem badL_none {e : Ev} (h : ¬ (20 < e.sk.length ∨ 20 < e.mv.length)) (h2 : (riseB e.sk && riseB (froms e.mv)) = true) (h3 : (e.sk.all rightB && e.mv.all fun m => rightB m.1 && rightB m.2) = true) (h4 : (froms e.mv).any (e.sk.contains ·) = false) : badL e = 0 := by
  unfold badL; rw [if_neg h, h2, if_neg (by simp), h3, if_neg (by simp), h4, if_neg (by simp)]
theorem any_not (xs : List Int) : xs.any (fun d => !rightB d) = !xs.all rightB := by induction xs with | nil => rfl | cons x t ih => simp [ih]
theorem any_not2 (xs : List (Int × Int)) : xs.any (fun m => !rightB m.1 || !rightB m.2) = !xs.all fun m => rightB m.1 && rightB m.2 := by induction xs with | nil => rfl | cons x t ih => simp [ih]
set_option maxRecDepth 100000 in
set_option maxHeartbeats 4000000 in
theorem lists_any (e : Ev) (vd vs vm : Value) (er : Nat → Addr) (w : World) (he : E7 w er) (hr : Rv w e vd vs vm) (hl1 : e.sk.length ≤ 1000000) (hl2 : e.mv.length ≤ 1000000) :
    Calls Tryz.prog 115 #[.agg (e.cells vd vs vm)] w fun r w' => r = .returned (errV er (badL e)) ∧ Below w.heap.size w w' := by
  obtain ⟨a9, c9, rfl⟩ := hr.s.shape
  obtain ⟨a10, c10, rfl⟩ := hr.m.shape
  obtain ⟨W, hW⟩ : ∃ W, w.alloc (.cells (e.cells vd (.slice a9 e.sk.length c9) (.slice a10 e.mv.length c10)) 40) = W := ⟨_, rfl⟩
  have hB : Below w.heap.size w W := by rw [← hW]; exact (Below.refl _ w).alloc (Nat.le_refl _) _
  have hx : W.heap[w.heap.size]? = some (.cells (e.cells vd (.slice a9 e.sk.length c9) (.slice a10 e.mv.length c10)) 40) := by rw [← hW]; exact heap_new w _
  obtain ⟨k0, k1, k2, k3, k4, k5, k6, k7, k8, k9, k10⟩ := cells11 hx
  have hF := froms_any e vd (.slice a9 e.sk.length c9) (.slice a10 e.mv.length c10) W (hr.m.below hB) hl2
  have HF := Lib.hid hF
  have HX := Lib.hid hx
  have HW := Lib.hid hW
  have HB := Lib.hid hB
  have HR := Lib.hid (hr.below hB)
  have HE := Lib.hid (he.below hB)
  have HL1 := Lib.hid hl1
  have HL2 := Lib.hid hl2
  obtain ⟨n, hn⟩ : ∃ n, e.sk.length = n := ⟨_, rfl⟩
  obtain ⟨m, hm⟩ : ∃ m, e.mv.length = m := ⟨_, rfl⟩
  rw [hn] at k9 HF HX HW HR ⊢
  rw [hm] at k10 HF HX HW HR ⊢
  have HN := Lib.hid hn
  have HM := Lib.hid hm
  obtain ⟨q, hq⟩ : ∃ q, badL e = q := ⟨_, rfl⟩
  rw [hq]
  have HQ := Lib.hid hq
  clear he hr hW hB hx hF hl1 hl2 hn hm hq
  go_enter Tryz.func115, Tryz.ntmps115
  go_wp2_with fail
  rw [HW.out]
  (with_reducible refine HF.out.mono ?_)
  rintro e1 w1 ⟨v1, rfl, hr1, hb1⟩
  have hX1 := row_below HX.out hb1
  have hs1 := hb1.size
  obtain ⟨W2, hW2⟩ : ∃ W2, w1.alloc (.cells #[.func (.func 171) #[] #[]] 163) = W2 := ⟨_, rfl⟩
  have hB2 : Below w1.heap.size w1 W2 := by rw [← hW2]; exact (Below.refl _ w1).alloc (Nat.le_refl _) _
  have hy : W2.heap[w1.heap.size]? = some (.cells #[.func (.func 171) #[] #[]] 163) := by rw [← hW2]; exact heap_new w1 _
  have hb12 := hb1.trans (hB2.mono hs1)
  have HX2 := Lib.hid (row_below hX1 hB2)
  have HY := Lib.hid hy
  have HR1 := Lib.hid (hr1.below hB2)
  have HR2 := Lib.hid (HR.out.below hb12)
  have HE2 := Lib.hid (HE.out.below hb12)
  have HBW := Lib.hid (HB.out.trans (hb12.mono HB.out.size))
  have HW2 := Lib.hid hW2
  clear k0 k1 k2 k3 k4 k5 k6 k7 k8 k9 k10 hr1 hb1 hX1 hs1 hW2 hB2 hy hb12
  go_upto_region 3 with fail
  rw [HW2.out]
  obtain ⟨k0, k1, k2, k3, k4, k5, k6, k7, k8, k9, k10⟩ := cells11 HX2.out
  by_cases h1 : (20 : Int) < (n : Int)
  · have g := HE2.out.s6.cell
    go_wp2
    go_ret
    obtain rfl : 7 = q := by rw [← HQ.out]; exact (badL_full (.inl (by rw [HN.out]; omega))).symm
    exact ⟨rfl, HBW.out⟩
  by_cases h2 : (20 : Int) < (m : Int)
  · have g := HE2.out.s6.cell
    go_wp2
    go_ret
    obtain rfl : 7 = q := by rw [← HQ.out]; exact (badL_full (.inr (by rw [HM.out]; omega))).symm
    exact ⟨rfl, HBW.out⟩
  have hsm : ¬ (20 < e.sk.length ∨ 20 < e.mv.length) := by rw [HN.out, HM.out]; omega
  have HSM := Lib.hid hsm
  have hri1 := fun W (h : Below W2.heap.size W2 W) => rising_any e.sk (.slice a9 n c9) W (HR2.out.s.below h) HL1.out
  have hri2 := fun W (h : Below W2.heap.size W2 W) => rising_any (froms e.mv) v1 W (HR1.out.below h) (by rw [froms_len]; exact HL2.out)
  obtain ⟨q1, hq1⟩ : ∃ q1, riseB e.sk = q1 := ⟨_, rfl⟩
  obtain ⟨q2, hq2⟩ : ∃ q2, riseB (froms e.mv) = q2 := ⟨_, rfl⟩
  rw [hq1] at hri1
  rw [hq2] at hri2
  have HRI1 := Lib.hid hri1
  have HRI2 := Lib.hid hri2
  have HQ1 := Lib.hid hq1
  have HQ2 := Lib.hid hq2
  clear hsm hri1 hri2 hq1 hq2
  go_wp2_with fail
  (with_reducible refine (HRI1.out _ (Below.refl _ _)).mono ?_)
  rintro e3 w3 ⟨rfl, hb3⟩
  have HB3 := Lib.hid hb3
  clear hb3
  cases q1 with
  | false =>
    have g := (HE2.out.below HB3.out).s7.cell
    go_wp2
    go_ret
    obtain rfl : 8 = q := by rw [← HQ.out]; exact (badL_order HSM.out (by rw [HQ1.out]; rfl)).symm
    exact ⟨rfl, HBW.out.trans (HB3.out.mono HBW.out.size)⟩
  | true =>
    go_wp2_with fail
    (with_reducible refine (HRI2.out _ HB3.out).mono ?_)
    rintro e4 w4 ⟨rfl, hb4⟩
    have HB4 := Lib.hid (HB3.out.trans (hb4.mono HB3.out.size))
    clear hb4 HB3 HRI1 HRI2 k0 k1 k2 k3 k4 k5 k6 k7 k8 k9 k10
    obtain ⟨k0, k1, k2, k3, k4, k5, k6, k7, k8, k9, k10⟩ := cells11 (row_below HX2.out HB4.out)
    have ky : w4.cell? ⟨w1.heap.size, 0, none⟩ = some (.func (.func 171) #[] #[]) := cell_of (row_below HY.out HB4.out) rfl
    cases q2 with
    | false =>
      have g := (HE2.out.below HB4.out).s7.cell
      go_wp2
      go_ret
      obtain rfl : 8 = q := by rw [← HQ.out]; exact (badL_order HSM.out (by rw [HQ1.out, HQ2.out]; rfl)).symm
      exact ⟨rfl, HBW.out.trans (HB4.out.mono HBW.out.size)⟩
    | true =>
      have HO := Lib.hid (show (riseB e.sk && riseB (froms e.mv)) = true by rw [HQ1.out, HQ2.out]; rfl)
      have eg1 := enters_of Tryz.func171 (by kernel_rfl) rfl
      have eg2 := enters_of Tryz.func175 (by kernel_rfl) rfl
      have eg3 := enters_of Tryz.func176 (by kernel_rfl) rfl
      have hc1 := anyInts_any e.sk (.slice a9 n c9) (fun d => !rightB d) 171 #[] eg1 w4 (HR2.out.s.below HB4.out) HL1.out (bad1_pred w4)
      have hc2 := fun W (h : Below w4.heap.size w4 W) => anyMoves_any e.mv (.slice a10 m c10) (fun m => !rightB m.1 || !rightB m.2) 175 #[.pointer (some ⟨w1.heap.size, 0, none⟩)] eg2 W ((HR2.out.m.below HB4.out).below h) HL2.out
        (bad2_pred W w1.heap.size (cell_lt (p := ⟨w1.heap.size, 0, none⟩) (cell_later h ky)) (cell_later h ky))
      have hc3 := fun W (h : Below w4.heap.size w4 W) => anyInts_any (froms e.mv) v1 (fun d => e.sk.contains d) 176 #[.pointer (some ⟨w.heap.size, 0, none⟩)] eg3 W ((HR1.out.below HB4.out).below h) (by rw [froms_len]; exact HL2.out)
        (bad3_pred W w.heap.size e vd (.slice a9 n c9) (.slice a10 m c10) (row_below (row_below HX2.out HB4.out) h) ((HR2.out.s.below HB4.out).below h) HL1.out)
      rw [any_not] at hc1
      rw [any_not2] at hc2
      obtain ⟨q3, hq3⟩ : ∃ q3, e.sk.all rightB = q3 := ⟨_, rfl⟩
      obtain ⟨q4, hq4⟩ : ∃ q4, (e.mv.all fun m => rightB m.1 && rightB m.2) = q4 := ⟨_, rfl⟩
      obtain ⟨q5, hq5⟩ : ∃ q5, (froms e.mv).any (fun d => e.sk.contains d) = q5 := ⟨_, rfl⟩
      rw [hq3] at hc1
      rw [hq4] at hc2
      rw [hq5] at hc3
      have HC1 := Lib.hid hc1
      have HC2 := Lib.hid hc2
      have HC3 := Lib.hid hc3
      have HQ3 := Lib.hid hq3
      have HQ4 := Lib.hid hq4
      have HQ5 := Lib.hid hq5
      clear hc1 hc2 hc3 hq3 hq4 hq5 eg1 eg2 eg3
      go_wp2_with fail
      (with_reducible refine HC1.out.mono ?_)
      rintro e5 w5 ⟨rfl, hb5⟩
      have HB5 := Lib.hid hb5
      have HY5 := Lib.hid (row_below (row_below HY.out HB4.out) hb5)
      have HX5 := Lib.hid (row_below (row_below HX2.out HB4.out) hb5)
      have HB45 := Lib.hid (HB4.out.trans (hb5.mono HB4.out.size))
      clear hb5 k0 k1 k2 k3 k4 k5 k6 k7 k8 k9 k10 ky
      obtain ⟨k0, k1, k2, k3, k4, k5, k6, k7, k8, k9, k10⟩ := cells11 HX5.out
      cases q3 with
      | false =>
        have g := (HE2.out.below HB45.out).s1.cell
        go_wp2
        go_ret
        obtain rfl : 2 = q := by rw [← HQ.out]; exact (badL_bound HSM.out HO.out (by rw [HQ3.out]; rfl)).symm
        exact ⟨rfl, HBW.out.trans (HB45.out.mono HBW.out.size)⟩
      | true =>
        go_wp2_with fail
        (with_reducible refine (HC2.out _ HB5.out).mono ?_)
        rintro e6 w6 ⟨rfl, hb6⟩
        have HB6 := Lib.hid (HB5.out.trans (hb6.mono HB5.out.size))
        have HB46 := Lib.hid (HB45.out.trans (hb6.mono HB45.out.size))
        clear hb6 k0 k1 k2 k3 k4 k5 k6 k7 k8 k9 k10
        cases q4 with
        | false =>
          have g := (HE2.out.below HB46.out).s1.cell
          go_wp2
          go_ret
          obtain rfl : 2 = q := by rw [← HQ.out]; exact (badL_bound HSM.out HO.out (by rw [HQ3.out, HQ4.out]; rfl)).symm
          exact ⟨rfl, HBW.out.trans (HB46.out.mono HBW.out.size)⟩
        | true =>
          go_wp2_with fail
          (with_reducible refine (HC3.out _ HB6.out).mono ?_)
          rintro e7 w7 ⟨rfl, hb7⟩
          have HB7 := Lib.hid (HB46.out.trans (hb7.mono HB46.out.size))
          have HP := Lib.hid (show (e.sk.all rightB && e.mv.all fun m => rightB m.1 && rightB m.2) = true by rw [HQ3.out, HQ4.out]; rfl)
          clear hb7
          have g := (HE2.out.below HB7.out).s5.cell
          cases q5 with
          | true =>
            go_wp2
            go_ret
            obtain rfl : 6 = q := by rw [← HQ.out]; exact (badL_exist HSM.out HO.out HP.out HQ5.out).symm
            exact ⟨rfl, HBW.out.trans (HB7.out.mono HBW.out.size)⟩
          | false =>
            go_wp2
            go_ret
            obtain rfl : 0 = q := by rw [← HQ.out]; exact (badL_none HSM.out HO.out HP.out HQ5.out).symm
            exact ⟨rfl, HBW.out.trans (HB7.out.mono HBW.out.size)⟩
theorem badE_name {e : Ev} (h : nameB e.id = false) : badE e = 4 := by unfold badE; rw [if_pos h]
theorem badE_text {e : Ev} (h : nameB e.id = true) (h2 : titleB e.ti = false) : badE e = 1 := by unfold badE; rw [h, if_neg (by simp), if_pos h2]
theorem badE_bound {e : Ev} (h : nameB e.id = true) (h2 : titleB e.ti = true) (h3 : (rightB e.st && inB e.lg 1 60) = false) : badE e = 2 := by unfold badE; rw [h, if_neg (by simp), h2, if_neg (by simp), if_pos h3]
theorem badE_rule {e : Ev} (h : nameB e.id = true) (h2 : titleB e.ti = true) (h3 : (rightB e.st && inB e.lg 1 60) = true) (h4 : bad e.ru ≠ 0) : badE e = bad e.ru := by
  unfold badE; rw [h, if_neg (by simp), h2, if_neg (by simp), h3, if_neg (by simp), if_pos h4]
theorem badE_lists {e : Ev} (h : nameB e.id = true) (h2 : titleB e.ti = true) (h3 : (rightB e.st && inB e.lg 1 60) = true) (h4 : bad e.ru = 0) : badE e = badL e := by
  unfold badE; rw [h, if_neg (by simp), h2, if_neg (by simp), h3, if_neg (by simp), h4, if_neg (by simp)]
structure Size (e : Ev) : Prop where
  id : e.id.size ≤ 9223372036854775807
  ti : e.ti.size ≤ 9223372036854775807
  ds : e.ru.ds.length < 50000
  sk : e.sk.length ≤ 1000000
  mv : e.mv.length ≤ 1000000
set_option maxRecDepth 100000 in
set_option maxHeartbeats 4000000 in
theorem check_any (e : Ev) (vd vs vm : Value) (er : Nat → Addr) (w : World) (he : E7 w er) (hr : Rv w e vd vs vm) (hz : Size e) :
    Calls Tryz.prog 72 #[.agg (e.cells vd vs vm)] w fun r w' => r = .returned (errV er (badE e)) ∧ Below w.heap.size w w' := by
  obtain ⟨a6, c6, rfl⟩ := hr.d.shape
  obtain ⟨a9, c9, rfl⟩ := hr.s.shape
  obtain ⟨a10, c10, rfl⟩ := hr.m.shape
  obtain ⟨W, hW⟩ : ∃ W, w.alloc (.cells (e.cells (.slice a6 e.ru.ds.length c6) (.slice a9 e.sk.length c9) (.slice a10 e.mv.length c10)) 40) = W := ⟨_, rfl⟩
  have hB : Below w.heap.size w W := by rw [← hW]; exact (Below.refl _ w).alloc (Nat.le_refl _) _
  have hx : W.heap[w.heap.size]? = some (.cells (e.cells (.slice a6 e.ru.ds.length c6) (.slice a9 e.sk.length c9) (.slice a10 e.mv.length c10)) 40) := by rw [← hW]; exact heap_new w _
  have hE := he.below hB
  have hR := hr.below hB
  have hN := fun W => name_any e.id W hz.id
  have hT := fun W => title_any e.ti W hz.ti
  have hG := fun W => right_any e.st W
  have hK := fun W' (h : Below W.heap.size W W') => chk_any e.ru _ er W' (hE.below h).four (hR.d.below h) hz.ds
  have hL := fun W' (h : Below W.heap.size W W') => lists_any e _ _ _ er W' (hE.below h) (hR.below h) hz.sk hz.mv
  obtain ⟨q1, hq1⟩ : ∃ q, nameB e.id = q := ⟨_, rfl⟩
  obtain ⟨q2, hq2⟩ : ∃ q, titleB e.ti = q := ⟨_, rfl⟩
  obtain ⟨q3, hq3⟩ : ∃ q, rightB e.st = q := ⟨_, rfl⟩
  obtain ⟨q4, hq4⟩ : ∃ q, bad e.ru = q := ⟨_, rfl⟩
  obtain ⟨q5, hq5⟩ : ∃ q, badL e = q := ⟨_, rfl⟩
  obtain ⟨q, hq⟩ : ∃ q, badE e = q := ⟨_, rfl⟩
  have hq3' : decide (0 ≤ e.st ∧ e.st ≤ 73048) = q3 := hq3
  rw [hq1] at hN
  rw [hq2] at hT
  rw [hq3'] at hG
  rw [hq4] at hK
  rw [hq5] at hL
  rw [hq]
  have HN := Lib.hid hN
  have HT := Lib.hid hT
  have HG := Lib.hid hG
  have HK := Lib.hid hK
  have HL := Lib.hid hL
  have HQ1 := Lib.hid hq1
  have HQ2 := Lib.hid hq2
  have HQ3 := Lib.hid hq3
  have HQ4 := Lib.hid hq4
  have HQ5 := Lib.hid hq5
  have HQ := Lib.hid hq
  have HE := Lib.hid hE
  have HX := Lib.hid hx
  have HB := Lib.hid hB
  have HW := Lib.hid hW
  obtain ⟨n6, hn6⟩ : ∃ n, e.ru.ds.length = n := ⟨_, rfl⟩
  obtain ⟨n9, hn9⟩ : ∃ n, e.sk.length = n := ⟨_, rfl⟩
  obtain ⟨n10, hn10⟩ : ∃ n, e.mv.length = n := ⟨_, rfl⟩
  rw [hn6] at HK HL HX HW ⊢
  rw [hn9] at HL HX HW ⊢
  rw [hn10] at HL HX HW ⊢
  clear he hr hz hW hB hx hE hR hN hT hG hK hL hq1 hq2 hq3 hq3' hq4 hq5 hq hn6 hn9 hn10
  go_enter Tryz.func72, Tryz.ntmps72
  obtain ⟨k0, k1, k2, k3, k4, k5, k6, k7, k8, k9, k10⟩ := cells11 HX.out
  go_upto_region 1 with fail
  rw [HW.out]
  go_wp2_with fail
  (with_reducible refine (HN.out _).mono ?_)
  rintro e1 w1 ⟨rfl, hb1⟩
  have HB1 := Lib.hid hb1
  clear hb1 k0 k1 k2 k3 k4 k5 k6 k7 k8 k9 k10
  obtain ⟨k0, k1, k2, k3, k4, k5, k6, k7, k8, k9, k10⟩ := cells11 (row_below HX.out HB1.out)
  cases q1 with
  | false =>
    have g := (HE.out.below HB1.out).s3.cell
    go_wp2
    go_ret
    obtain rfl : 4 = q := by rw [← HQ.out]; exact (badE_name HQ1.out).symm
    exact ⟨rfl, HB.out.trans (HB1.out.mono HB.out.size)⟩
  | true =>
    go_wp2_with fail
    (with_reducible refine (HT.out _).mono ?_)
    rintro e2 w2 ⟨rfl, hb2⟩
    have HB2 := Lib.hid (HB1.out.trans (hb2.mono HB1.out.size))
    clear hb2 k0 k1 k2 k3 k4 k5 k6 k7 k8 k9 k10
    obtain ⟨k0, k1, k2, k3, k4, k5, k6, k7, k8, k9, k10⟩ := cells11 (row_below HX.out HB2.out)
    cases q2 with
    | false =>
      have g := (HE.out.below HB2.out).s0.cell
      go_wp2
      go_ret
      obtain rfl : 1 = q := by rw [← HQ.out]; exact (badE_text HQ1.out HQ2.out).symm
      exact ⟨rfl, HB.out.trans (HB2.out.mono HB.out.size)⟩
    | true =>
      have g := (HE.out.below HB2.out).s1.cell
      go_wp2_with fail
      (with_reducible refine (HG.out _).mono ?_)
      rintro e3 w3 ⟨rfl, rfl⟩
      cases q3 with
      | false =>
        go_wp2
        go_ret
        obtain rfl : 2 = q := by rw [← HQ.out]; exact (badE_bound HQ1.out HQ2.out (by rw [HQ3.out]; rfl)).symm
        exact ⟨rfl, HB.out.trans (HB2.out.mono HB.out.size)⟩
      | true =>
        by_cases hl1 : e.lg < 1
        · go_wp2
          go_ret
          obtain rfl : 2 = q := by rw [← HQ.out]; exact (badE_bound HQ1.out HQ2.out (by rw [HQ3.out]; simp [inB]; omega)).symm
          exact ⟨rfl, HB.out.trans (HB2.out.mono HB.out.size)⟩
        by_cases hl2 : 60 < e.lg
        · go_wp2
          go_ret
          obtain rfl : 2 = q := by rw [← HQ.out]; exact (badE_bound HQ1.out HQ2.out (by rw [HQ3.out]; simp [inB]; omega)).symm
          exact ⟨rfl, HB.out.trans (HB2.out.mono HB.out.size)⟩
        have HQ34 := Lib.hid (show (rightB e.st && inB e.lg 1 60) = true by rw [HQ3.out]; simp [inB]; omega)
        clear g
        go_wp2_with fail
        (with_reducible refine (HK.out _ HB2.out).mono ?_)
        rintro e4 w4 ⟨rfl, hb4⟩
        have HB4 := Lib.hid (HB2.out.trans (hb4.mono HB2.out.size))
        clear hb4 k0 k1 k2 k3 k4 k5 k6 k7 k8 k9 k10
        obtain ⟨k0, k1, k2, k3, k4, k5, k6, k7, k8, k9, k10⟩ := cells11 (row_below HX.out HB4.out)
        cases q4 with
        | succ q4 =>
          simp only [errV, ev]
          go_wp2
          go_ret
          obtain rfl : q4 + 1 = q := by rw [← HQ.out, badE_rule HQ1.out HQ2.out HQ34.out (by rw [HQ4.out]; omega)]; exact HQ4.out.symm
          exact ⟨rfl, HB.out.trans (HB4.out.mono HB.out.size)⟩
        | zero =>
          simp only [errV]
          go_wp2_with fail
          (with_reducible refine (HL.out _ HB4.out).mono ?_)
          rintro e5 w5 ⟨rfl, hb5⟩
          have HB5 := Lib.hid (HB4.out.trans (hb5.mono HB4.out.size))
          clear hb5 k0 k1 k2 k3 k4 k5 k6 k7 k8 k9 k10
          obtain rfl : q5 = q := by rw [← HQ.out, badE_lists HQ1.out HQ2.out HQ34.out HQ4.out]; exact HQ5.out.symm
          obtain ⟨ve, hve⟩ : ∃ ve, errV er q5 = ve := ⟨_, rfl⟩
          rw [hve]
          go_wp2
          go_ret
          exact ⟨by rw [hve]; rfl, HB.out.trans (HB5.out.mono HB.out.size)⟩
end Evt
end Go.Proofs.YtghkalamlcfnnaaGreatDoor
