/- the reference's FieldOf, EventText, of right events. -/
import Derived.Test.YtghkalamlcfnnaaGreatDoorQB1
import Derived.Test.YtghkalamlcfnnaaGreatDoorQA12
import Derived.Test.YtghkalamlcfnnaaGreatDoorQEvPutL
import Derived.Deep.RegionHeld3
import Derived.Deep.CutRange
namespace Go.Proofs.YtghkalamlcfnnaaGreatDoor
open Go Go.RowKit Go.Shelf Lmd
attribute [local go_sem] Oper.semAt_some
namespace Evt
open Rul Day Cand Er Rrt
variable {α : Type}
theorem rdayText_any (n : Int) (w : World) : Calls Tryz.prog 95 #[.int .i64 n] w fun e w' => e = .returned (.string (mk (dayL n))) ∧ Below w.heap.size w w' := by
  by_cases h : 0 ≤ n ∧ n ≤ 73048
  · obtain ⟨y, m, d, ha⟩ := Cal.at_exists n h.1 h.2
    have e : dayL n = Cal.text y m d := by unfold dayL; rw [if_pos h, dayT_at ha]
    rw [e]
    exact Ref.dayText_at n y m d w ha
  · have e : dayL n = [] := by unfold dayL; rw [if_neg h]
    rw [e]
    refine (Ref.dayText_no n w h).mono ?_
    rintro e' w' ⟨rfl, rfl⟩
    exact ⟨rfl, Below.refl _ _⟩
theorem rfields_new (w : World) : Calls Tryz.prog 57 #[] w fun e w' => e = .returned (.slice (some ⟨w.heap.size, 0, none⟩) 6 6) ∧ w' = w.alloc (.cells fieldsV 9) := by
  go_enter Tryz.func57, Tryz.ntmps57
  go_wp2
  go_ret
  exact ⟨rfl, rfl⟩
noncomputable def joinTo (f : α → List UInt8) (xs : List α) (k : Nat) : List UInt8 := Lib.join ((xs.take k).map f) [44]
theorem joinTo_zero (f : α → List UInt8) (xs : List α) : joinTo f xs 0 = [] := rfl
theorem joinTo_one (f : α → List UInt8) {xs : List α} (h : 0 < xs.length) : joinTo f xs 1 = f xs[0] := by
  unfold joinTo
  rw [List.take_succ_eq_append_getElem h]
  simp [Lib.join]
theorem joinTo_succ (f : α → List UInt8) {xs : List α} {k : Nat} (h : k < xs.length) (hk : k ≠ 0) : joinTo f xs (k + 1) = joinTo f xs k ++ [44] ++ f xs[k] := by
  unfold joinTo
  rw [List.take_succ_eq_append_getElem h, List.map_append]
  refine join_snoc _ _ _ ?_
  intro e
  have := congrArg List.length e
  rw [List.length_map, List.length_take, List.length_nil] at this
  omega
theorem joinTo_all (f : α → List UInt8) (xs : List α) : joinTo f xs xs.length = Lib.join (xs.map f) [44] := by unfold joinTo; rw [List.take_length]
theorem joinTo_len (f : α → List UInt8) (n : Nat) (hf : ∀ x, (f x).length ≤ n) (xs : List α) (k : Nat) : (joinTo f xs k).length ≤ (n + 1) * k := by
  unfold joinTo
  have := join_len [44] n ((xs.take k).map f) (fun x hx => by obtain ⟨y, _, rfl⟩ := List.mem_map.1 hx; exact hf y)
  rw [List.length_map, List.length_take] at this
  exact Nat.le_trans this (Nat.mul_le_mul_left _ (Nat.min_le_left _ _))
theorem skips_join (xs : List Int) : skipsL xs = Lib.join (xs.map dayL) [44] := by unfold skipsL; rw [List.map_map]; rfl
noncomputable def mvL (m : Int × Int) : List UInt8 := dayL m.1 ++ [62] ++ dayL m.2
theorem mvL_len (m : Int × Int) : (mvL m).length ≤ 21 := by
  have h1 := dayL_len m.1
  have h2 := dayL_len m.2
  unfold mvL; simp only [List.length_append, List.length_cons, List.length_nil]; omega
theorem moves_join (xs : List (Int × Int)) : movesL xs = Lib.join (xs.map mvL) [44] := by unfold movesL; rw [List.map_map]; rfl
theorem str_cat (a b : List UInt8) : mk a ++ mk b = mk (a ++ b) := Day.cat a b
set_option maxRecDepth 100000 in
set_option maxHeartbeats 8000000 in
theorem fieldOf_any (e : Ev) (vd vs vm : Value) (f : ByteArray) (w : World) (hr : Rv w e vd vs vm) (hbad : badE e = 0) (hd : e.ru.ds.length < 50000) :
    Calls Tryz.prog 58 #[.agg (e.cells vd vs vm), .string f] w fun r w' => r = .returned (.string (getL e f)) ∧ Below w.heap.size w w' := by
  obtain ⟨_, _, _, hlg, hru, hbl⟩ := badE_zero hbad
  obtain ⟨hl1, hl2, _⟩ := badL_zero hbl
  obtain ⟨W, hW⟩ : ∃ W, w.alloc (.cells (e.cells vd vs vm) 40) = W := ⟨_, rfl⟩
  have hB : Below w.heap.size w W := by rw [← hW]; exact (Below.refl _ w).alloc (Nat.le_refl _) _
  have hx : W.heap[w.heap.size]? = some (.cells (e.cells vd vs vm) 40) := by rw [← hW]; exact heap_new w _
  obtain ⟨n, hn⟩ : ∃ n : Nat, e.lg = (n : Int) := ⟨e.lg.toNat, by omega⟩
  have hde := Ref.decimal_any n (by omega) W
  have hdz : (⟨(Lib.decDigits n).toArray⟩ : ByteArray) = mk (Lib.itoa e.lg) := by rw [hn, Lib.itoa_nonneg]
  rw [hdz, ← hn] at hde
  have hre := ruleError_any e.ru vd W (hr.d.below hB) hd
  rw [hru] at hre
  have hrt := fun W' (h : Below W.heap.size W W') => ruleText_any e.ru vd W' ((hr.d.below hB).below h) hd hru
  obtain ⟨T, hTT⟩ : ∃ T, getL e f = T := ⟨_, rfl⟩
  unfold getL at hTT
  rw [show getL e f = T from hTT]
  have HDE := Lib.hid hde
  have HRE := Lib.hid hre
  have HRT := Lib.hid hrt
  have HX := Lib.hid hx
  have HB := Lib.hid hB
  have HW := Lib.hid hW
  have HTT := Lib.hid hTT
  have HR := Lib.hid (hr.below hB)
  have HRU := Lib.hid hru
  clear hr hbad hlg hbl hW hB hx hde hre hrt hTT hdz hn hru
  go_enter Tryz.func58, Tryz.ntmps58
  obtain ⟨k0, k1, k2, k3, k4, k5, k6, k7, k8, k9, k10⟩ := cells11 HX.out
  go_upto_region 3 with fail
  rw [HW.out]
  by_cases h1 : f.toList = [116, 105, 116, 108, 101]
  · have hTT := HTT.out
    rw [if_pos h1] at hTT
    subst hTT
    clear HTT
    go_wp2
    go_ret
    exact ⟨rfl, HB.out⟩
  by_cases h2 : f.toList = [115, 116, 97, 114, 116]
  · have hTT := HTT.out
    rw [if_neg h1, if_pos h2] at hTT
    have HT2 := Lib.hid hTT
    clear HTT hTT
    go_wp2_with fail
    (with_reducible refine (rdayText_any e.st W).mono ?_)
    rintro e2 w2 ⟨rfl, hb2⟩
    have HB2 := Lib.hid (HB.out.trans (hb2.mono HB.out.size))
    clear hb2
    rw [show mk (dayL e.st) = T from HT2.out]
    go_wp2
    go_ret
    exact ⟨rfl, HB2.out⟩
  by_cases h3 : f.toList = [108, 111, 110, 103]
  · have hTT := HTT.out
    rw [if_neg h1, if_neg h2, if_pos h3] at hTT
    have HT2 := Lib.hid hTT
    clear HTT hTT
    go_wp2_with fail
    (with_reducible refine HDE.out.mono ?_)
    rintro e2 w2 ⟨rfl, hb2⟩
    have HB2 := Lib.hid (HB.out.trans (hb2.mono HB.out.size))
    clear hb2
    rw [HT2.out]
    go_wp2
    go_ret
    exact ⟨rfl, HB2.out⟩
  by_cases h4 : f.toList = [114, 117, 108, 101]
  · have hTT := HTT.out
    rw [if_neg h1, if_neg h2, if_neg h3, if_pos h4, if_pos HRU.out] at hTT
    have HT2 := Lib.hid hTT
    clear HTT hTT
    go_wp2_with fail
    (with_reducible refine HRE.out.mono ?_)
    rintro e2 w2 ⟨rfl, hb2⟩
    have HB2 := Lib.hid hb2
    obtain ⟨k0, k1, k2, k3, k4, k5, k6, k7, k8, k9, k10⟩ := cells11 (row_below HX.out hb2)
    clear hb2
    go_wp2_with fail
    (with_reducible refine (HRT.out _ HB2.out).mono ?_)
    rintro e3 w3 ⟨rfl, hb3⟩
    have HB3 := Lib.hid ((HB.out.trans (HB2.out.mono HB.out.size)).trans (hb3.mono (Nat.le_trans HB.out.size HB2.out.size)))
    clear hb3
    rw [HT2.out]
    go_wp2
    go_ret
    exact ⟨rfl, HB3.out⟩
  by_cases h5 : f.toList = [115, 107, 105, 112, 115]
  · have hTT := HTT.out
    rw [if_neg h1, if_neg h2, if_neg h3, if_neg h4, if_pos h5, skips_join] at hTT
    have HT2 := Lib.hid hTT
    obtain ⟨a9, c9, rfl⟩ := HR.out.s.shape
    obtain ⟨N, hN⟩ : ∃ N, e.sk.length = N := ⟨_, rfl⟩
    have HN := Lib.hid hN
    rw [hN] at HR HX k9 hl1
    clear HTT hTT hN k0 k1 k2 k3 k4 k5 k6 k7 k8 k10
    go_wp2_with fail
    go_loopw [5, 6] (fun v3 p wr => ∃ k : Nat, k ≤ N ∧ p = .int .i64 (k : Int) ∧ v3 = .string (mk (joinTo dayL e.sk k)) ∧ Below W.heap.size W wr) (fun _ p _ => N - (intOf p).toNat)
    case atStart => exact ⟨0, Nat.zero_le _, rfl, rfl, Below.refl _ _⟩
    case round =>
      obtain ⟨k, hk, rfl, rfl, hbr⟩ := hrel
      have HBR := Lib.hid hbr
      have hjl := joinTo_len dayL 10 dayL_len e.sk k
      have q9 : wr.cell? ⟨w.heap.size, 9, none⟩ = some (.slice a9 N c9) := cell_later hbr k9
      by_cases hlt : k < N
      · have hlt2 : k < e.sk.length := by rw [HN.out]; exact hlt
        obtain ⟨_, b, o, ha9, hc⟩ := (HR.out.s.below hbr).at (by intro h; rw [h] at hlt2; exact absurd hlt2 (Nat.not_lt_zero _))
        subst ha9
        have c1 := hc k hlt2
        obtain ⟨y, hy⟩ : ∃ y, Ints.el e.sk k = y := ⟨_, rfl⟩
        rw [hy] at c1
        have hyk : e.sk[k] = y := by rw [← hy, Ints.el_lt hlt2]
        have hi1 : (k : Int) < (N : Int) := by omega
        have hyl := dayL_len y
        obtain ⟨X, hX⟩ : ∃ X, joinTo dayL e.sk k = X := ⟨_, rfl⟩
        obtain ⟨Y, hY⟩ : ∃ Y, dayL y = Y := ⟨_, rfl⟩
        have hdt := fun W => rdayText_any y W
        rw [hX] at hjl ⊢
        simp only [hY] at hdt hyl
        have HDT := Lib.hid hdt
        by_cases hk0 : k = 0
        · subst hk0
          have hs : joinTo dayL e.sk 1 = X ++ Y := by rw [joinTo_one _ hlt2, ← hX, joinTo_zero, hyk, hY]; rfl
          have HS := Lib.hid hs
          rw [Nat.add_zero] at c1
          clear hs hX hY hy hyk hc hdt
          go_wp2_with fail
          (with_reducible refine (HDT.out _).mono ?_)
          rintro e2 w2 ⟨rfl, hb2⟩
          have HB2 := Lib.hid (HBR.out.trans (hb2.mono HBR.out.size))
          clear hb2
          go_wp2
          go_roundw
          case rel => exact ⟨1, by omega, by go_num, by rw [HS.out, ← str_cat], HB2.out⟩
          case measure => simp [intOf]; omega
        · have hs : joinTo dayL e.sk (k + 1) = X ++ [44] ++ Y := by rw [joinTo_succ _ hlt2 hk0, hX, hyk, hY]
          have HS := Lib.hid hs
          have hk1 : (0 : Int) < (k : Int) := by omega
          clear hs hX hY hy hyk hc hdt hk0
          go_wp2_with fail
          (with_reducible refine (HDT.out _).mono ?_)
          rintro e2 w2 ⟨rfl, hb2⟩
          have HB2 := Lib.hid (HBR.out.trans (hb2.mono HBR.out.size))
          clear hb2
          go_wp2
          go_roundw
          case rel => exact ⟨k + 1, by omega, by go_num, by rw [HS.out, ← str_cat, ← str_cat], HB2.out⟩
          case measure => simp [intOf]; omega
      · obtain rfl : k = N := by omega
        have hj : mk (joinTo dayL e.sk k) = T := by rw [← HN.out, joinTo_all]; exact HT2.out
        rw [hj]
        have HB2 := Lib.hid (HB.out.trans (HBR.out.mono HB.out.size))
        clear hj
        go_wp2
        go_ret
        exact ⟨rfl, HB2.out⟩
  by_cases h6 : f.toList = [109, 111, 118, 101, 115]
  · have hTT := HTT.out
    rw [if_neg h1, if_neg h2, if_neg h3, if_neg h4, if_neg h5, if_pos h6, moves_join] at hTT
    have HT2 := Lib.hid hTT
    obtain ⟨a10, c10, rfl⟩ := HR.out.m.shape
    obtain ⟨N, hN⟩ : ∃ N, e.mv.length = N := ⟨_, rfl⟩
    have HN := Lib.hid hN
    rw [hN] at HR HX k10 hl2
    clear HTT hTT hN k0 k1 k2 k3 k4 k5 k6 k7 k8 k9
    go_wp2_with fail
    go_loopw [5, 7] (fun v3 p wr => ∃ k : Nat, k ≤ N ∧ p = .int .i64 (k : Int) ∧ v3 = .string (mk (joinTo mvL e.mv k)) ∧ Below W.heap.size W wr) (fun _ p _ => N - (intOf p).toNat)
    case atStart => exact ⟨0, Nat.zero_le _, rfl, rfl, Below.refl _ _⟩
    case round =>
      obtain ⟨k, hk, rfl, rfl, hbr⟩ := hrel
      have HBR := Lib.hid hbr
      have hjl := joinTo_len mvL 21 mvL_len e.mv k
      have q10 : wr.cell? ⟨w.heap.size, 10, none⟩ = some (.slice a10 N c10) := cell_later hbr k10
      by_cases hlt : k < N
      · have hlt2 : k < e.mv.length := by rw [HN.out]; exact hlt
        obtain ⟨_, b, o, ha9, hc⟩ := (HR.out.m.below hbr).at (by intro h; rw [h] at hlt2; exact absurd hlt2 (Nat.not_lt_zero _))
        subst ha9
        obtain ⟨c1, c2⟩ := hc k hlt2
        obtain ⟨m1, m2, hm⟩ : ∃ m1 m2, ml e.mv k = (m1, m2) := ⟨_, _, rfl⟩
        rw [hm] at c1 c2
        simp only at c1 c2
        have hyk : e.mv[k] = (m1, m2) := by rw [← hm, ml_lt hlt2]
        have hi1 : (k : Int) < (N : Int) := by omega
        have hl1 := dayL_len m1
        have hl3 := dayL_len m2
        obtain ⟨X, hX⟩ : ∃ X, joinTo mvL e.mv k = X := ⟨_, rfl⟩
        obtain ⟨Y1, hY1⟩ : ∃ Y, dayL m1 = Y := ⟨_, rfl⟩
        obtain ⟨Y2, hY2⟩ : ∃ Y, dayL m2 = Y := ⟨_, rfl⟩
        have hd1 := fun W' (h : Below wr.heap.size wr W') => rdayText_any m1 W'
        have hd2 := fun W' (h : Below wr.heap.size wr W') => rdayText_any m2 W'
        have hmv : mvL (m1, m2) = Y1 ++ [62] ++ Y2 := by rw [← hY1, ← hY2]; rfl
        rw [hX] at hjl ⊢
        simp only [hY1] at hd1 hl1
        simp only [hY2] at hd2 hl3
        have HD1 := Lib.hid hd1
        have HD2 := Lib.hid hd2
        obtain ⟨X2, hX2, hXl, HS⟩ : ∃ X2, X2 = (if k = 0 then X else X ++ [44]) ∧ X2.length ≤ 22 * k + 1 ∧ Hid (joinTo mvL e.mv (k + 1) = X2 ++ (Y1 ++ [62] ++ Y2)) := by
          by_cases hk0 : k = 0
          · subst hk0
            exact ⟨X, by rw [if_pos rfl], by omega, Lib.hid (by rw [joinTo_one _ hlt2, ← hX, joinTo_zero, hyk, hmv]; rfl)⟩
          · exact ⟨X ++ [44], by rw [if_neg hk0], by rw [List.length_append]; simp; omega, Lib.hid (by rw [joinTo_succ _ hlt2 hk0, hX, hyk, hmv])⟩
        clear hX hY1 hY2 hyk hm hc hd1 hd2 hmv
        go_upto_if 63 with fail
        go_cut [5] from 62 to 65 (fun s5 wc => s5 = .string (mk X2) ∧ wc = wr)
        case first =>
          by_cases hk0 : k = 0
          · subst hk0
            rw [if_pos rfl] at hX2
            subst hX2
            go_wp2_with fail
            go_meet
            exact ⟨rfl, rfl⟩
          · have hk1 : (0 : Int) < (k : Int) := by omega
            rw [if_neg hk0] at hX2
            subst hX2
            clear hk0
            go_wp2_with fail
            go_meet
            exact ⟨by rw [← str_cat], rfl⟩
        case rest =>
          obtain ⟨rfl, rfl⟩ := hcut
          have hcat : mk X2 ++ mk Y1 ++ ⟨#[62]⟩ ++ mk Y2 = mk (joinTo mvL e.mv (k + 1)) := by
            rw [HS.out, show (⟨#[62]⟩ : ByteArray) = mk [62] from rfl, str_cat, str_cat, str_cat]; simp
          have HC := Lib.hid hcat
          have Q10 := Lib.hid q10
          have C1 := Lib.hid c1
          have C2 := Lib.hid c2
          have hacc : Below wc.heap.size wc wc.drew := below_draw (Below.refl _ _) 1
          have g1 : ¬ 9223372036854775807 < X2.length + Y1.length := by omega
          have g2 : ¬ 9223372036854775807 < X2.length + Y1.length + 1 := by omega
          have g3 : ¬ 9223372036854775807 < X2.length + Y1.length + 1 + Y2.length := by omega
          clear hcat hX2 q10 c1 c2
          go_upto_region 25 with fail
          go_region_held3 (fun W => W.cell? ⟨w.heap.size, 10, none⟩ = some (.slice (some ⟨b, o, none⟩) N c10) ∧ W.cell? ⟨b, o + k * 2, none⟩ = some (.int .i64 m1) ∧ W.cell? ⟨b, o + k * 2 + 1, none⟩ = some (.int .i64 m2))
            (exact ⟨cell_later hacc Q10.out, cell_later hacc C1.out, cell_later hacc C2.out⟩)
            (first
              | ((with_reducible refine (HD1.out _ hacc).mono ?_); rintro e1 wq ⟨rfl, hbq⟩; replace hacc := belowT hacc hbq; clear hbq)
              | ((with_reducible refine (HD2.out _ hacc).mono ?_); rintro e1 wq ⟨rfl, hbq⟩; replace hacc := belowT hacc hbq; clear hbq))
          all_goals (
            have HB2 := Lib.hid (HBR.out.trans (hacc.mono HBR.out.size))
            clear hacc
            go_wp2
            go_roundw
            case rel => exact ⟨k + 1, by omega, by go_num, by rw [← HC.out], HB2.out⟩
            case measure => simp [intOf]; omega)
      · obtain rfl : k = N := by omega
        have hj : mk (joinTo mvL e.mv k) = T := by rw [← HN.out, joinTo_all]; exact HT2.out
        rw [hj]
        have HB2 := Lib.hid (HB.out.trans (HBR.out.mono HB.out.size))
        clear hj
        go_wp2
        go_ret
        exact ⟨rfl, HB2.out⟩
  · have hTT := HTT.out
    rw [if_neg h1, if_neg h2, if_neg h3, if_neg h4, if_neg h5, if_neg h6] at hTT
    subst hTT
    have b1 : (f.toList == [116, 105, 116, 108, 101]) = false := by simpa using h1
    have b2 : (f.toList == [115, 116, 97, 114, 116]) = false := by simpa using h2
    have b3 : (f.toList == [108, 111, 110, 103]) = false := by simpa using h3
    have b4 : (f.toList == [114, 117, 108, 101]) = false := by simpa using h4
    have b5 : (f.toList == [115, 107, 105, 112, 115]) = false := by simpa using h5
    have b6 : (f.toList == [109, 111, 118, 101, 115]) = false := by simpa using h6
    clear HTT h1 h2 h3 h4 h5 h6
    go_wp2
    go_ret
    exact ⟨rfl, HB.out⟩
noncomputable def partsT (e : Ev) (k : Nat) : List UInt8 := Lib.join ((partsE e k).map (·.data.toList)) [124]
theorem partsT_zero (e : Ev) : partsT e 0 = e.id.data.toList := by
  unfold partsT partsE
  simp [Lib.join_one]
theorem partsT_succ (e : Ev) {k : Nat} (h : k < 6) : partsT e (k + 1) = partsT e k ++ [124] ++ (getL e (fieldL.getD k ByteArray.empty)).data.toList := by
  unfold partsT
  rw [parts_snoc e h, List.map_append]
  exact join_snoc _ _ _ (by simp [partsE])
theorem partsT_len (e : Ev) (k : Nat) (hk : k ≤ 6) (h : badE e = 0) (hd : e.ru.ds.length < 50000) : (partsT e k).length ≤ 3000000 := by
  have hid : e.id.data.toList.length ≤ 12 := by
    have h1 := (badE_zero h).1
    unfold nameB at h1
    rw [Bool.and_eq_true, Bool.and_eq_true] at h1
    rw [Array.length_toList]
    exact of_decide_eq_true h1.1.2
  have := join_len [124] 400000 ((partsE e k).map (·.data.toList)) (fun x hx => by
    simp only [partsE, List.map_cons, List.mem_cons, List.mem_map] at hx
    rcases hx with rfl | ⟨y, ⟨z, _, rfl⟩, rfl⟩
    · omega
    · exact getL_len e z h hd)
  rw [List.length_map, parts_len e hk] at this
  have h7 : (400000 + [124].length) * (k + 1) ≤ (400000 + [124].length) * 7 := Nat.mul_le_mul_left _ (by omega)
  simp only [List.length_cons, List.length_nil] at this h7
  unfold partsT
  omega
set_option maxRecDepth 100000 in
set_option maxHeartbeats 4000000 in
theorem reventText_any (e : Ev) (vd vs vm : Value) (w : World) (hr : Rv w e vd vs vm) (hz : Size e) :
    Calls Tryz.prog 88 #[.agg (e.cells vd vs vm)] w fun r w' => r = .returned (.string (if badE e = 0 then mk (textE e) else ⟨#[]⟩)) ∧ Below w.heap.size w w' := by
  obtain ⟨a6, c6, rfl⟩ := hr.d.shape
  obtain ⟨a9, c9, rfl⟩ := hr.s.shape
  obtain ⟨a10, c10, rfl⟩ := hr.m.shape
  obtain ⟨W, hW⟩ : ∃ W, w.alloc (.cells (e.cells (.slice a6 e.ru.ds.length c6) (.slice a9 e.sk.length c9) (.slice a10 e.mv.length c10)) 40) = W := ⟨_, rfl⟩
  have hB : Below w.heap.size w W := by rw [← hW]; exact (Below.refl _ w).alloc (Nat.le_refl _) _
  have hx : W.heap[w.heap.size]? = some (.cells (e.cells (.slice a6 e.ru.ds.length c6) (.slice a9 e.sk.length c9) (.slice a10 e.mv.length c10)) 40) := by rw [← hW]; exact heap_new w _
  have hee := eventError_any e _ _ _ W (hr.below hB) hz
  have hfo := fun h0 f W' (h : Below W.heap.size W W') => fieldOf_any e _ _ _ f W' ((hr.below hB).below h) h0 hz.ds
  obtain ⟨n6, hn6⟩ : ∃ n, e.ru.ds.length = n := ⟨_, rfl⟩
  obtain ⟨n9, hn9⟩ : ∃ n, e.sk.length = n := ⟨_, rfl⟩
  obtain ⟨n10, hn10⟩ : ∃ n, e.mv.length = n := ⟨_, rfl⟩
  obtain ⟨q, hq⟩ : ∃ q, badE e = q := ⟨_, rfl⟩
  rw [hn6, hn9, hn10] at hW hx hee ⊢
  simp only [hn6, hn9, hn10] at hfo
  rw [hq] at hee ⊢
  have HZ := Lib.hid hz.ds
  have HEE := Lib.hid hee
  have HFO := Lib.hid hfo
  have HX := Lib.hid hx
  have HB := Lib.hid hB
  have HW := Lib.hid hW
  have HQ := Lib.hid hq
  clear hr hz hW hB hx hee hfo hn6 hn9 hn10 hq
  go_enter Tryz.func88, Tryz.ntmps88
  obtain ⟨k0, k1, k2, k3, k4, k5, k6, k7, k8, k9, k10⟩ := cells11 HX.out
  go_upto_region 1 with fail
  rw [HW.out]
  go_wp2_with fail
  (with_reducible refine HEE.out.mono ?_)
  rintro e1 w1 ⟨rfl, hb1⟩
  have HB1 := Lib.hid hb1
  clear hb1 k0 k1 k2 k3 k4 k5 k6 k7 k8 k9 k10
  by_cases h0 : q = 0
  case neg =>
    have hpos : (0 : Int) < (q : Int) := by omega
    have H0 := Lib.hid h0
    clear h0
    go_wp2
    go_ret
    first
      | exact ⟨rfl, HB.out.trans (HB1.out.mono HB.out.size)⟩
      | exact ⟨by rw [if_neg H0.out]; rfl, HB.out.trans (HB1.out.mono HB.out.size)⟩
  subst h0
  obtain ⟨k0, k1, k2, k3, k4, k5, k6, k7, k8, k9, k10⟩ := cells11 (row_below HX.out HB1.out)
  have hid : e.id = mk (partsT e 0) := by rw [partsT_zero]
  rw [hid] at k0
  go_wp2_with fail
  (with_reducible refine (rfields_new w1).mono ?_)
  rintro e2 w2 ⟨rfl, hw2⟩
  have hb2 : Below w1.heap.size w1 w2 := by rw [hw2]; exact (Below.refl _ w1).alloc (Nat.le_refl _) _
  have hf2 : w2.heap[w1.heap.size]? = some (.cells fieldsV 9) := by rw [hw2]; exact heap_new w1 _
  have HF2 := Lib.hid hf2
  have HB2 := Lib.hid (HB1.out.trans (hb2.mono HB1.out.size))
  clear hb2 hf2 hw2 hid k0 k1 k2 k3 k4 k5 k6 k7 k8 k9 k10
  go_wp2_with fail
  go_loopw [3, 5] (fun v3 p wr => ∃ k : Nat, k ≤ 6 ∧ p = .int .i64 (k : Int) ∧ v3 = .string (mk (partsT e k)) ∧ Below w2.heap.size w2 wr) (fun _ p _ => 6 - (intOf p).toNat)
  case atStart => exact ⟨0, Nat.zero_le _, rfl, rfl, Below.refl _ _⟩
  case round =>
    obtain ⟨k, hk, rfl, rfl, hbr⟩ := hrel
    have HBR := Lib.hid hbr
    have hbw : Below W.heap.size W wr := HB2.out.trans (hbr.mono HB2.out.size)
    have HBW := Lib.hid hbw
    by_cases hlt : k < 6
    · have hc := field_cell (row_below HF2.out hbr) hlt
      obtain ⟨F, hF⟩ : ∃ F, fieldL.getD k ByteArray.empty = F := ⟨_, rfl⟩
      have hgl := getL_len e F HQ.out HZ.out
      have hpl := partsT_len e k hk HQ.out HZ.out
      have hsu := partsT_succ e hlt
      rw [hF] at hc hsu
      have hfo := fun W' (h : Below W.heap.size W W') => HFO.out HQ.out F W' h
      obtain ⟨G, hG⟩ : ∃ G, (getL e F) = G := ⟨_, rfl⟩
      obtain ⟨X, hX⟩ : ∃ X, partsT e k = X := ⟨_, rfl⟩
      simp only [hG] at hfo hgl hsu
      rw [hX] at hsu hpl ⊢
      have hgs : G.size ≤ 400000 := by rw [← Array.length_toList] at *; exact hgl
      have hcat : mk X ++ ⟨#[124]⟩ ++ G = mk (partsT e (k + 1)) := by
        rw [hsu, ← str_cat, ← str_cat, show mk G.data.toList = G from (str_mk G).symm]
      have HC := Lib.hid hcat
      have HFF := Lib.hid hfo
      have hi1 : (k : Int) < 6 := by omega
      obtain ⟨k0, k1, k2, k3, k4, k5, k6, k7, k8, k9, k10⟩ := cells11 (row_below HX.out hbw)
      clear hF hG hX hcat hsu hfo hbr hbw hgl
      go_wp2_with fail
      go_region_with (go_at_call 58; refine (HFF.out _ (show Below W.heap.size W wr.drew from below_draw HBW.out 1)).mono ?_; rintro e3 w3 ⟨rfl, hb3⟩)
      all_goals (
        have HB3 := Lib.hid (HBR.out.trans (((below_draw (Below.refl _ wr) 1).trans hb3).mono HBR.out.size))
        clear hb3
        go_wp2_with fail
        go_roundw
        case rel => exact ⟨k + 1, by omega, by go_num, by rw [← HC.out], HB3.out⟩
        case measure => simp [intOf]; omega)
    · obtain rfl : k = 6 := by omega
      have hT : partsT e 6 = textE e := rfl
      rw [hT]
      go_wp2
      go_ret
      exact ⟨rfl, HB.out.trans (HBW.out.mono HB.out.size)⟩
end Evt
end Go.Proofs.YtghkalamlcfnnaaGreatDoor
