/- The walk of the law MergeSame. -/
import Derived.Test.YtghkalamlcfnnaaGreatDoorQMerged
import Derived.Test.YtghkalamlcfnnaaGreatDoorQSameE
namespace Go.Proofs.YtghkalamlcfnnaaGreatDoor
open Go Go.RowKit Go.Shelf Lmd
attribute [local go_sem] Oper.semAt_some
namespace Mg
open Evt Bk Df Tp Rul Day Cand Er
theorem three_good (w : World) (B1 : Nat) (p1 : Option Addr) (B2 : Nat) (p2 : Option Addr) (B3 : Nat) (p3 : Option Addr) (x y z T : List Ev) (er : Nat → Addr) (n0 : Int) (hv : Env w er n0) (h1 : BookO w B1 p1 x) (h2 : BookO w B2 p2 y) (h3 : BookO w B3 p3 z) (hM : mergeM x y z = (T, [])) :
    Calls Tryz.prog 11 #[.pointer p1, .pointer p2, .pointer p3] w fun r w' => Below w.heap.size w w' ∧ ∃ B, r = .returned (.tuple #[.pointer (some ⟨B + 1, 0, none⟩), .slice none 0 0]) ∧ Book w' B (B + 1) B T := by
  refine (three_any w B1 p1 B2 p2 B3 p3 x y z er n0 hv h1 h2 h3).mono fun r w' h => ?_
  unfold ThP at h
  rw [hM] at h
  obtain ⟨h1, h2⟩ := h
  rw [if_pos rfl] at h2
  obtain ⟨B, _, h3, h4⟩ := h2
  exact ⟨h1, B, h3, h4⟩
theorem three_clash (w : World) (B1 : Nat) (p1 : Option Addr) (B2 : Nat) (p2 : Option Addr) (B3 : Nat) (p3 : Option Addr) (x y z : List Ev) (X : List Cl) (er : Nat → Addr) (n0 : Int) (hv : Env w er n0) (h1 : BookO w B1 p1 x) (h2 : BookO w B2 p2 y) (h3 : BookO w B3 p3 z) (hM : (mergeM x y z).2 = X) (hX : X ≠ []) :
    Calls Tryz.prog 11 #[.pointer p1, .pointer p2, .pointer p3] w fun r w' => Below w.heap.size w w' ∧ ∃ v, r = .returned (.tuple #[.pointer none, v]) ∧ XReads w' v X := by
  refine (three_any w B1 p1 B2 p2 B3 p3 x y z er n0 hv h1 h2 h3).mono fun r w' h => ?_
  unfold ThP at h
  rw [hM] at h
  obtain ⟨h1, h2⟩ := h
  rw [if_neg hX] at h2
  exact ⟨h1, h2⟩
theorem neq_clash (a1 a2 : ByteArray) (w : World) : (binOp .neq 52 (.agg #[.string a1, .string a2]) (.agg #[.string a1, .string a2])).run Tryz.prog w = .ok (.bool false) w := by
  have hf : Tryz.prog.fieldsOf 52 = #[⟨"ID", 9, 0, false, "", "", 0⟩, ⟨"Field", 9, 1, false, "", "", 16⟩] := by kernel_rfl
  have h := run_equalIn_struct (P := Tryz.prog) w 9999 52 #[.string a1, .string a2] #[.string a1, .string a2] (by kernel_rfl) (by kernel_rfl)
  rw [hf] at h
  have hi : ∀ (a b : ByteArray) (w : World), (Op.equalIn 9999 9 (.string a) (.string b)).run Tryz.prog w = .ok (a.toList == b.toList) w := fun a b w => run_equalIn_string w 9998 _ a b Tryz.underlying9
  have hp0 : ∀ a b : ByteArray, (part 9 #[.string a, .string b] 0).run Tryz.prog w = .ok (.string a) w := fun a b => by kernel_rfl
  have hp1 : ∀ a b : ByteArray, (part 9 #[.string a, .string b] 1).run Tryz.prog w = .ok (.string b) w := fun a b => by kernel_rfl
  simp only [Op.eqFields] at h
  rw [if_pos (by decide)] at h
  simp only [hi, hp0, Sem.run_bind, Result.andThen_ok] at h
  have he : (Op.equal 52 (.agg #[.string a1, .string a2]) (.agg #[.string a1, .string a2])).run Tryz.prog w = .ok true w := by
    refine h.trans ?_
    rw [if_neg (by simp), if_pos (by decide)]
    simp only [hi, hp1, Sem.run_bind, Result.andThen_ok]
    simp
  simp [binOp, go_sem, he, Result.andThen]
set_option maxRecDepth 100000 in
set_option maxHeartbeats 16000000 in
theorem mergeSame_any (xs1 xs2 xs3 : List EvV) (v1 v2 v3 : Value) (er : Nat → Addr) (n0 : Int) (w : World) (hv : Env w er n0) (hr1 : EReads w v1 xs1) (hr2 : EReads w v2 xs2) (hr3 : EReads w v3 xs3) (hf1 : ∀ x ∈ xs1, Fin64 x.e) (hf2 : ∀ x ∈ xs2, Fin64 x.e) (hf3 : ∀ x ∈ xs3, Fin64 x.e) :
    Calls Tryz.prog 5 #[v1, v2, v3] w fun r w' => r = .returned (.bool true) ∧ Below w.heap.size w w' := by
  have HV := Lib.hid hv
  have HR1 := Lib.hid hr1
  have HR2 := Lib.hid hr2
  have HR3 := Lib.hid hr3
  have HF1 := Lib.hid hf1
  have HF2 := Lib.hid hf2
  have HF3 := Lib.hid hf3
  have HDF := Lib.hid (merged_any er n0 w hv)
  clear hv hr1 hr2 hr3 hf1 hf2 hf3
  go_enter Tryz.func5, Tryz.ntmps5
  go_wp2_with fail
  (with_reducible refine HDF.out.mono ?_)
  rintro e1 w1 ⟨rfl, hb1⟩
  have HB1 := Lib.hid hb1
  have HL1 := Lib.hid (longE_any xs1 v1 w1 (HR1.out.below hb1) HF1.out)
  clear hb1
  go_upto_region 2 with fail
  go_cut [38] from 26 (fun s wc => ∃ q : Bool, s = .bool q ∧ Below w.heap.size w wc ∧ (q = false → (xs1.length ≤ 70 ∧ ∀ x ∈ xs1, ¬ LongP x.e) ∧ (xs2.length ≤ 70 ∧ ∀ x ∈ xs2, ¬ LongP x.e) ∧ (xs3.length ≤ 70 ∧ ∀ x ∈ xs3, ¬ LongP x.e)))
  case first =>
    go_wp2_with fail
    (with_reducible refine HL1.out.mono ?_)
    rintro e2 w2 ⟨c1, rfl, hc0, hc1, hcl1, hb2⟩
    have HB2 := Lib.hid (HB1.out.trans (hb2.mono HB1.out.size))
    have HC1 := Lib.hid hcl1
    have HL2 := Lib.hid (longE_any xs2 v2 w2 (HR2.out.below HB2.out) HF2.out)
    clear hb2 hcl1
    go_wp2_with fail
    (with_reducible refine HL2.out.mono ?_)
    rintro e3 w3 ⟨c2, rfl, hd0, hd1, hcl2, hb3⟩
    have HB3 := Lib.hid (HB2.out.trans (hb3.mono HB2.out.size))
    have HC2 := Lib.hid hcl2
    have HL3 := Lib.hid (longE_any xs3 v3 w3 (HR3.out.below HB3.out) HF3.out)
    clear hb3 hcl2
    have hw1 : IntKind.i64.wrap (c1 + c2) = c1 + c2 := by
      rw [show c1 + c2 = (((c1 + c2).toNat : Nat) : Int) by omega]; exact IntWalk.i64_in _ (by omega)
    go_wp2_with fail
    (with_reducible refine HL3.out.mono ?_)
    rintro e4 w4 ⟨c3, rfl, hg0, hg1, hcl3, hb4⟩
    have HB4 := Lib.hid (HB3.out.trans (hb4.mono HB3.out.size))
    have HC3 := Lib.hid hcl3
    have hw2 : IntKind.i64.wrap (c1 + c2 + c3) = c1 + c2 + c3 := by
      rw [show c1 + c2 + c3 = (((c1 + c2 + c3).toNat : Nat) : Int) by omega]; exact IntWalk.i64_in _ (by omega)
    clear hb4 hcl3
    by_cases hc : 0 < c1 + c2 + c3
    · go_wp2_with fail
      go_meet
      exact ⟨true, rfl, HB4.out, fun h => by cases h⟩
    · have HC := Lib.hid hc
      go_wp2_with fail
      go_meet
      exact ⟨_, rfl, HB4.out, fun _ => ⟨HC1.out (by have := HC.out; omega), HC2.out (by have := HC.out; omega), HC3.out (by have := HC.out; omega)⟩⟩
  case rest =>
    obtain ⟨q, rfl, hbc, hq⟩ := hcut
    have HBC := Lib.hid hbc
    cases q with
    | true =>
      clear hq hbc
      go_wp2
      go_ret
      exact ⟨rfl, HBC.out⟩
    | false =>
      obtain ⟨⟨l1, m1⟩, ⟨l2, m2⟩, l3, m3⟩ := hq rfl
      have hof := bookOf_any xs1 v1 er wc (HV.out.below hbc).errs (HR1.out.below hbc) (fun x hx => size_of (m1 x hx)) (by omega)
      have ho2 := fun W (hw : Below w.heap.size w W) => bookOf_any xs2 v2 er W (HV.out.below hw).errs (HR2.out.below hw) (fun x hx => size_of (m2 x hx)) (by omega)
      have ho3 := fun W (hw : Below w.heap.size w W) => bookOf_any xs3 v3 er W (HV.out.below hw).errs (HR3.out.below hw) (fun x hx => size_of (m3 x hx)) (by omega)
      unfold OfP at hof ho2 ho3
      have HOF := Lib.hid hof
      have HO2 := Lib.hid ho2
      have HO3 := Lib.hid ho3
      clear hq hbc hof ho2 ho3 m1 m2 m3 l1 l2 l3
      go_wp2_with fail
      (with_reducible refine HOF.out.mono ?_)
      rintro e3 w3 ⟨u3, ys3, rfl, hbo⟩
      obtain ⟨a3, c3, rfl⟩ := hbo.model.shape
      obtain ⟨L1, hL1⟩ : ∃ L, bookL (xs1.map (·.e)) = L := ⟨_, rfl⟩
      rw [hL1] at hbo
      obtain ⟨p1, hp1⟩ : ∃ p, wc.heap.size + 1 = p := ⟨_, rfl⟩
      rw [hp1] at hbo
      rw [show wc.heap.size + 2 = p1 + 1 by omega]
      have HBO := Lib.hid hbo
      clear hbo hL1 hp1
      go_upto_region 5 with fail
      generalize hW4 : w3.alloc _ = W4
      have hb4 : Below w3.heap.size w3 W4 := by rw [← hW4]; exact (Below.refl _ w3).alloc (Nat.le_refl _) _
      have HB4 := Lib.hid (HBC.out.trans ((HBO.out.low.mono HBC.out.size).trans (hb4.mono (Nat.le_trans HBC.out.size HBO.out.low.size))))
      have HX := Lib.hid (HBO.out.book.below hb4)
      clear hW4 hb4 HBO HOF
      go_wp2_with fail
      (with_reducible refine (HO2.out _ HB4.out).mono ?_)
      rintro e5 w5 ⟨u5, ys5, rfl, hbo⟩
      obtain ⟨a5, c5, rfl⟩ := hbo.model.shape
      obtain ⟨L2, hL2⟩ : ∃ L, bookL (xs2.map (·.e)) = L := ⟨_, rfl⟩
      rw [hL2] at hbo
      obtain ⟨p2, hp2⟩ : ∃ p, W4.heap.size + 1 = p := ⟨_, rfl⟩
      rw [hp2] at hbo
      rw [show W4.heap.size + 2 = p2 + 1 by omega]
      have HBO := Lib.hid hbo
      clear hbo hL2 hp2
      go_upto_region 6 with fail
      generalize hW6 : w5.alloc _ = W6
      have hb6 : Below w5.heap.size w5 W6 := by rw [← hW6]; exact (Below.refl _ w5).alloc (Nat.le_refl _) _
      have hb46 := HBO.out.low.trans (hb6.mono HBO.out.low.size)
      have HB6 := Lib.hid (HB4.out.trans (hb46.mono HB4.out.size))
      have HX6 := Lib.hid (HX.out.below hb46)
      have HY := Lib.hid (HBO.out.book.below hb6)
      clear hW6 hb6 hb46 HBO HO2 HX
      go_wp2_with fail
      (with_reducible refine (HO3.out _ HB6.out).mono ?_)
      rintro e7 w7 ⟨u7, ys7, rfl, hbo⟩
      obtain ⟨a7, c7, rfl⟩ := hbo.model.shape
      obtain ⟨L3, hL3⟩ : ∃ L, bookL (xs3.map (·.e)) = L := ⟨_, rfl⟩
      rw [hL3] at hbo
      obtain ⟨p3, hp3⟩ : ∃ p, W6.heap.size + 1 = p := ⟨_, rfl⟩
      rw [hp3] at hbo
      rw [show W6.heap.size + 2 = p3 + 1 by omega]
      have HBO := Lib.hid hbo
      clear hbo hL3 hp3
      go_upto_region 7 with fail
      generalize hW8 : w7.alloc _ = W8
      have hb8 : Below w7.heap.size w7 W8 := by rw [← hW8]; exact (Below.refl _ w7).alloc (Nat.le_refl _) _
      have hb68 := HBO.out.low.trans (hb8.mono HBO.out.low.size)
      have HB8 := Lib.hid (HB6.out.trans (hb68.mono HB6.out.size))
      have HX8 := Lib.hid (HX6.out.below hb68)
      have HY8 := Lib.hid (HY.out.below hb68)
      have HZ8 := Lib.hid (HBO.out.book.below hb8)
      clear hW8 hb8 hb68 HBO HO3 HX6 HY
      have gx := book_fine HX8.out
      have gy := book_fine HY8.out
      have gz := book_fine HZ8.out
      have HT1 := Lib.hid (three_good W8 _ _ _ _ _ _ L1 L2 L2 L2 er n0 (HV.out.below HB8.out) HX8.out.or HY8.out.or HY8.out.or (merge_same gy))
      have HT2 := Lib.hid (fun W (hw : Below W8.heap.size W8 W) => three_good W _ _ _ _ _ _ L1 L2 L1 L2 er n0 ((HV.out.below HB8.out).below hw) (HX8.out.below hw).or (HY8.out.below hw).or (HX8.out.below hw).or (merge_left gy))
      have HT3 := Lib.hid (fun W (hw : Below W8.heap.size W8 W) => three_good W _ _ _ _ _ _ L1 L1 L2 L2 er n0 ((HV.out.below HB8.out).below hw) (HX8.out.below hw).or (HX8.out.below hw).or (HY8.out.below hw).or (merge_right gy))
      have HSW := Lib.hid (merge_swap (x := L1) gy gz)
      clear gx gy gz
      go_wp2_with fail
      (with_reducible refine HT1.out.mono ?_)
      rintro e9 w9 ⟨hb9, P, rfl, hP⟩
      have HP := Lib.hid hP
      have HB9 := Lib.hid hb9
      clear hP hb9 HT1
      go_wp2_with fail
      (with_reducible refine (HT2.out _ HB9.out).mono ?_)
      rintro e10 w10 ⟨hb10, Q, rfl, hQ⟩
      have HQ := Lib.hid hQ
      have HP1 := Lib.hid (HP.out.below hb10)
      have HB10 := Lib.hid (HB9.out.trans (hb10.mono HB9.out.size))
      clear hQ hb10 HT2 HP
      go_wp2_with fail
      (with_reducible refine (HT3.out _ HB10.out).mono ?_)
      rintro e11 w11 ⟨hb11, R, rfl, hR⟩
      have HR := Lib.hid hR
      have HP2 := Lib.hid (HP1.out.below hb11)
      have HQ2 := Lib.hid (HQ.out.below hb11)
      have HB11 := Lib.hid (HB10.out.trans (hb11.mono HB10.out.size))
      have HS1 := Lib.hid (same_self w11 _ _ _ _ L2 er ((HV.out.below HB8.out).below HB11.out).tb HP2.out.or (HY8.out.below HB11.out).or)
      have HS2 := Lib.hid (fun W (hw : Below w11.heap.size w11 W) => same_self W _ _ _ _ L2 er (((HV.out.below HB8.out).below HB11.out).below hw).tb (HQ2.out.below hw).or ((HY8.out.below HB11.out).below hw).or)
      have HS3 := Lib.hid (fun W (hw : Below w11.heap.size w11 W) => same_self W _ _ _ _ L2 er (((HV.out.below HB8.out).below HB11.out).below hw).tb (hR.below hw).or ((HY8.out.below HB11.out).below hw).or)
      clear hR hb11 HT3 HP1 HQ
      go_wp2_with fail
      (with_reducible refine HS1.out.mono ?_)
      rintro e12 w12 ⟨rfl, hb12⟩
      have HB12 := Lib.hid hb12
      clear hb12
      go_wp2_with fail
      (with_reducible refine (HS2.out _ HB12.out).mono ?_)
      rintro e13 w13 ⟨rfl, hb13⟩
      have HB13 := Lib.hid (HB12.out.trans (hb13.mono HB12.out.size))
      clear hb13
      go_wp2_with fail
      (with_reducible refine (HS3.out _ HB13.out).mono ?_)
      rintro e14 w14 ⟨rfl, hb14⟩
      have hb14' := HB13.out.trans (hb14.mono HB13.out.size)
      have hb84 := HB11.out.trans (hb14'.mono HB11.out.size)
      have HB14 := Lib.hid (HB8.out.trans (hb84.mono HB8.out.size))
      have HXa := Lib.hid (HX8.out.below hb84)
      have HYa := Lib.hid (HY8.out.below hb84)
      have HZa := Lib.hid (HZ8.out.below hb84)
      clear hb14 hb14' hb84 HS1 HS2 HS3 HB12 HB13 HB9 HB10 HB11 HP2 HQ2 HR HX8 HY8 HZ8 HB8
      by_cases hbad : (mergeM L1 L2 L3).2 = []
      · obtain ⟨M, hM⟩ : ∃ M, mergeM L1 L2 L3 = (M, []) := ⟨(mergeM L1 L2 L3).1, by rw [← hbad]⟩
        have HT1 := Lib.hid (three_good w14 _ _ _ _ _ _ L1 L2 L3 M er n0 (HV.out.below HB14.out) HXa.out.or HYa.out.or HZa.out.or hM)
        have HT2 := Lib.hid (fun W (hw : Below w14.heap.size w14 W) => three_good W _ _ _ _ _ _ L1 L3 L2 M er n0 ((HV.out.below HB14.out).below hw) (HXa.out.below hw).or (HZa.out.below hw).or (HYa.out.below hw).or (by rw [← HSW.out]; exact hM))
        clear hM hbad
        go_wp2_with fail
        (with_reducible refine HT1.out.mono ?_)
        rintro e15 w15 ⟨hb15, S, rfl, hS⟩
        have HS := Lib.hid hS
        have HB15 := Lib.hid hb15
        clear hS hb15 HT1
        go_wp2_with fail
        (with_reducible refine (HT2.out _ HB15.out).mono ?_)
        rintro e16 w16 ⟨hb16, T, rfl, hT⟩
        have HB16 := Lib.hid (HB14.out.trans ((HB15.out.trans (hb16.mono HB15.out.size)).mono HB14.out.size))
        have HSS := Lib.hid (same_self w16 _ _ _ _ M er (HV.out.below HB16.out).tb (HS.out.below hb16).or hT.or)
        clear hT hb16 HT2 HS HB15
        go_wp2_with fail
        refine wp_loop_rounds 1 ?_
        rw [rounds_succ]
        go_wp2_with fail
        (with_reducible refine HSS.out.mono ?_)
        rintro e17 w17 ⟨rfl, hb17⟩
        have HB17 := Lib.hid (HB16.out.trans (hb17.mono HB16.out.size))
        clear hb17
        go_wp2
        go_ret
        exact ⟨rfl, HB17.out⟩
      · obtain ⟨X, hX⟩ : ∃ X, (mergeM L1 L2 L3).2 = X := ⟨_, rfl⟩
        rw [hX] at hbad
        have HNE := Lib.hid hbad
        have HT1 := Lib.hid (three_clash w14 _ _ _ _ _ _ L1 L2 L3 X er n0 (HV.out.below HB14.out) HXa.out.or HYa.out.or HZa.out.or hX hbad)
        have HT2 := Lib.hid (fun W (hw : Below w14.heap.size w14 W) => three_clash W _ _ _ _ _ _ L1 L3 L2 X er n0 ((HV.out.below HB14.out).below hw) (HXa.out.below hw).or (HZa.out.below hw).or (HYa.out.below hw).or (by rw [← HSW.out]; exact hX) hbad)
        obtain ⟨n, hn⟩ : ∃ n, X.length = n := ⟨_, rfl⟩
        have hn0 : n ≠ 0 := fun h => hbad (List.length_eq_zero_iff.1 (hn.trans h))
        have hnl : n ≤ 2000 := by
          have h := three_few L1 L2 L3 (ids3 L1 L2 L3) [] []
          have h2 := ids3_len L1 L2 L3
          have f1 := HXa.out.few
          have f2 := HYa.out.few
          have f3 := HZa.out.few
          change (mergeM L1 L2 L3).2.length ≤ _ at h
          rw [hX, List.length_nil] at h
          omega
        have HN := Lib.hid hn
        clear hX hbad hn
        go_wp2_with fail
        (with_reducible refine HT1.out.mono ?_)
        rintro e15 w15 ⟨hb15, v15, rfl, hx15⟩
        obtain ⟨a15, c15, rfl⟩ := hx15.shape
        have HX15 := Lib.hid hx15
        have HB15 := Lib.hid hb15
        clear hx15 hb15 HT1
        go_wp2_with fail
        (with_reducible refine (HT2.out _ HB15.out).mono ?_)
        rintro e16 w16 ⟨hb16, v16, rfl, hx16⟩
        obtain ⟨a16, c16, rfl⟩ := hx16.shape
        have HB16 := Lib.hid (HB14.out.trans ((HB15.out.trans (hb16.mono HB15.out.size)).mono HB14.out.size))
        have HX1 := Lib.hid (HX15.out.below hb16)
        have HX2 := Lib.hid hx16
        rw [HN.out] at HX1 HX2 ⊢
        have hpos : (0 : Int) < (n : Int) := by omega
        clear hx16 hb16 HT2 HX15 HB15
        go_wp2_with fail
        go_loopw [24] (fun i wr => ∃ k : Nat, k ≤ n ∧ i = .int .i64 (k : Int) ∧ Below w16.heap.size w16 wr) (fun i _ => n - (intOf i).toNat)
        case atStart => exact ⟨0, Nat.zero_le _, rfl, Below.refl _ _⟩
        case round =>
          obtain ⟨k, hk, rfl, hbr⟩ := hrel
          have HBR := Lib.hid hbr
          by_cases hlt : k < n
          · obtain ⟨-, b1, o1, ea1, hc1⟩ := (HX1.out.below hbr).at HNE.out
            obtain ⟨-, b2, o2, ea2, hc2⟩ := (HX2.out.below hbr).at HNE.out
            subst ea1 ea2
            obtain ⟨p0, p1⟩ := hc1 k (by rw [HN.out]; exact hlt)
            obtain ⟨q0, q1⟩ := hc2 k (by rw [HN.out]; exact hlt)
            have hi1 : (k : Int) < (n : Int) := by omega
            obtain ⟨x, hx⟩ : ∃ x, elx X k = x := ⟨_, rfl⟩
            rw [hx] at p0 p1 q0 q1
            have hnm := fun w => neq_clash x.1 x.2 w
            clear hc1 hc2 hx hbr
            go_wp2
            go_quiet (fail)
            go_wp2
            go_roundw
            case rel => exact ⟨k + 1, by omega, by go_num, below_draw HBR.out _⟩
            case measure => simp [intOf]; omega
          · obtain rfl : k = n := by omega
            have HBZ := Lib.hid (HB16.out.trans (HBR.out.mono HB16.out.size))
            clear hbr HBR
            go_wp2
            go_ret
            exact ⟨rfl, HBZ.out⟩
end Mg
end Go.Proofs.YtghkalamlcfnnaaGreatDoor
