/- The walk of the law DiffBack. -/
import Derived.Test.YtenmeaoagepfnaaGreatDoorDfBack
namespace Go.Proofs.YtenmeaoagepfnaaGreatDoor
open Go Go.RowKit Go.Shelf Lmd
attribute [local go_sem] Oper.semAt_some
namespace Df
open Evt Bk Tp Rul Day Cand Er

theorem dif_none (L : List Ev) : dif L L = [] := dif_self fun id h => by rcases (uni_mem L L id).1 h with h | h <;> exact h
theorem back_law {a b : List Ev} (ha : Good a) (hb : Good b) (i : Nat) (h0 : (apL i b (backL (dif a b))).1 = 0) : (apL i b (backL (dif a b))).2.2 = a :=
  ap_back ha hb (uni_nodup a b) (uni_mem a b) i h0
theorem back_len (l : List Chg) : (backL l).length = l.length := by simp [backL]
set_option maxRecDepth 100000 in
set_option maxHeartbeats 16000000 in
theorem diffBack_any (xs1 xs2 : List EvV) (v1 v2 : Value) (er : Nat → Addr) (n0 : Int) (w : World) (hv : Env w er n0) (he : E9 w er) (hr1 : EReads w v1 xs1) (hr2 : EReads w v2 xs2) (hf1 : ∀ x ∈ xs1, Fin64 x.e) (hf2 : ∀ x ∈ xs2, Fin64 x.e) :
    Calls Tryz.prog 5 #[v1, v2] w fun r w' => r = .returned (.bool true) ∧ Below w.heap.size w w' := by
  have HV := Lib.hid hv
  have HE := Lib.hid he
  have HR1 := Lib.hid hr1
  have HR2 := Lib.hid hr2
  have HF1 := Lib.hid hf1
  have HF2 := Lib.hid hf2
  have HDF := Lib.hid (differed_any er w hv.tb)
  clear hv he hr1 hr2 hf1 hf2
  go_enter Tryz.func5, Tryz.ntmps5
  go_wp2_with fail
  (with_reducible refine HDF.out.mono ?_)
  rintro e1 w1 ⟨rfl, hb1⟩
  have HB1 := Lib.hid hb1
  have HL1 := Lib.hid (longE_any xs1 v1 w1 (HR1.out.below hb1) HF1.out)
  clear hb1
  go_upto_region 2 with fail
  go_cut [25] from 16 (fun s wc => ∃ q : Bool, s = .bool q ∧ Below w.heap.size w wc ∧ (q = false → (xs1.length ≤ 70 ∧ ∀ x ∈ xs1, ¬ LongP x.e) ∧ (xs2.length ≤ 70 ∧ ∀ x ∈ xs2, ¬ LongP x.e)))
  case first =>
    go_wp2_with fail
    (with_reducible refine HL1.out.mono ?_)
    rintro e2 w2 ⟨c1, rfl, hc0, hc1, hcl1, hb2⟩
    have HB2 := Lib.hid (HB1.out.trans (hb2.mono HB1.out.size))
    have HC1 := Lib.hid hcl1
    have HL2 := Lib.hid (longE_any xs2 v2 w2 (HR2.out.below HB2.out) HF2.out)
    clear hb2 hcl1
    go_wp2_with fail
    (with_reducible refine HL2.out.mono ?_)
    rintro e3 w3 ⟨c2, rfl, hd0, hd1, hcl2, hb3⟩
    have HB3 := Lib.hid (HB2.out.trans (hb3.mono HB2.out.size))
    have HC2 := Lib.hid hcl2
    have hw1 : IntKind.i64.wrap (c1 + c2) = c1 + c2 := by
      rw [show c1 + c2 = (((c1 + c2).toNat : Nat) : Int) by omega]; exact IntWalk.i64_in _ (by omega)
    clear hb3 hcl2
    by_cases hc : 0 < c1 + c2
    · go_wp2_with fail
      go_meet
      exact ⟨true, rfl, HB3.out, fun h => by cases h⟩
    · have HC := Lib.hid hc
      go_wp2_with fail
      go_meet
      exact ⟨_, rfl, HB3.out, fun _ => ⟨HC1.out (by have := HC.out; omega), HC2.out (by have := HC.out; omega)⟩⟩
  case rest =>
    obtain ⟨wa, hwa⟩ : ∃ x, x = wc := ⟨_, rfl⟩
    subst hwa
    obtain ⟨q, rfl, hbc, hq⟩ := hcut
    have HBC := Lib.hid hbc
    cases q with
    | true =>
      clear hq hbc
      go_wp2
      go_ret
      exact ⟨rfl, HBC.out⟩
    | false =>
      obtain ⟨⟨l1, m1⟩, l2, m2⟩ := hq rfl
      have hof := bookOf_any xs1 v1 er wa (HV.out.below hbc).errs (HR1.out.below hbc) (fun x hx => size_of (m1 x hx)) (by omega)
      have ho2 := fun W (hw : Below w.heap.size w W) => bookOf_any xs2 v2 er W (HV.out.below hw).errs (HR2.out.below hw) (fun x hx => size_of (m2 x hx)) (by omega)
      unfold OfP at hof ho2
      have HOF := Lib.hid hof
      have HO2 := Lib.hid ho2
      clear hq hbc hof ho2 m1 m2 l1 l2
      go_wp2_with fail
      (with_reducible refine HOF.out.mono ?_)
      rintro e3 w3 ⟨u3, ys3, rfl, hbo⟩
      obtain ⟨a3, c3, rfl⟩ := hbo.model.shape
      obtain ⟨L1, hL1⟩ : ∃ L, bookL (xs1.map (·.e)) = L := ⟨_, rfl⟩
      rw [hL1] at hbo
      obtain ⟨p1, hp1⟩ : ∃ p, wa.heap.size + 1 = p := ⟨_, rfl⟩
      rw [hp1] at hbo
      rw [show wa.heap.size + 2 = p1 + 1 by omega]
      have HBO := Lib.hid hbo
      clear hbo hL1 hp1
      go_upto_region 5 with fail
      generalize hW4 : w3.alloc _ = W4
      have hb4 : Below w3.heap.size w3 W4 := by rw [← hW4]; exact (Below.refl _ w3).alloc (Nat.le_refl _) _
      have HB4 := Lib.hid (HBC.out.trans ((HBO.out.low.mono HBC.out.size).trans (hb4.mono (Nat.le_trans HBC.out.size HBO.out.low.size))))
      have HX := Lib.hid (HBO.out.book.below hb4)
      clear hW4 hb4 HBO HOF
      go_wp2_with fail
      (with_reducible refine (HO2.out _ HB4.out).mono ?_)
      rintro e5 w5 ⟨u5, ys5, rfl, hbo⟩
      obtain ⟨a5, c5, rfl⟩ := hbo.model.shape
      obtain ⟨L2, hL2⟩ : ∃ L, bookL (xs2.map (·.e)) = L := ⟨_, rfl⟩
      rw [hL2] at hbo
      obtain ⟨p2, hp2⟩ : ∃ p, W4.heap.size + 1 = p := ⟨_, rfl⟩
      rw [hp2] at hbo
      rw [show W4.heap.size + 2 = p2 + 1 by omega]
      have HBO := Lib.hid hbo
      clear hbo hL2 hp2
      go_upto_region 6 with fail
      generalize hW8 : w5.alloc _ = W8
      have hb6 : Below w5.heap.size w5 W8 := by rw [← hW8]; exact (Below.refl _ w5).alloc (Nat.le_refl _) _
      have hb46 := HBO.out.low.trans (hb6.mono HBO.out.low.size)
      have HB8 := Lib.hid (HB4.out.trans (hb46.mono HB4.out.size))
      have HX8 := Lib.hid (HX.out.below hb46)
      have HY8 := Lib.hid (HBO.out.book.below hb6)
      have HDX := Lib.hid (diff_any W8 _ _ _ _ L1 L2 er (HV.out.below HB8.out).tb HX8.out.or HY8.out.or)
      have HDS := Lib.hid (fun W (hw : Below W8.heap.size W8 W) => diff_any W _ _ _ _ L1 L1 er ((HV.out.below HB8.out).below hw).tb (HX8.out.below hw).or (HX8.out.below hw).or)
      clear hW8 hb6 hb46 HBO HO2 HX
      have hs1 := dif_small HX8.out HY8.out
      have hn1 := dif_few HX8.out HY8.out
      have hl1 := fun h => dif_law (book_fine HX8.out) (book_fine HY8.out) 0 h
      have hl2 := fun h => back_law (book_fine HX8.out) (book_fine HY8.out) 0 h
      have hbb := back_back (dif L1 L2)
      have hbn := back_len (dif L1 L2)
      have hs2 : ∀ c ∈ backL (dif L1 L2), c.id.size ≤ 9223372036854775807 ∧ c.new.size ≤ 30000 := by
        intro c hc
        obtain ⟨d, hd, rfl⟩ := List.mem_map.1 hc
        have := hs1 d (List.mem_reverse.1 hd)
        exact ⟨this.1, this.2.2⟩
      have hdx := HDX.out
      have hds := HDS.out
      unfold DiffP at hdx hds
      change Calls _ _ _ _ (fun r w' => ∃ v, r = .returned v ∧ w'.ownsRow W8.heap.size 82 4 v (dif L1 L2).length (cellsC (dif L1 L2)) ∧ Below W8.heap.size W8 w') at hdx
      change ∀ W, Below W8.heap.size W8 W → Calls _ _ _ W (fun r w' => ∃ v, r = .returned v ∧ w'.ownsRow W.heap.size 82 4 v (dif L1 L1).length (cellsC (dif L1 L1)) ∧ Below W.heap.size W w') at hds
      simp only [dif_none] at hds
      obtain ⟨D1, hD1⟩ : ∃ D, dif L1 L2 = D := ⟨_, rfl⟩
      rw [hD1] at hs1 hn1 hdx hs2 hbb hbn
      simp only [hD1] at hl1 hl2
      obtain ⟨D2, hD2⟩ : ∃ D, backL D1 = D := ⟨_, rfl⟩
      simp only [hD2] at hs2 hbb hbn hl2
      have HS1 := Lib.hid hs1
      have HS2 := Lib.hid hs2
      have HLA1 := Lib.hid hl1
      have HLA2 := Lib.hid hl2
      have HBB := Lib.hid hbb
      have HBN := Lib.hid hbn
      have HD2 := Lib.hid hD2
      have HDX' := Lib.hid hdx
      have HDS' := Lib.hid hds
      clear hs1 hs2 hl1 hl2 hdx hds hD1 hD2 HDX HDS hbb hbn
      go_wp2_with fail
      (with_reducible refine HDX'.out.mono ?_)
      rintro e9 w9 ⟨v9, rfl, hown9, hb9⟩
      have hc9 := creads_own hown9 rfl
      have HC9 := Lib.hid hc9
      have HB9 := Lib.hid hb9
      have hbk := back_any w9 v9 D1 hc9 (by omega)
      unfold BackP at hbk
      rw [HD2.out] at hbk
      have HBK := Lib.hid hbk
      clear hown9 hb9 hc9 hbk
      go_wp2_with fail
      (with_reducible refine HBK.out.mono ?_)
      rintro e10 w10 ⟨v10, rfl, hc10, hb10⟩
      have HC10 := Lib.hid hc10
      have HB10 := Lib.hid (HB9.out.trans (hb10.mono HB9.out.size))
      have HC9' := Lib.hid (HC9.out.below hb10)
      obtain ⟨a10, c10, rfl⟩ := hc10.shape
      obtain ⟨a9, c9, rfl⟩ := HC9.out.shape
      clear hb10 HC9 hc10
      obtain ⟨n1, hn⟩ : ∃ n, D1.length = n := ⟨_, rfl⟩
      rw [hn] at hn1 HC9' HBN
      have HN := Lib.hid hn
      have hbn := HBN.out
      rw [hn, hbn]
      rw [hbn] at HC10
      clear hn hbn
      go_upto_region 8 with fail
      go_cut [60] from 42 (fun s wc => s = .bool false ∧ Below w10.heap.size w10 wc)
      case first =>
        go_wp2_with fail
        (with_reducible refine (HDS'.out _ HB10.out).mono ?_)
        rintro e11 w11 ⟨v11, rfl, hown11, hb11⟩
        obtain ⟨a11, c11, rfl⟩ := own_at hown11
        have HB11 := Lib.hid hb11
        have hc10 := HC10.out.below hb11
        have HC9b := Lib.hid (HC9'.out.below hb11)
        have hbk := back_any w11 _ D2 hc10 (by rw [HBN.out]; omega)
        unfold BackP at hbk
        rw [HBB.out] at hbk
        have HBK2 := Lib.hid hbk
        clear hown11 hb11 hc10 hbk
        go_wp2_with fail
        (with_reducible refine HBK2.out.mono ?_)
        rintro e12 w12 ⟨v12, rfl, hc12, hb12⟩
        have hsc := sameChanges_any w12 _ _ D1 D1 hc12 (HC9b.out.below hb12) (by rw [HN.out]; omega)
        rw [decide_eq_true rfl] at hsc
        have HSC := Lib.hid hsc
        have HB12 := Lib.hid (HB11.out.trans (hb12.mono HB11.out.size))
        clear hc12 hb12 hsc
        go_wp2_with fail
        (with_reducible refine HSC.out.mono ?_)
        rintro e13 w13 ⟨rfl, hb13⟩
        have HB13 := Lib.hid (HB12.out.trans (hb13.mono HB12.out.size))
        clear hb13
        go_wp2_with fail
        go_meet
        exact ⟨rfl, HB13.out⟩
      case rest =>
        obtain ⟨rfl, hbw⟩ := hcut
        have HBW := Lib.hid (HB10.out.trans (hbw.mono HB10.out.size))
        have HC9b := Lib.hid (HC9'.out.below hbw)
        have HC10b := Lib.hid (HC10.out.below hbw)
        have hap1 := apply_any wc _ _ L1 D1 _ er n0 ((HV.out.below HB8.out).below HBW.out) ((HE.out.below HB8.out).below HBW.out) (HX8.out.below HBW.out).or HC9b.out (by rw [HN.out]; omega) (fun c hc => ⟨(HS1.out c hc).1, (HS1.out c hc).2.1⟩)
        have HAP1 := Lib.hid hap1
        clear hbw hap1
        go_wp2_with fail
        (with_reducible refine HAP1.out.mono ?_)
        rintro e11 w11 h11
        have hb11 := h11.1
        have HB11 := Lib.hid (HBW.out.trans (hb11.mono HBW.out.size))
        have HC10c := Lib.hid (HC10b.out.below hb11)
        clear hb11
        by_cases hk1 : (apL 0 L1 D1).1 = 0
        · obtain ⟨-, B1, rfl, hbk1⟩ := apP_good h11 hk1
          rw [HLA1.out hk1] at hbk1
          have HSA := Lib.hid (same_self w11 _ _ _ _ L2 er ((HV.out.below HB8.out).below HB11.out).tb hbk1.or (HY8.out.below HB11.out).or)
          clear h11 hbk1 hk1
          go_wp2_with fail
          (with_reducible refine HSA.out.mono ?_)
          rintro e12 w12 ⟨rfl, hb12⟩
          have HB12 := Lib.hid (HB11.out.trans (hb12.mono HB11.out.size))
          have HAP2 := Lib.hid (apply_any w12 _ _ L2 D2 _ er n0 ((HV.out.below HB8.out).below HB12.out) ((HE.out.below HB8.out).below HB12.out) (HY8.out.below HB12.out).or (HC10c.out.below hb12) (by rw [HBN.out]; omega) HS2.out)
          clear hb12
          go_wp2_with fail
          (with_reducible refine HAP2.out.mono ?_)
          rintro e13 w13 h13
          have hb13 := h13.1
          have HB13 := Lib.hid (HB12.out.trans (hb13.mono HB12.out.size))
          clear hb13
          by_cases hk2 : (apL 0 L2 D2).1 = 0
          · obtain ⟨-, B2, rfl, hbk2⟩ := apP_good h13 hk2
            rw [HLA2.out hk2] at hbk2
            have HSB := Lib.hid (same_self w13 _ _ _ _ L1 er ((HV.out.below HB8.out).below HB13.out).tb hbk2.or (HX8.out.below HB13.out).or)
            clear h13 hbk2 hk2
            go_wp2_with fail
            (with_reducible refine HSB.out.mono ?_)
            rintro e14 w14 ⟨rfl, hb14⟩
            have HB14 := Lib.hid (HB13.out.trans (hb14.mono HB13.out.size))
            clear hb14
            go_wp2
            go_ret
            exact ⟨rfl, HB8.out.trans (HB14.out.mono HB8.out.size)⟩
          · obtain ⟨-, f2, rfl⟩ := apP_bad h13 hk2
            clear h13 hk2
            go_wp2
            go_ret
            exact ⟨rfl, HB8.out.trans (HB13.out.mono HB8.out.size)⟩
        · obtain ⟨-, f1, rfl⟩ := apP_bad h11 hk1
          clear h11 hk1
          go_wp2
          go_ret
          exact ⟨rfl, HB8.out.trans (HB11.out.mono HB8.out.size)⟩
end Df
end Go.Proofs.YtenmeaoagepfnaaGreatDoor
