/- The walk of the law DiffChain. -/
import Derived.Test.YtenmeaoagepfnaaGreatDoorC5
namespace Go.Proofs.YtenmeaoagepfnaaGreatDoor
open Go Go.RowKit Go.Shelf Lmd
attribute [local go_sem] Oper.semAt_some
namespace Df
open Evt Bk Tp Rul Day Cand Er

set_option maxRecDepth 100000 in
set_option maxHeartbeats 16000000 in
theorem diffChain_any (xs1 xs2 xs3 : List EvV) (v1 v2 v3 : Value) (er : Nat → Addr) (n0 : Int) (w : World) (hv : Env w er n0) (he : E9 w er) (hr1 : EReads w v1 xs1) (hr2 : EReads w v2 xs2) (hr3 : EReads w v3 xs3) (hf1 : ∀ x ∈ xs1, Fin64 x.e) (hf2 : ∀ x ∈ xs2, Fin64 x.e) (hf3 : ∀ x ∈ xs3, Fin64 x.e) :
    Calls Tryz.prog 4 #[v1, v2, v3] w fun r w' => r = .returned (.bool true) ∧ Below w.heap.size w w' := by
  have HV := Lib.hid hv
  have HE := Lib.hid he
  have HR1 := Lib.hid hr1
  have HR2 := Lib.hid hr2
  have HR3 := Lib.hid hr3
  have HF1 := Lib.hid hf1
  have HF2 := Lib.hid hf2
  have HF3 := Lib.hid hf3
  have HDF := Lib.hid (differed_any er w hv.tb)
  clear hv he hr1 hr2 hr3 hf1 hf2 hf3
  go_enter Tryz.func4, Tryz.ntmps4
  go_wp2_with fail
  (with_reducible refine HDF.out.mono ?_)
  rintro e1 w1 ⟨rfl, hb1⟩
  have HB1 := Lib.hid hb1
  have HL1 := Lib.hid (longE_any xs1 v1 w1 (HR1.out.below hb1) HF1.out)
  clear hb1
  go_upto_region 2 with fail
  go_cut [36] from 24 (fun s wc => ∃ q : Bool, s = .bool q ∧ Below w.heap.size w wc ∧ (q = false → (xs1.length ≤ 70 ∧ ∀ x ∈ xs1, ¬ LongP x.e) ∧ (xs2.length ≤ 70 ∧ ∀ x ∈ xs2, ¬ LongP x.e) ∧ (xs3.length ≤ 70 ∧ ∀ x ∈ xs3, ¬ LongP x.e)))
  case first =>
    go_wp2_with fail
    (with_reducible refine HL1.out.mono ?_)
    rintro e2 w2 ⟨c1, rfl, hc0, hc1, hcl1, hb2⟩
    have HB2 := Lib.hid (HB1.out.trans (hb2.mono HB1.out.size))
    have HC1 := Lib.hid hcl1
    have HL2 := Lib.hid (longE_any xs2 v2 w2 (HR2.out.below HB2.out) HF2.out)
    clear hb2 hcl1
    go_wp2_with fail
    (with_reducible refine HL2.out.mono ?_)
    rintro e3 w3 ⟨c2, rfl, hd0, hd1, hcl2, hb3⟩
    have HB3 := Lib.hid (HB2.out.trans (hb3.mono HB2.out.size))
    have HC2 := Lib.hid hcl2
    have HL3 := Lib.hid (longE_any xs3 v3 w3 (HR3.out.below HB3.out) HF3.out)
    clear hb3 hcl2
    have hw1 : IntKind.i64.wrap (c1 + c2) = c1 + c2 := by
      rw [show c1 + c2 = (((c1 + c2).toNat : Nat) : Int) by omega]; exact IntWalk.i64_in _ (by omega)
    go_wp2_with fail
    (with_reducible refine HL3.out.mono ?_)
    rintro e4 w4 ⟨c3, rfl, hg0, hg1, hcl3, hb4⟩
    have HB4 := Lib.hid (HB3.out.trans (hb4.mono HB3.out.size))
    have HC3 := Lib.hid hcl3
    have hw2 : IntKind.i64.wrap (c1 + c2 + c3) = c1 + c2 + c3 := by
      rw [show c1 + c2 + c3 = (((c1 + c2 + c3).toNat : Nat) : Int) by omega]; exact IntWalk.i64_in _ (by omega)
    clear hb4 hcl3
    by_cases hc : 0 < c1 + c2 + c3
    · go_wp2_with fail
      go_meet
      exact ⟨true, rfl, HB4.out, fun h => by cases h⟩
    · have HC := Lib.hid hc
      go_wp2_with fail
      go_meet
      exact ⟨_, rfl, HB4.out, fun _ => ⟨HC1.out (by have := HC.out; omega), HC2.out (by have := HC.out; omega), HC3.out (by have := HC.out; omega)⟩⟩
  case rest =>
    obtain ⟨q, rfl, hbc, hq⟩ := hcut
    have HBC := Lib.hid hbc
    cases q with
    | true =>
      clear hq hbc
      go_wp2
      go_ret
      exact ⟨rfl, HBC.out⟩
    | false =>
      obtain ⟨⟨l1, m1⟩, ⟨l2, m2⟩, l3, m3⟩ := hq rfl
      have hof := bookOf_any xs1 v1 er wc (HV.out.below hbc).errs (HR1.out.below hbc) (fun x hx => size_of (m1 x hx)) (by omega)
      have ho2 := fun W (hw : Below w.heap.size w W) => bookOf_any xs2 v2 er W (HV.out.below hw).errs (HR2.out.below hw) (fun x hx => size_of (m2 x hx)) (by omega)
      have ho3 := fun W (hw : Below w.heap.size w W) => bookOf_any xs3 v3 er W (HV.out.below hw).errs (HR3.out.below hw) (fun x hx => size_of (m3 x hx)) (by omega)
      unfold OfP at hof ho2 ho3
      have HOF := Lib.hid hof
      have HO2 := Lib.hid ho2
      have HO3 := Lib.hid ho3
      clear hq hbc hof ho2 ho3 m1 m2 m3 l1 l2 l3
      go_wp2_with fail
      (with_reducible refine HOF.out.mono ?_)
      rintro e3 w3 ⟨u3, ys3, rfl, hbo⟩
      obtain ⟨a3, c3, rfl⟩ := hbo.model.shape
      obtain ⟨L1, hL1⟩ : ∃ L, bookL (xs1.map (·.e)) = L := ⟨_, rfl⟩
      rw [hL1] at hbo
      obtain ⟨p1, hp1⟩ : ∃ p, wc.heap.size + 1 = p := ⟨_, rfl⟩
      rw [hp1] at hbo
      rw [show wc.heap.size + 2 = p1 + 1 by omega]
      have HBO := Lib.hid hbo
      clear hbo hL1 hp1
      go_upto_region 5 with fail
      generalize hW4 : w3.alloc _ = W4
      have hb4 : Below w3.heap.size w3 W4 := by rw [← hW4]; exact (Below.refl _ w3).alloc (Nat.le_refl _) _
      have HB4 := Lib.hid (HBC.out.trans ((HBO.out.low.mono HBC.out.size).trans (hb4.mono (Nat.le_trans HBC.out.size HBO.out.low.size))))
      have HX := Lib.hid (HBO.out.book.below hb4)
      clear hW4 hb4 HBO HOF
      go_wp2_with fail
      (with_reducible refine (HO2.out _ HB4.out).mono ?_)
      rintro e5 w5 ⟨u5, ys5, rfl, hbo⟩
      obtain ⟨a5, c5, rfl⟩ := hbo.model.shape
      obtain ⟨L2, hL2⟩ : ∃ L, bookL (xs2.map (·.e)) = L := ⟨_, rfl⟩
      rw [hL2] at hbo
      obtain ⟨p2, hp2⟩ : ∃ p, W4.heap.size + 1 = p := ⟨_, rfl⟩
      rw [hp2] at hbo
      rw [show W4.heap.size + 2 = p2 + 1 by omega]
      have HBO := Lib.hid hbo
      clear hbo hL2 hp2
      go_upto_region 6 with fail
      generalize hW6 : w5.alloc _ = W6
      have hb6 : Below w5.heap.size w5 W6 := by rw [← hW6]; exact (Below.refl _ w5).alloc (Nat.le_refl _) _
      have hb46 := HBO.out.low.trans (hb6.mono HBO.out.low.size)
      have HB6 := Lib.hid (HB4.out.trans (hb46.mono HB4.out.size))
      have HX6 := Lib.hid (HX.out.below hb46)
      have HY := Lib.hid (HBO.out.book.below hb6)
      clear hW6 hb6 hb46 HBO HO2 HX
      go_wp2_with fail
      (with_reducible refine (HO3.out _ HB6.out).mono ?_)
      rintro e7 w7 ⟨u7, ys7, rfl, hbo⟩
      obtain ⟨a7, c7, rfl⟩ := hbo.model.shape
      obtain ⟨L3, hL3⟩ : ∃ L, bookL (xs3.map (·.e)) = L := ⟨_, rfl⟩
      rw [hL3] at hbo
      obtain ⟨p3, hp3⟩ : ∃ p, W6.heap.size + 1 = p := ⟨_, rfl⟩
      rw [hp3] at hbo
      rw [show W6.heap.size + 2 = p3 + 1 by omega]
      have HBO := Lib.hid hbo
      clear hbo hL3 hp3
      go_upto_region 7 with fail
      generalize hW8 : w7.alloc _ = W8
      have hb8 : Below w7.heap.size w7 W8 := by rw [← hW8]; exact (Below.refl _ w7).alloc (Nat.le_refl _) _
      have hb68 := HBO.out.low.trans (hb8.mono HBO.out.low.size)
      have HB8 := Lib.hid (HB6.out.trans (hb68.mono HB6.out.size))
      have HX8 := Lib.hid (HX6.out.below hb68)
      have HY8 := Lib.hid (HY.out.below hb68)
      have HZ8 := Lib.hid (HBO.out.book.below hb8)
      have HDX := Lib.hid (diff_any W8 _ _ _ _ L1 L2 er (HV.out.below HB8.out).tb HX8.out.or HY8.out.or)
      have HDY := Lib.hid (fun W (hw : Below W8.heap.size W8 W) => diff_any W _ _ _ _ L2 L3 er ((HV.out.below HB8.out).below hw).tb (HY8.out.below hw).or (HZ8.out.below hw).or)
      clear hW8 hb8 hb68 HBO HO3 HX6 HY
      have hs1 := dif_small HX8.out HY8.out
      have hs2 := dif_small HY8.out HZ8.out
      have hn1 := dif_few HX8.out HY8.out
      have hn2 := dif_few HY8.out HZ8.out
      have hch := fun h1 h2 => chain_law (book_fine HX8.out) (book_fine HY8.out) (book_fine HZ8.out) h1 h2
      have hl1 := fun h => dif_law (book_fine HX8.out) (book_fine HY8.out) 0 h
      have hl2 := fun h => dif_law (book_fine HY8.out) (book_fine HZ8.out) 0 h
      have hdx := HDX.out
      have hdy := HDY.out
      unfold DiffP at hdx hdy
      change Calls _ _ _ _ (fun r w' => ∃ v, r = .returned v ∧ w'.ownsRow W8.heap.size 82 4 v (dif L1 L2).length (cellsC (dif L1 L2)) ∧ Below W8.heap.size W8 w') at hdx
      change ∀ W, Below W8.heap.size W8 W → Calls _ _ _ W (fun r w' => ∃ v, r = .returned v ∧ w'.ownsRow W.heap.size 82 4 v (dif L2 L3).length (cellsC (dif L2 L3)) ∧ Below W.heap.size W w') at hdy
      obtain ⟨D1, hD1⟩ : ∃ D, dif L1 L2 = D := ⟨_, rfl⟩
      obtain ⟨D2, hD2⟩ : ∃ D, dif L2 L3 = D := ⟨_, rfl⟩
      rw [hD1] at hs1 hn1 hdx hl1
      simp only [hD2] at hs2 hn2 hdy hl2
      simp only [hD1, hD2] at hch
      have HS1 := Lib.hid hs1
      have HS2 := Lib.hid hs2
      have HCH := Lib.hid hch
      have HLA1 := Lib.hid hl1
      have HLA2 := Lib.hid hl2
      have HDX' := Lib.hid hdx
      have HDY' := Lib.hid hdy
      clear hs1 hs2 hch hl1 hl2 hdx hdy hD1 hD2 HDX HDY
      go_wp2_with fail
      (with_reducible refine HDX'.out.mono ?_)
      rintro e9 w9 ⟨v9, rfl, hown9, hb9⟩
      have HC9 := Lib.hid (creads_own hown9 rfl)
      have HB9 := Lib.hid hb9
      clear hown9 hb9
      go_wp2_with fail
      (with_reducible refine (HDY'.out _ HB9.out).mono ?_)
      rintro e10 w10 ⟨v10, rfl, hown10, hb10⟩
      have HC10 := Lib.hid (creads_own hown10 rfl)
      have HB10 := Lib.hid (HB9.out.trans (hb10.mono HB9.out.size))
      have HC9' := Lib.hid (HC9.out.below hb10)
      clear hown10 hb10 HC9
      have hap1 := apply_any w10 _ _ L1 D1 v9 er n0 ((HV.out.below HB8.out).below HB10.out) ((HE.out.below HB8.out).below HB10.out) (HX8.out.below HB10.out).or HC9'.out (by omega) (fun c hc => ⟨(HS1.out c hc).1, (HS1.out c hc).2.1⟩)
      have HAP1 := Lib.hid hap1
      clear hap1
      go_wp2_with fail
      (with_reducible refine HAP1.out.mono ?_)
      rintro e11 w11 h11
      have hb11 := h11.1
      have HB11 := Lib.hid (HB10.out.trans (hb11.mono HB10.out.size))
      have hap2 := apply_any w11 _ _ L2 D2 v10 er n0 ((HV.out.below HB8.out).below HB11.out) ((HE.out.below HB8.out).below HB11.out) (HY8.out.below HB11.out).or (HC10.out.below hb11) (by omega) (fun c hc => ⟨(HS2.out c hc).1, (HS2.out c hc).2.1⟩)
      have HAP2 := Lib.hid hap2
      have HC9'' := Lib.hid (HC9'.out.below hb11)
      have HC10' := Lib.hid (HC10.out.below hb11)
      clear hap2 hb11
      by_cases hk1 : (apL 0 L1 D1).1 = 0
      · obtain ⟨-, B1, rfl, hbk1⟩ := apP_good h11 hk1
        rw [HLA1.out hk1] at hbk1
        have HP := Lib.hid hbk1
        have HK1 := Lib.hid hk1
        clear h11 hbk1 hk1
        go_wp2_with fail
        (with_reducible refine HAP2.out.mono ?_)
        rintro e12 w12 h12
        have hb12 := h12.1
        have HB12 := Lib.hid (HB11.out.trans (hb12.mono HB11.out.size))
        by_cases hk2 : (apL 0 L2 D2).1 = 0
        · obtain ⟨-, B2, rfl, hbk2⟩ := apP_good h12 hk2
          rw [HLA2.out hk2] at hbk2
          have HQ := Lib.hid hbk2
          have HP2 := Lib.hid (HP.out.below hb12)
          have HK2 := Lib.hid (HCH.out HK1.out hk2)
          have HC9b := Lib.hid (HC9''.out.below hb12)
          have HC10b := Lib.hid (HC10'.out.below hb12)
          obtain ⟨a9, c9, rfl⟩ := HC9b.out.shape
          obtain ⟨a10, c10, rfl⟩ := HC10b.out.shape
          clear h12 hbk2 hk2 hb12
          go_wp2_with (first
            | (at_builtin
               refine append_chs rfl (.tmp 83) (.tmp 84) rfl w12.heap.size (.slice none 0 0) _ [] D1 rfl ⟨rfl, .inl ⟨rfl, rfl⟩⟩ rfl HC9b.out (by simp) (by omega) (Nat.le_refl _) ?_
               intro a13 c13 w13 hown13 hb13 _
               rw [List.nil_append] at hown13 ⊢
               have HO13 := Lib.hid hown13
               have HB13 := Lib.hid hb13
               have HC10c := Lib.hid (HC10b.out.below hb13)
               clear hown13 hb13)
            | (at_builtin
               refine append_chs rfl (.tmp 86) (.tmp 87) rfl w12.heap.size (.slice a13 D1.length c13) _ D1 D2 rfl HO13.out rfl HC10c.out (by omega) (by omega) HB13.out.size ?_
               intro a14 c14 w14 hown14 hb14 _
               have HC14 := Lib.hid (creads_own hown14 rfl)
               have HB14 := Lib.hid (HB12.out.trans ((HB13.out.trans hb14).mono HB12.out.size))
               have HB14' := Lib.hid (HB13.out.trans hb14)
               have hap3 := apply_any w14 _ _ L1 (D1 ++ D2) _ er n0 ((HV.out.below HB8.out).below HB14.out) ((HE.out.below HB8.out).below HB14.out) (HX8.out.below HB14.out).or HC14.out (by rw [List.length_append]; omega) (fun c hc => by
                 rcases List.mem_append.1 hc with hc | hc
                 · exact ⟨(HS1.out c hc).1, (HS1.out c hc).2.1⟩
                 · exact ⟨(HS2.out c hc).1, (HS2.out c hc).2.1⟩)
               have HAP3 := Lib.hid hap3
               clear hown14 hb14 hap3))
          rw [List.length_append] at HAP3
          (with_reducible refine HAP3.out.mono ?_)
          rintro e15 w15 h15
          obtain ⟨hb15, B3, rfl, hbk3⟩ := apP_good h15 HK2.out.1
          rw [HK2.out.2] at hbk3
          have HB15 := Lib.hid (HB14.out.trans (hb15.mono HB14.out.size))
          have HR15 := Lib.hid hbk3
          have HP15 := Lib.hid ((HP2.out.below HB14'.out).below hb15)
          have HQ15 := Lib.hid ((HQ.out.below HB14'.out).below hb15)
          have hb8 := HB8.out
          have hsa := fun W (hw : Below w15.heap.size w15 W) => same_self W _ _ _ _ L2 er ((HV.out.below hb8).below (HB15.out.trans (hw.mono HB15.out.size))).tb (HP15.out.below hw).or (HY8.out.below (HB15.out.trans (hw.mono HB15.out.size))).or
          have hsb := fun W (hw : Below w15.heap.size w15 W) => same_self W _ _ _ _ L3 er ((HV.out.below hb8).below (HB15.out.trans (hw.mono HB15.out.size))).tb (HQ15.out.below hw).or (HZ8.out.below (HB15.out.trans (hw.mono HB15.out.size))).or
          have hsc := fun W (hw : Below w15.heap.size w15 W) => same_self W _ _ _ _ L3 er ((HV.out.below hb8).below (HB15.out.trans (hw.mono HB15.out.size))).tb (HR15.out.below hw).or (HZ8.out.below (HB15.out.trans (hw.mono HB15.out.size))).or
          have HSA := Lib.hid hsa
          have HSB := Lib.hid hsb
          have HSC := Lib.hid hsc
          clear h15 hb15 hbk3 hsa hsb hsc hb8
          go_wp2_with fail
          (with_reducible refine (HSA.out _ (Below.refl _ _)).mono ?_)
          rintro e16 w16 ⟨rfl, hb16⟩
          have HB16 := Lib.hid hb16
          clear hb16
          go_wp2_with fail
          (with_reducible refine (HSB.out _ HB16.out).mono ?_)
          rintro e17 w17 ⟨rfl, hb17⟩
          have HB17 := Lib.hid (HB16.out.trans (hb17.mono HB16.out.size))
          clear hb17
          go_wp2_with fail
          (with_reducible refine (HSC.out _ HB17.out).mono ?_)
          rintro e18 w18 ⟨rfl, hb18⟩
          have HB18 := Lib.hid (HB17.out.trans (hb18.mono HB17.out.size))
          clear hb18
          go_wp2
          go_ret
          have s1 := HB8.out.size
          have s2 := HB15.out.size
          exact ⟨rfl, (HB8.out.trans (HB15.out.mono s1)).trans (HB18.out.mono (by omega))⟩
        · obtain ⟨-, f2, rfl⟩ := apP_bad h12 hk2
          clear h12 hk2 hb12
          go_wp2
          go_ret
          exact ⟨rfl, HB8.out.trans (HB12.out.mono HB8.out.size)⟩
      · obtain ⟨-, f1, rfl⟩ := apP_bad h11 hk1
        clear h11 hk1
        go_wp2_with fail
        (with_reducible refine HAP2.out.mono ?_)
        rintro e12 w12 h12
        have hb12 := h12.1
        have HB12 := Lib.hid (HB11.out.trans (hb12.mono HB11.out.size))
        by_cases hk2 : (apL 0 L2 D2).1 = 0
        · obtain ⟨-, B2, rfl, -⟩ := apP_good h12 hk2
          clear h12 hk2 hb12
          go_wp2
          go_ret
          exact ⟨rfl, HB8.out.trans (HB12.out.mono HB8.out.size)⟩
        · obtain ⟨-, f2, rfl⟩ := apP_bad h12 hk2
          clear h12 hk2 hb12
          go_wp2
          go_ret
          exact ⟨rfl, HB8.out.trans (HB12.out.mono HB8.out.size)⟩
end Df
end Go.Proofs.YtenmeaoagepfnaaGreatDoor
