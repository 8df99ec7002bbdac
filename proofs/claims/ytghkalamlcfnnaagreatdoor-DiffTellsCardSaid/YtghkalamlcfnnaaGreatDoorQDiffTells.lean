/- The walk of the law DiffTells. -/
import Derived.Test.YtghkalamlcfnnaaGreatDoorQRAo
import Derived.Test.YtghkalamlcfnnaaGreatDoorQDfT
import Derived.Test.YtghkalamlcfnnaaGreatDoorQD5
import Derived.Test.YtghkalamlcfnnaaGreatDoorQD7
import Derived.Deep.RegionHeld3
namespace Go.Proofs.YtghkalamlcfnnaaGreatDoor
open Go Go.RowKit Go.Shelf Lmd
attribute [local go_sem] Oper.semAt_some
namespace Df
open Evt Bk Tp Rul Day Cand Er Rd
theorem dif_few2 {a b : List Ev} (ha : a.length ≤ 60) (hb : b.length ≤ 60) : (dif a b).length ≤ 720 := by
  have h3 := uniK_len a b
  have h4 := difK_len a b _ (Nat.le_refl _)
  rw [difK_all] at h4
  show (difU fieldL (uniI a b) a b).length ≤ 720
  omega
theorem rm_nil (W : World) : RM W (.slice none 0 0) [] [] := ⟨.inl ⟨rfl, none, 0, rfl⟩, rfl, ⟨List.Pairwise.nil, fun _ h => absurd h (List.not_mem_nil), by simp⟩, fun _ h => absurd h (List.not_mem_nil)⟩
theorem rm_both {w W : World} {p : Nat} {L : List Ev} {v : Value} {ys : List EvV} (h : Both w W p L v ys) : RM W v ys L := ⟨h.model, h.same, book_fine h.book, h.book.fit⟩
theorem sameDif (w : World) (v1 v2 : Value) (D : List Chg) (h1 : CReads w v1 D) (h2 : CReads w v2 D) (hn : D.length ≤ 720) :
    Calls Tryz.prog 20 #[v1, v2] w fun r w' => r = .returned (.bool true) ∧ Below w.heap.size w w' := by
  have h := sameChanges_any w v1 v2 D D h1 h2 (by omega)
  rw [decide_eq_true rfl] at h
  exact h
set_option maxRecDepth 100000 in
set_option maxHeartbeats 16000000 in
theorem diffTells_any (xs1 xs2 : List EvV) (cs : List Chg) (v1 v2 v3 : Value) (er : Nat → Addr) (n0 : Int) (w : World) (hE : Errs w er) (hv : Env w er n0) (hr1 : EReads w v1 xs1) (hr2 : EReads w v2 xs2) (hr3 : CReads w v3 cs) (hf1 : ∀ x ∈ xs1, Fin64 x.e) (hf2 : ∀ x ∈ xs2, Fin64 x.e)
    (hl3 : cs.length ≤ 9223372036854775807) (hf3 : ∀ c ∈ cs, c.id.size ≤ 9223372036854775807 ∧ c.fi.size ≤ 9223372036854775807 ∧ c.old.size ≤ 9223372036854775807 ∧ c.new.size ≤ 9223372036854775807) :
    Calls Tryz.prog 6 #[v1, v2, v3] w fun r w' => r = .returned (.bool true) ∧ Below w.heap.size w w' := by
  obtain ⟨ca, cc, rfl⟩ := hr3.shape
  obtain ⟨n, hn⟩ : ∃ n, cs.length = n := ⟨_, rfl⟩
  rw [hn] at hr3 hl3 ⊢
  have HV := Lib.hid hv
  have HE := Lib.hid hE
  have HR1 := Lib.hid hr1
  have HR2 := Lib.hid hr2
  have HR3 := Lib.hid hr3
  have HF1 := Lib.hid hf1
  have HF2 := Lib.hid hf2
  have HF3 := Lib.hid hf3
  have HN := Lib.hid hn
  have HDF := Lib.hid (differed_any er w hv.tb)
  clear hv hE hr1 hr2 hr3 hf1 hf2 hf3 hn
  go_enter Tryz.func6, Tryz.ntmps6
  go_wp2_with fail
  (with_reducible refine HDF.out.mono ?_)
  rintro e1 w1 ⟨rfl, hb1⟩
  have HB1 := Lib.hid hb1
  have HL1 := Lib.hid (longE_any xs1 v1 w1 (HR1.out.below hb1) HF1.out)
  clear hb1
  go_upto_region 2 with fail
  go_cut [33] from 19 (fun s wc => ∃ q : Bool, s = .bool q ∧ Below w.heap.size w wc ∧ (q = false → (xs1.length ≤ 70 ∧ ∀ x ∈ xs1, ¬ LongP x.e) ∧ (xs2.length ≤ 70 ∧ ∀ x ∈ xs2, ¬ LongP x.e) ∧ n ≤ 60))
  case first =>
    go_wp2_with fail
    (with_reducible refine HL1.out.mono ?_)
    rintro e2 w2 ⟨c1, rfl, hc0, hc1, hcl1, hb2⟩
    have HB2 := Lib.hid (HB1.out.trans (hb2.mono HB1.out.size))
    have HC1 := Lib.hid hcl1
    have HL2 := Lib.hid (longE_any xs2 v2 w2 (HR2.out.below HB2.out) HF2.out)
    clear hb2 hcl1
    go_wp2_with fail
    (with_reducible refine HL2.out.mono ?_)
    rintro e3 w3 ⟨c2, rfl, hd0, hd1, hcl2, hb3⟩
    have HB3 := Lib.hid (HB2.out.trans (hb3.mono HB2.out.size))
    have HC2 := Lib.hid hcl2
    have hw1 : IntKind.i64.wrap (c1 + c2) = c1 + c2 := by
      rw [show c1 + c2 = (((c1 + c2).toNat : Nat) : Int) by omega]; exact IntWalk.i64_in _ (by omega)
    clear hb3 hcl2
    by_cases hc : 0 < c1 + c2
    · go_wp2_with fail
      go_meet
      exact ⟨true, rfl, HB3.out, fun h => by cases h⟩
    · have HC := Lib.hid hc
      by_cases hl : n ≤ 60
      · have i1 : ¬ (60 : Int) < (n : Int) := by omega
        have HL := Lib.hid hl
        clear hl
        go_wp2_with fail
        go_meet
        exact ⟨_, rfl, HB3.out, fun _ => ⟨HC1.out (by have := HC.out; omega), HC2.out (by have := HC.out; omega), HL.out⟩⟩
      · have i1 : (60 : Int) < (n : Int) := by omega
        clear hl
        go_wp2_with fail
        go_meet
        exact ⟨true, rfl, HB3.out, fun h => by cases h⟩
  case rest =>
    obtain ⟨wa, hwa⟩ : ∃ x, x = wc := ⟨_, rfl⟩
    subst hwa
    obtain ⟨q, rfl, hbc, hq⟩ := hcut
    have HBC := Lib.hid hbc
    cases q with
    | true =>
      clear hq hbc
      go_wp2
      go_ret
      exact ⟨rfl, HBC.out⟩
    | false =>
      obtain ⟨⟨l1, m1⟩, ⟨l2, m2⟩, hn60⟩ := hq rfl
      have hof := bookOf_any xs1 v1 er wa (HV.out.below hbc).errs (HR1.out.below hbc) (fun x hx => size_of (m1 x hx)) (by omega)
      have ho2 := fun W (hw : Below w.heap.size w W) => bookOf_any xs2 v2 er W (HV.out.below hw).errs (HR2.out.below hw) (fun x hx => size_of (m2 x hx)) (by omega)
      unfold OfP at hof ho2
      have HOF := Lib.hid hof
      have HO2 := Lib.hid ho2
      clear hq hbc hof ho2 m1 m2 l1 l2
      go_wp2_with fail
      go_loopw [8] (fun i wr => wr = wa ∧ ∃ k : Nat, k ≤ n ∧ i = .int .i64 (k : Int) ∧ ∀ j, j < k → SmallC (elc cs j)) (fun i _ => n - (intOf i).toNat)
      case atStart => exact ⟨rfl, 0, Nat.zero_le _, rfl, fun j hj => absurd hj (Nat.not_lt_zero _)⟩
      case round =>
        obtain ⟨rfl, k, hk, rfl, hsm⟩ := hrel
        have HSM := Lib.hid hsm
        clear hsm
        by_cases hlt : k < n
        · have hlc : k < cs.length := by rw [HN.out]; exact hlt
          obtain ⟨-, b0, off, ea, hcc⟩ := (HR3.out.below HBC.out).at (by intro h; rw [h] at hlc; exact absurd hlc (Nat.not_lt_zero _))
          subst ea
          obtain ⟨z0, z1, z2, z3⟩ := HF3.out _ (elc_mem hlc)
          obtain ⟨c0, c1, c2, c3⟩ := hcc k hlc
          obtain ⟨c, hcx⟩ : ∃ c, elc cs k = c := ⟨_, rfl⟩
          rw [hcx] at c0 c1 c2 c3 z0 z1 z2 z3
          obtain ⟨id, fi, old, nw⟩ := c
          dsimp only at c0 c1 c2 c3 z0 z1 z2 z3
          have HCX := Lib.hid hcx
          clear hcc hcx hlc
          by_cases h1 : id.size ≤ 30
          · have i1 : ¬ (30 : Int) < (id.size : Int) := by omega
            by_cases h2 : fi.size ≤ 20
            · have i2 : ¬ (20 : Int) < (fi.size : Int) := by omega
              by_cases h3 : old.size ≤ 900
              · have i3 : ¬ (900 : Int) < (old.size : Int) := by omega
                by_cases h4 : nw.size ≤ 900
                · have i4 : ¬ (900 : Int) < (nw.size : Int) := by omega
                  have HALL := Lib.hid (show SmallC ⟨id, fi, old, nw⟩ from ⟨h1, h2, h3, h4⟩)
                  clear h1 h2 h3 h4
                  go_wp2_with fail
                  go_roundw
                  case rel =>
                    refine ⟨by first | rfl | trivial, k + 1, by omega, by go_num, fun j hj => ?_⟩
                    rcases Nat.lt_succ_iff_lt_or_eq.1 hj with h | h
                    · exact HSM.out j h
                    · rw [h, HCX.out]; exact HALL.out
                  case measure => simp [intOf]; omega
                · have i4 : (900 : Int) < (nw.size : Int) := by omega
                  clear h1 h2 h3 h4
                  go_wp2
                  go_ret
                  exact ⟨rfl, HBC.out⟩
              · have i3 : (900 : Int) < (old.size : Int) := by omega
                clear h1 h2 h3
                go_wp2
                go_ret
                exact ⟨rfl, HBC.out⟩
            · have i2 : (20 : Int) < (fi.size : Int) := by omega
              clear h1 h2
              go_wp2
              go_ret
              exact ⟨rfl, HBC.out⟩
          · have i1 : (30 : Int) < (id.size : Int) := by omega
            clear h1
            go_wp2
            go_ret
            exact ⟨rfl, HBC.out⟩
        · obtain rfl : k = n := by omega
          have hsmall : ∀ c ∈ cs, SmallC c := by
            intro c hc
            obtain ⟨j, hj, rfl⟩ := List.mem_iff_getElem.1 hc
            rw [← elc_lt hj]
            exact HSM.out j (by rw [← HN.out]; exact hj)
          have HSMALL := Lib.hid hsmall
          have HK60 := Lib.hid hn60
          clear hsmall
          go_wp2_with fail
          (with_reducible refine HOF.out.mono ?_)
          rintro e3 w3 ⟨u3, ys3, rfl, hbo⟩
          obtain ⟨a3, c3, rfl⟩ := hbo.model.shape
          obtain ⟨L1, hL1⟩ : ∃ L, bookL (xs1.map (·.e)) = L := ⟨_, rfl⟩
          rw [hL1] at hbo
          obtain ⟨p1, hp1⟩ : ∃ p, wr.heap.size + 1 = p := ⟨_, rfl⟩
          rw [hp1] at hbo
          rw [show wr.heap.size + 2 = p1 + 1 by omega]
          clear hp1
          obtain ⟨m3, hm3⟩ : ∃ m, ys3.length = m := ⟨_, rfl⟩
          rw [hm3] at hbo ⊢
          have HBO := Lib.hid hbo
          clear hbo hL1 hm3
          go_upto_region 10 with fail
          generalize hW4 : w3.alloc _ = W4
          have hb4 : Below w3.heap.size w3 W4 := by rw [← hW4]; exact (Below.refl _ w3).alloc (Nat.le_refl _) _
          obtain ⟨q1, hq1⟩ : ∃ q, w3.heap.size = q := ⟨_, rfl⟩
          rw [hq1]
          have hx4 : W4.heap[q1]? = some (.cells #[.slice a3 m3 c3] 27 (0, 0)) := by rw [← hW4, ← hq1]; exact heap_new w3 _
          have HB4 := Lib.hid (HBC.out.trans ((HBO.out.low.mono HBC.out.size).trans (hb4.mono (Nat.le_trans HBC.out.size HBO.out.low.size))))
          have HX := Lib.hid (HBO.out.book.below hb4)
          have HM := Lib.hid ((rm_both HBO.out).below hb4)
          have HBX1 := Lib.hid hx4
          clear hW4 hb4 hx4 hq1 HBO HOF
          go_wp2_with fail
          (with_reducible refine (HO2.out _ HB4.out).mono ?_)
          rintro e5 w5 ⟨u5, ys5, rfl, hbo⟩
          obtain ⟨a5, c5, rfl⟩ := hbo.model.shape
          obtain ⟨L2, hL2⟩ : ∃ L, bookL (xs2.map (·.e)) = L := ⟨_, rfl⟩
          rw [hL2] at hbo
          obtain ⟨p2, hp2⟩ : ∃ p, W4.heap.size + 1 = p := ⟨_, rfl⟩
          rw [hp2] at hbo
          rw [show W4.heap.size + 2 = p2 + 1 by omega]
          clear hp2
          obtain ⟨m5, hm5⟩ : ∃ m, ys5.length = m := ⟨_, rfl⟩
          rw [hm5] at hbo ⊢
          have HBO := Lib.hid hbo
          clear hbo hL2 hm5
          go_upto_region 11 with fail
          generalize hW8 : w5.alloc _ = W8
          have hb6 : Below w5.heap.size w5 W8 := by rw [← hW8]; exact (Below.refl _ w5).alloc (Nat.le_refl _) _
          obtain ⟨q2, hq2⟩ : ∃ q, w5.heap.size = q := ⟨_, rfl⟩
          rw [hq2]
          have hx8 : W8.heap[q2]? = some (.cells #[.slice a5 m5 c5] 27 (0, 0)) := by rw [← hW8, ← hq2]; exact heap_new w5 _
          have hb46 := HBO.out.low.trans (hb6.mono HBO.out.low.size)
          have HB8 := Lib.hid (HB4.out.trans (hb46.mono HB4.out.size))
          have HX8 := Lib.hid (HX.out.below hb46)
          have HY8 := Lib.hid (HBO.out.book.below hb6)
          have HM8 := Lib.hid (HM.out.below hb46)
          have HN8 := Lib.hid ((rm_both HBO.out).below hb6)
          have HBX1' := Lib.hid (row_below HBX1.out hb46)
          have HBX2' := Lib.hid hx8
          clear hW8 hx8 hb6 hb46 hq2 HBO HO2 HX HM HBX1
          have hn1 := dif_few2 HX8.out.few HY8.out.few
          have hn2 := dif_few2 (a := []) (by simp) HY8.out.few
          have hd1 := fun W (hw : Below W8.heap.size W8 W) => diff_any W _ _ _ _ L1 L2 er ((HV.out.below HB8.out).below hw).tb (HX8.out.below hw).or (HY8.out.below hw).or
          have hd2 := fun W (hw : Below W8.heap.size W8 W) => diff_any W p1 _ none _ [] L2 er ((HV.out.below HB8.out).below hw).tb (.inl ⟨rfl, rfl⟩) (HY8.out.below hw).or
          have ho1 := fun W (hw : Below W8.heap.size W8 W) => diffOf_any W _ _ _ _ L1 L2 (HM8.out.below hw) (HN8.out.below hw)
          have ho2 := fun W (hw : Below W8.heap.size W8 W) => diffOf_any W _ _ _ _ [] L2 (rm_nil W) (HN8.out.below hw)
          unfold DiffP at hd1 hd2
          change ∀ W, Below W8.heap.size W8 W → Calls _ _ _ W (fun r w' => ∃ v, r = .returned v ∧ w'.ownsRow W.heap.size 55 4 v (dif L1 L2).length (cellsC (dif L1 L2)) ∧ Below W.heap.size W w') at hd1
          change ∀ W, Below W8.heap.size W8 W → Calls _ _ _ W (fun r w' => ∃ v, r = .returned v ∧ w'.ownsRow W.heap.size 55 4 v (dif [] L2).length (cellsC (dif [] L2)) ∧ Below W.heap.size W w') at hd2
          obtain ⟨D1, hD1⟩ : ∃ D, dif L1 L2 = D := ⟨_, rfl⟩
          obtain ⟨D2, hD2⟩ : ∃ D, dif [] L2 = D := ⟨_, rfl⟩
          simp only [hD1] at hd1 ho1 hn1
          simp only [hD2] at hd2 ho2 hn2
          have HD1 := Lib.hid hd1
          have HD2 := Lib.hid hd2
          have HO1 := Lib.hid ho1
          have HO2 := Lib.hid ho2
          have HS := Lib.hid (fun W (hw : Below W8.heap.size W8 W) => (⟨(cell1r (row_below HBX1'.out hw)).1, (cell1r (row_below HBX2'.out hw)).1⟩ : W.cell? ⟨q1, 0, none⟩ = some (.slice a3 m3 c3) ∧ W.cell? ⟨q2, 0, none⟩ = some (.slice a5 m5 c5)))
          have HNN := Lib.hid (And.intro hn1 hn2)
          have hacc : Below W8.heap.size W8 W8.drew := Tp.below_drew (Below.refl _ W8)
          clear hd1 hd2 ho1 ho2 hn1 hn2 hD1 hD2
          go_upto_region 11 with fail
          go_cut [101] from 85 (fun s wc => s = .bool false ∧ Below W8.heap.size W8 wc)
          case first =>
            go_region_held3 (fun W => W.cell? ⟨q1, 0, none⟩ = some (.slice a3 m3 c3) ∧ W.cell? ⟨q2, 0, none⟩ = some (.slice a5 m5 c5))
              (with_reducible exact HS.out _ hacc)
              (first
                | ((with_reducible refine (HD1.out _ hacc).mono ?_)
                   rintro e9 w9 ⟨v9, rfl, hown9, hb9⟩
                   obtain ⟨a9, c9, rfl⟩ := own_at hown9
                   have HC9 := Lib.hid (creads_own hown9 rfl)
                   clear hown9
                   replace hacc := hacc.trans (hb9.mono hacc.size))
                | ((with_reducible refine (HO1.out _ hacc).mono ?_)
                   rintro e10 w10 ⟨v10, rfl, hc10, hb10⟩
                   obtain ⟨a10, c10, rfl⟩ := hc10.shape
                   have HS1 := Lib.hid (sameDif w10 _ _ D1 (HC9.out.below hb10) hc10 HNN.out.1)
                   clear hc10
                   replace hacc := hacc.trans (hb10.mono hacc.size))
                | ((with_reducible refine HS1.out.mono ?_)
                   rintro e11 w11 ⟨rfl, hb11⟩
                   replace hacc := hacc.trans (hb11.mono hacc.size))
                | ((with_reducible refine (HD2.out _ hacc).mono ?_)
                   rintro e12 w12 ⟨v12, rfl, hown12, hb12⟩
                   obtain ⟨a12, c12, rfl⟩ := own_at hown12
                   have HC12 := Lib.hid (creads_own hown12 rfl)
                   clear hown12
                   replace hacc := hacc.trans (hb12.mono hacc.size))
                | ((with_reducible refine (HO2.out _ hacc).mono ?_)
                   rintro e13 w13 ⟨v13, rfl, hc13, hb13⟩
                   obtain ⟨a13, c13, rfl⟩ := hc13.shape
                   have HS2 := Lib.hid (sameDif w13 _ _ D2 (HC12.out.below hb13) hc13 HNN.out.2)
                   clear hc13
                   replace hacc := hacc.trans (hb13.mono hacc.size))
                | ((with_reducible refine HS2.out.mono ?_)
                   rintro e14 w14 ⟨rfl, hb14⟩
                   replace hacc := hacc.trans (hb14.mono hacc.size)))
            all_goals clear hb9 hb10 hb11 hb12 hb13 hb14 HS1 HS2 HC9 HC12 HD1 HD2 HO1 HO2
            all_goals go_wp2_with fail
            all_goals go_meet
            all_goals exact ⟨rfl, hacc⟩
          case rest =>
            obtain ⟨wd, hwd⟩ : ∃ x, x = wc := ⟨_, rfl⟩
            subst hwd
            obtain ⟨rfl, hbd⟩ := hcut
            have HBD := Lib.hid hbd
            have HBW := Lib.hid (HB8.out.trans (hbd.mono HB8.out.size))
            clear hbd hacc HS HD1 HD2 HO1 HO2 HNN
            have hcr := HR3.out.below HBW.out
            have HCR := Lib.hid hcr
            clear hcr
            go_wp2_with (
              at_builtin
              refine append_chs rfl (.tmp 104) (.tmp 105) rfl wd.heap.size (.slice none 0 0) _ [] cs rfl ⟨rfl, .inl ⟨rfl, rfl⟩⟩ rfl HCR.out (by simp) (by rw [HN.out]; omega) (Nat.le_refl _) ?_
              intro a13 c13 w13 hown13 hb13 _
              rw [List.nil_append] at hown13 ⊢
              have HC13 := Lib.hid (creads_own hown13 rfl)
              have HB13 := Lib.hid (HBD.out.trans (hb13.mono HBD.out.size))
              have HAP := Lib.hid (apply_any w13 _ _ L1 cs _ er n0 ((HV.out.below HB8.out).below HB13.out) (nine_of ((HE.out.below HB8.out).below HB13.out)) (HX8.out.below HB13.out).or HC13.out (by rw [HN.out]; omega) (fun c hc => ⟨by have := (HSMALL.out c hc).1; omega, by have := (HSMALL.out c hc).2.2.2; omega⟩))
              clear hown13 hb13)
            (with_reducible refine HAP.out.mono ?_)
            rintro e14 w14 h14
            have hb14 := h14.1
            have HB14 := Lib.hid (HB13.out.trans (hb14.mono HB13.out.size))
            have HAO := Lib.hid (fun W (hw : Below W8.heap.size W8 W) => applyOf_any W _ _ L1 cs _ (HM8.out.below hw) (HR3.out.below (HB8.out.trans (hw.mono HB8.out.size))) (by rw [HN.out]; omega) (fun c hc => by have := (HSMALL.out c hc).2.2.2; omega))
            have HASX := Lib.hid (fun W (hw : Below W8.heap.size W8 W) => asBook_any W _ _ _ L1 _ _ er ((HV.out.below HB8.out).below hw).tb (HX8.out.below hw) (HM8.out.below hw).model HM8.out.same)
            obtain ⟨kx0, -⟩ := cell1r (row_below HBX1'.out HB14.out)
            clear hb14 HAP HC13
            obtain ⟨⟨K, i, M⟩, hK⟩ : ∃ q, apL 0 L1 cs = q := ⟨_, rfl⟩
            have HKL := Lib.hid hK
            have hle := apL_le cs 0 L1
            rw [hK] at hle
            dsimp only at hle
            have HLE := Lib.hid hle
            clear hle
            cases K with
            | zero =>
              obtain ⟨-, B1, rfl, hbk⟩ := apP_good h14 (by rw [hK])
              rw [hK] at hbk
              dsimp only at hbk
              have HZ := Lib.hid hbk
              clear h14 hbk hK
              go_wp2_with fail
              (with_reducible refine (HAO.out _ HB14.out).mono ?_)
              rintro e15 w15 ⟨hb15, h15⟩
              rw [HKL.out, if_pos rfl] at h15
              obtain ⟨v15, ys15, rfl, hrm15⟩ := h15
              obtain ⟨a15, c15, rfl⟩ := hrm15.model.shape
              have HRM15 := Lib.hid hrm15
              have HB15 := Lib.hid (HB14.out.trans (hb15.mono HB14.out.size))
              have HZ15 := Lib.hid (HZ.out.below hb15)
              clear hb15 hrm15 kx0
              go_upto_region 16 with fail
              generalize hW16 : (w15.alloc _).alloc _ = W16
              have hb16 : Below w15.heap.size w15 W16 := by rw [← hW16]; exact ((Below.refl _ w15).alloc (Nat.le_refl _) _).alloc (by simp) _
              have hy : W16.heap[w15.heap.size]? = some (.cells #[.slice a15 ys15.length c15] 27 (0, 0)) := by
                rw [← hW16]; exact (Below.heap_alloc _ _ _ (by simp)).trans (heap_new w15 _)
              have hx : W16.heap[w15.heap.size + 1]? = some (.cells #[.int .i64 0, .int .i64 (-1)] 64 (0, 0)) := by
                rw [← hW16]
                have h := heap_new (w15.alloc (.cells #[.slice a15 ys15.length c15] 27)) (.cells #[.int .i64 0, .int .i64 (-1)] 64)
                rwa [World.size_alloc] at h
              obtain ⟨q3, hq3⟩ : ∃ q, w15.heap.size = q := ⟨_, rfl⟩
              rw [hq3] at hx hy ⊢
              obtain ⟨f0, f1, -⟩ := Rp.cells2 hx
              have HB16 := Lib.hid (HB15.out.trans (hb16.mono HB15.out.size))
              have HAS2 := Lib.hid (asBook_any W16 _ _ _ M _ _ er ((HV.out.below HB8.out).below HB16.out).tb (HZ15.out.below hb16) (HRM15.out.below hb16).model HRM15.out.same)
              have HY := Lib.hid hy
              obtain ⟨y0, -⟩ := cell1r hy
              obtain ⟨kx0, -⟩ := cell1r (row_below HBX1'.out HB16.out)
              clear hW16 hb16 hx hy hq3
              go_wp2_with fail
              (with_reducible refine HAS2.out.mono ?_)
              rintro e17 w17 ⟨rfl, hb17⟩
              have HB17 := Lib.hid (HB16.out.trans (hb17.mono HB16.out.size))
              clear hb17 kx0 y0 f0 f1
              obtain ⟨kx0, -⟩ := cell1r (row_below HBX1'.out HB17.out)
              go_wp2_with fail
              (with_reducible refine (HASX.out _ HB17.out).mono ?_)
              rintro e18 w18 ⟨rfl, hb18⟩
              have HB18 := Lib.hid (HB17.out.trans (hb18.mono HB17.out.size))
              clear hb18
              go_wp2
              go_ret
              exact ⟨by simp, HB8.out.trans (HB18.out.mono HB8.out.size)⟩
            | succ q =>
              obtain ⟨-, f, rfl, hf⟩ := apP_at h14 (by rw [hK]; simp)
              rw [hK] at hf
              dsimp only at hf
              obtain ⟨nn, hnn⟩ : ∃ n : Int, ((q + 1 : Nat) : Int) = n := ⟨_, rfl⟩
              have hn0 : 0 < nn := by omega
              have HNN := Lib.hid hnn
              have HF := Lib.hid hf
              clear h14 hf hK hnn
              go_wp2_with fail
              (with_reducible refine (HAO.out _ HB14.out).mono ?_)
              rintro e15 w15 ⟨hb15, h15⟩
              rw [HKL.out, if_neg (by simp)] at h15
              dsimp only at h15
              rw [HNN.out] at h15
              subst h15
              have HB15 := Lib.hid (HB14.out.trans (hb15.mono HB14.out.size))
              have HF15 := Lib.hid (row_below HF.out hb15)
              clear hb15 kx0
              go_upto_region 16 with fail
              generalize hW16 : (w15.alloc _).alloc _ = W16
              have hb16 : Below w15.heap.size w15 W16 := by rw [← hW16]; exact ((Below.refl _ w15).alloc (Nat.le_refl _) _).alloc (by simp) _
              have hx : W16.heap[w15.heap.size + 1]? = some (.cells #[.int .i64 nn, .int .i64 (i : Int)] 64 (0, 0)) := by
                rw [← hW16]
                have h := heap_new (w15.alloc (.cells #[.slice none 0 0] 27)) (.cells #[.int .i64 nn, .int .i64 (i : Int)] 64)
                rwa [World.size_alloc] at h
              obtain ⟨q3, hq3⟩ : ∃ q, w15.heap.size = q := ⟨_, rfl⟩
              rw [hq3] at hx ⊢
              obtain ⟨f0, f1, -⟩ := Rp.cells2 hx
              have HB16 := Lib.hid (HB15.out.trans (hb16.mono HB15.out.size))
              have hfa := Cd2.faulted_at er q (by have := HLE.out; omega) f (i : Int) W16 ((HE.out.below HB8.out).below HB16.out) (row_below HF15.out hb16)
              rw [HNN.out] at hfa
              have HFA := Lib.hid hfa
              clear hW16 hb16 hx hq3 hfa
              go_wp2_with fail
              (with_reducible refine HFA.out.mono ?_)
              rintro e17 w17 ⟨rfl, hb17⟩
              have HB17 := Lib.hid (HB16.out.trans (hb17.mono HB16.out.size))
              clear hb17 f0 f1
              obtain ⟨kx0, -⟩ := cell1r (row_below HBX1'.out HB17.out)
              go_wp2_with fail
              (with_reducible refine (HASX.out _ HB17.out).mono ?_)
              rintro e18 w18 ⟨rfl, hb18⟩
              have HB18 := Lib.hid (HB17.out.trans (hb18.mono HB17.out.size))
              clear hb18
              go_wp2
              go_ret
              exact ⟨by simp, HB8.out.trans (HB18.out.mono HB8.out.size)⟩
end Df
end Go.Proofs.YtghkalamlcfnnaaGreatDoor
