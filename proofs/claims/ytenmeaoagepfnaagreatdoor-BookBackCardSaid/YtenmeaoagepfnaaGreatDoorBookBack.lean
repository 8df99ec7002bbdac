/- The walk of the law BookBack. -/
import Derived.Test.YtenmeaoagepfnaaGreatDoorBkNil
import Derived.Test.YtenmeaoagepfnaaGreatDoorBkRead
import Derived.Test.YtenmeaoagepfnaaGreatDoorBkEl
namespace Go.Proofs.YtenmeaoagepfnaaGreatDoor
open Go Go.RowKit Go.Shelf Lmd
attribute [local go_sem] Oper.semAt_some
namespace Bk
open Evt Tp Rul Day Cand Er

theorem drop_cons {L : List Ev} {k : Nat} (h : k < L.length) : L.drop k = elE L k :: L.drop (k + 1) := by
  rw [List.drop_eq_getElem_cons h, elE_lt h]
theorem asc_drop {L : List Ev} (ha : Asc L) (k : Nat) : Asc (L.drop k) := List.Pairwise.sublist (List.drop_sublist _ _) ha
/-- the first one of those from a place on, dropped -/
theorem without_drop {L : List Ev} (ha : Asc L) {k : Nat} (h : k < L.length) :
    without (key (elE L k)) (L.drop k) = L.drop (k + 1) ∧ hasK (key (elE L k)) (L.drop k) = true ∧ hasK (key (elE L k)) (L.drop (k + 1)) = false := by
  have hc := drop_cons h
  have ha2 := asc_drop ha k
  rw [hc] at ha2
  have h1 := List.pairwise_cons.1 ha2
  have hno : hasK (key (elE L k)) (L.drop (k + 1)) = false := hasK_false.2 fun x hx e => lt_irrefl _ (e ▸ h1.1 x hx)
  refine ⟨?_, ?_, hno⟩
  · rw [hc, Bk.without, List.filter_cons_of_neg (by simp)]
    exact without_none hno
  · rw [hc]; exact hasK_iff.2 ⟨_, List.mem_cons_self .., rfl⟩
theorem ids_lt {L : List Ev} (ha : Asc L) {i : Nat} (h : i + 1 < L.length) : key (elE L i) < key (elE L (i + 1)) := by
  rw [elE_lt (Nat.lt_of_succ_lt h), elE_lt h]
  exact List.pairwise_iff_getElem.1 ha i (i + 1) (Nat.lt_of_succ_lt h) h (Nat.lt_succ_self i)
theorem found_el {L : List Ev} (ha : Asc L) {k : Nat} (h : k < L.length) : foundE (key (elE L k)) L = elE L k ∧ hasK (key (elE L k)) L = true :=
  ⟨foundE_of ha (elE_mem h), hasK_iff.2 ⟨_, elE_mem h, rfl⟩⟩
theorem put_drop {L : List Ev} (ha : Asc L) (hl : L.length ≤ 60) (hg : ∀ e ∈ L, badE e = 0) {k : Nat} (h : k < L.length) : putK (elE L k) (L.drop (k + 1)) = 0 ∧ putL (elE L k) (L.drop (k + 1)) = L.drop k := by
  obtain ⟨h1, h2⟩ := putK_good (e := elE L k) (L := L.drop (k + 1)) (hg _ (elE_mem h)) (.inr (by rw [List.length_drop]; omega))
  refine ⟨h1, h2.trans ?_⟩
  rw [elE_lt h]
  exact drop_put ha h
theorem rbP_good {w w' : World} {s : ByteArray} {er : Nat → Addr} {r : Ending} {n : Nat} {L : List Ev} (h : RbP w s er r w') (hs : ¬ 10000 < s.size) (hr : readB s = (0, n, L)) :
    Below w.heap.size w w' ∧ r = .returned (.tuple #[.pointer (some ⟨w.heap.size + 1, 0, none⟩), .nilIface]) ∧ Book w' w.heap.size (w.heap.size + 1) w.heap.size L := by
  obtain ⟨h1, h2⟩ := h
  rw [if_neg hs, hr, if_pos rfl] at h2
  exact ⟨h1, h2⟩
set_option maxRecDepth 100000 in
set_option maxHeartbeats 16000000 in
theorem bookBack_any (xs : List EvV) (v : Value) (er : Nat → Addr) (n0 : Int) (w : World) (hv : Env w er n0) (he1 : E1 w er) (hr : EReads w v xs) (hf : ∀ x ∈ xs, Fin64 x.e) :
    Calls Tryz.prog 8 #[v] w fun r w' => r = .returned (.bool true) ∧ Below w.heap.size w w' := by
  have HV := Lib.hid hv
  have HE1 := Lib.hid he1
  have HR := Lib.hid hr
  have HF := Lib.hid hf
  have HBK := Lib.hid (booked_any er w hv.errs)
  clear hv he1 hr hf
  go_enter Tryz.func8, Tryz.ntmps8
  go_wp2_with fail
  (with_reducible refine HBK.out.mono ?_)
  rintro e1 w1 ⟨rfl, hb1⟩
  have HB1 := Lib.hid hb1
  have HL := Lib.hid (longEvents_any xs v w1 (HR.out.below hb1) HF.out)
  clear hb1
  go_upto_region 2 with fail
  go_cut [21] from 15 (fun s wc => ∃ q : Bool, s = .bool q ∧ Below w.heap.size w wc ∧ (q = false → xs.length ≤ 70 ∧ ∀ x ∈ xs, ¬ LongP x.e))
  case first =>
    go_wp2_with fail
    (with_reducible refine HL.out.mono ?_)
    rintro e2 w2 ⟨c, rfl, hc0, hcl, hb2⟩
    have HB2 := Lib.hid (HB1.out.trans (hb2.mono HB1.out.size))
    have HCL := Lib.hid hcl
    clear hb2 hcl
    by_cases hc : 0 < c
    · go_wp2_with fail
      go_meet
      exact ⟨true, rfl, HB2.out, fun h => by cases h⟩
    · have HC := Lib.hid hc
      go_wp2_with fail
      go_meet
      exact ⟨_, rfl, HB2.out, fun _ => HCL.out (by have := HC.out; omega)⟩
  case rest =>
    obtain ⟨q, rfl, hbc, hq⟩ := hcut
    obtain ⟨wa, hwa⟩ : ∃ x, x = wc := ⟨_, rfl⟩
    subst hwa
    have HBC := Lib.hid hbc
    cases q with
    | true =>
      clear hq hbc
      go_wp2
      go_ret
      exact ⟨rfl, HBC.out⟩
    | false =>
      obtain ⟨hxl, hnl⟩ := hq rfl
      have hof := bookOf_any xs v er wa (HV.out.below hbc).errs (HR.out.below hbc) (fun x hx => size_of (hnl x hx)) (by omega)
      unfold OfP at hof
      have HOF := Lib.hid hof
      clear hq hbc hof hnl hxl
      go_wp2_with fail
      (with_reducible refine HOF.out.mono ?_)
      rintro e3 w3 ⟨v3, ys, rfl, hbo⟩
      obtain ⟨a3, c3, rfl⟩ := hbo.model.shape
      obtain ⟨L, hL⟩ : ∃ L, bookL (xs.map (·.e)) = L := ⟨_, rfl⟩
      rw [hL] at hbo
      obtain ⟨p, hp⟩ : ∃ p, wa.heap.size + 1 = p := ⟨_, rfl⟩
      rw [hp] at hbo
      rw [show wa.heap.size + 2 = p + 1 by omega]
      have HBO := Lib.hid hbo
      clear hbo hL hp
      go_upto_region 5 with fail
      generalize hW4 : w3.alloc _ = W4
      have hb4 : Below w3.heap.size w3 W4 := by rw [← hW4]; exact (Below.refl _ w3).alloc (Nat.le_refl _) _
      have HB4 := Lib.hid (HBC.out.trans ((HBO.out.low.mono HBC.out.size).trans (hb4.mono (Nat.le_trans HBC.out.size HBO.out.low.size))))
      have HK4 := Lib.hid (HBO.out.book.below hb4)
      have HTX := Lib.hid (fun W (hw : Below W4.heap.size W4 W) => text_any W p (p + 1) p L er ((HV.out.below HB4.out).tb.below hw) (HK4.out.below hw) HK4.out.textLe)
      obtain ⟨T, hT⟩ : ∃ T, textB L = T := ⟨_, rfl⟩
      have hback := book_back HK4.out.asc HK4.out.good HK4.out.few
      rw [hT] at HTX hback
      have HBACK := Lib.hid hback
      clear hW4 hb4 hT hback HBO HOF HBK HL
      go_wp2_with fail
      (with_reducible refine (HTX.out _ (Below.refl _ _)).mono ?_)
      rintro e5 w5 ⟨rfl, hb5⟩
      have HB5 := Lib.hid hb5
      have hTs : (mk T).size = T.length := rfl
      clear hb5
      go_upto_if 33 with fail
      go_cut [6, 7] from 6 (fun _ _ wc => Below W4.heap.size W4 wc)
      case first =>
        by_cases hsm : T.length ≤ 10000
        · have hsm2 : (T.length : Int) ≤ 10000 := by omega
          have HSM := Lib.hid hsm
          clear hsm
          go_wp2_with fail
          (with_reducible refine (HTX.out _ HB5.out).mono ?_)
          rintro e6 w6 ⟨rfl, hb6⟩
          have HB6 := Lib.hid (HB5.out.trans (hb6.mono HB5.out.size))
          have hrd := (read_any w6 (mk T) er n0 ((HV.out.below HB4.out).below HB6.out)).mono fun r w' h => rbP_good h (by rw [hTs]; have := HSM.out; omega) HBACK.out
          have HRD := Lib.hid hrd
          clear hb6 hrd
          go_wp2_with fail
          (with_reducible refine HRD.out.mono ?_)
          rintro e7 w7 ⟨hb7, rfl, hbk7⟩
          have HB7 := Lib.hid (HB6.out.trans (hb7.mono HB6.out.size))
          have HK7 := Lib.hid hbk7
          have hsa := same_or w7 p w6.heap.size _ _ L L er ((HV.out.below HB4.out).tb.below HB7.out) (HK4.out.below HB7.out).or hbk7.or
          rw [decide_eq_true rfl] at hsa
          have HSA := Lib.hid hsa
          clear hb7 hbk7 hsa
          go_wp2_with fail
          (with_reducible refine HSA.out.mono ?_)
          rintro e8 w8 ⟨rfl, hb8⟩
          have HB8 := Lib.hid (HB7.out.trans (hb8.mono HB7.out.size))
          have HK8 := Lib.hid (HK7.out.below hb8)
          have htc := text_any w8 _ _ _ L er ((HV.out.below HB4.out).tb.below HB8.out) HK8.out HK8.out.textLe
          obtain ⟨T2, hT2⟩ : ∃ T2, textB L = T2 := ⟨_, rfl⟩
          rw [hT2] at htc
          have HTC := Lib.hid htc
          have HT2 := Lib.hid hT2
          clear hb8 htc hT2
          go_wp2_with fail
          (with_reducible refine HTC.out.mono ?_)
          rintro e9 w9 ⟨rfl, hb9⟩
          have HB9 := Lib.hid (HB8.out.trans (hb9.mono HB8.out.size))
          have htd := text_any w9 _ _ _ L er ((HV.out.below HB4.out).tb.below HB9.out) (HK4.out.below HB9.out) HK4.out.textLe
          rw [HT2.out] at htd
          have HTD := Lib.hid htd
          clear hb9 htd
          go_wp2_with fail
          (with_reducible refine HTD.out.mono ?_)
          rintro e10 w10 ⟨rfl, hb10⟩
          have HB10 := Lib.hid (HB9.out.trans (hb10.mono HB9.out.size))
          clear hb10
          go_wp2_with fail
          go_meet
          exact HB10.out
        · have hsm2 : ¬ (T.length : Int) ≤ 10000 := by omega
          clear hsm
          go_wp2_with fail
          go_meet
          exact HB5.out
      case rest =>
        have HB6 := Lib.hid hcut
        have HK6 := Lib.hid (HK4.out.below hcut)
        obtain ⟨w6, hw6⟩ : ∃ x, x = wc := ⟨_, rfl⟩
        subst hw6
        clear hcut
        have HID := Lib.hid (ids_any w6 _ _ _ L HK6.out)
        go_wp2_with fail
        (with_reducible refine HID.out.mono ?_)
        rintro e8 w8 ⟨vid, rfl, hown8, hb8⟩
        have hrid := rd_ids hown8
        obtain ⟨aid, cid, rfl⟩ := Evt.own_at hown8
        obtain ⟨n, hn⟩ : ∃ n, L.length = n := ⟨_, rfl⟩
        rw [hn] at hrid ⊢
        have hfew := HK6.out.few
        rw [hn] at hfew
        have HN := Lib.hid hn
        have HRID := Lib.hid hrid
        have HB8 := Lib.hid ((HB4.out.trans (HB6.out.mono HB4.out.size)).trans (hb8.mono (Nat.le_trans HB4.out.size HB6.out.size)))
        have HK8 := Lib.hid (HK6.out.below hb8)
        have HNEW := Lib.hid (new_any w8)
        clear hn hrid hown8 hb8 HID HTX HK6 HK4
        go_wp2_with fail
        (with_reducible refine HNEW.out.mono ?_)
        rintro e9 w9 ⟨rfl, hbk9, hb9⟩
        have HK9 := Lib.hid hbk9
        have HB9 := Lib.hid hb9
        obtain ⟨d, hd⟩ : ∃ d, w8.heap.size = d := ⟨_, rfl⟩
        have hd0 := hd
        rw [hd] at HK9 HB9 ⊢
        have HD := Lib.hid hd
        clear hbk9 hb9 hd hd0 HNEW
        go_wp2_with fail
        go_loopw [10, 11, 12] (fun i _ _ wr => ∃ k : Nat, k ≤ n ∧ i = .int .i64 ((k : Int) - 1) ∧ Book wr d (d + 1) d (L.drop k) ∧ Below d w8 wr) (fun i _ _ _ => (intOf i + 1).toNat)
        case atStart =>
          refine ⟨n, Nat.le_refl _, rfl, ?_, HB9.out⟩
          rw [List.drop_eq_nil_of_le (by rw [HN.out]; exact Nat.le_refl _)]
          exact HK9.out
        case round =>
          obtain ⟨k, hk, rfl, hbd, hbr⟩ := hrel
          have HBD := Lib.hid hbd
          have HBR := Lib.hid hbr
          have hbr8 : Below w8.heap.size w8 wr := by rw [HD.out]; exact hbr
          have hbw := HB8.out.trans (hbr8.mono HB8.out.size)
          have HBR8 := Lib.hid hbr8
          have HBW := Lib.hid hbw
          cases k with
          | succ k =>
            have hkL : k < L.length := by rw [HN.out]; omega
            have hix : ((k + 1 : Nat) : Int) - 1 = (k : Int) := by omega
            rw [hix]
            have hne : L ≠ [] := by intro h; rw [h] at hkL; exact absurd hkL (Nat.not_lt_zero _)
            obtain ⟨g, off, cap, e1, hc⟩ := (HRID.out.below hbr8).at (by
              intro h
              have := congrArg List.length h
              rw [ids_len] at this
              rw [this] at hkL; exact absurd hkL (Nat.not_lt_zero _))
            injection e1 with e2 e9 e3
            subst e2 e3
            clear e9
            have c0 := hc k _ (idsB_at hkL)
            have hcp : ∀ j, j + 1 = k → wr.cell? ⟨g, off + j, none⟩ = some (.string (elE L j).id) := fun j hj => hc j _ (idsB_at (by omega))
            have HCP := Lib.hid hcp
            obtain ⟨hfe, hhe⟩ := found_el HK8.out.asc hkL
            obtain ⟨hpk, hpl⟩ := put_drop HK8.out.asc HK8.out.few HK8.out.good hkL
            have hlt := fun j (hj : j + 1 = k) => ids_lt HK8.out.asc (i := j) (by omega)
            have HLT := Lib.hid (fun j (hj : j + 1 = k) => by have := hlt j hj; rw [hj] at this; exact this)
            have hfit := HK8.out.fit _ (elE_mem hkL)
            have hgt := Bk.get_any wr p (p + 1) p L (elE L k).id (HK8.out.below hbr8) hfit.id
            unfold GotE at hgt
            obtain ⟨e, he⟩ : ∃ e, elE L k = e := ⟨_, rfl⟩
            have hke : (elE L k).id.data.toList = key e := by rw [← he]; rfl
            rw [hke] at hgt
            rw [he] at hfe hhe hpk hpl hfit c0 hgt
            rw [hfe, hhe] at hgt
            have HEE := Lib.hid he
            have HPK := Lib.hid (And.intro hpk hpl)
            have HFIT := Lib.hid hfit
            have HG := Lib.hid hgt
            clear hbd hbr hbr8 hbw hne hc hcp hfe hhe hpk hpl hlt hfit hgt hke he hix
            go_wp2_with fail
            (with_reducible refine HG.out.mono ?_)
            rintro e3 w3' ⟨vd, vs, vm, rfl, hr3, _, _, _, hb3⟩
            obtain ⟨b1, d1, rfl⟩ := hr3.d.shape
            obtain ⟨b2, d2, rfl⟩ := hr3.s.shape
            obtain ⟨b3, d3, rfl⟩ := hr3.m.shape
            obtain ⟨W4', hW4⟩ : ∃ W, w3'.alloc (.cells (e.cells (.slice b1 e.ru.ds.length d1) (.slice b2 e.sk.length d2) (.slice b3 e.mv.length d3)) 35) = W := ⟨_, rfl⟩
            have hb4 : Below w3'.heap.size w3' W4' := by rw [← hW4]; exact (Below.refl _ w3').alloc (Nat.le_refl _) _
            have hx4 : W4'.heap[w3'.heap.size]? = some (.cells (e.cells (.slice b1 e.ru.ds.length d1) (.slice b2 e.sk.length d2) (.slice b3 e.mv.length d3)) 35) := by rw [← hW4]; exact heap_new w3' _
            have hbx := hb3.trans (hb4.mono hb3.size)
            have hpu := put_any W4' d (d + 1) d (L.drop (k + 1)) e _ _ _ er ((HV.out.below HBW.out).errs.below hbx) (HBD.out.below hbx) (hr3.below hb4) HFIT.out
            unfold PutP at hpu
            rw [HPK.out.1, HPK.out.2] at hpu
            simp only [errV] at hpu
            have HPU := Lib.hid hpu
            have HBX := Lib.hid hbx
            have HW4' := Lib.hid hW4
            clear hr3 hb3 hb4 hbx hpu hW4 c0
            go_upto_region 19 with fail
            rw [HW4'.out]
            obtain ⟨k0, k1, k2, k3, k4, k5, k6, k7, k8, k9, k10⟩ := cells11 hx4
            clear hx4
            go_wp2_with fail
            (with_reducible refine HPU.out.mono ?_)
            rintro e5 w5' ⟨rfl, hbk5, hfar5⟩
            have hds : d ≤ wr.heap.size := by have := HBR8.out.size; rw [HD.out] at this; exact this
            have HFAR := Lib.hid ((Far.of_below HBX.out).trans hfar5)
            have HBK5 := Lib.hid hbk5
            have HBR5 := Lib.hid (HBR.out.trans (((Far.of_below HBX.out).trans hfar5).below (B := d) (fun _ h => by omega) hds))
            clear hbk5 hfar5 k0 k1 k2 k3 k4 k5 k6 k7 k8 k9 k10
            have hid5 := HRID.out.below (show Below w8.heap.size w8 w5' by rw [HD.out]; exact HBR5.out)
            obtain ⟨g', off', cap', e1', hc'⟩ := hid5.at (by
              intro h
              have := congrArg List.length h
              rw [ids_len] at this
              rw [this] at hkL; exact absurd hkL (Nat.not_lt_zero _))
            injection e1' with e2' e9 e3'
            clear e9
            injection e2' with e2'
            injection e2' with g1 g2
            subst g1 g2 e3'
            have c0' := hc' k _ (idsB_at hkL)
            rw [HEE.out] at c0'
            have hcp' : ∀ j, j + 1 = k → w5'.cell? ⟨g, off + j, none⟩ = some (.string (elE L j).id) := fun j hj => hc' j _ (idsB_at (by omega))
            clear hid5 hc'
            go_upto_region 21 with fail
            go_cut [101] from 88 to 101 (fun s wd => s = .bool false ∧ Below w5'.heap.size w5' wd)
            case first =>
              cases k with
              | zero =>
                clear hcp'
                go_quiet (fail)
                go_wp2_with fail
                go_meet
                exact ⟨rfl, below_draw (Below.refl _ w5') _⟩
              | succ j =>
                have cj := hcp' j rfl
                have hl := HLT.out j rfl
                rw [HEE.out] at hl
                obtain ⟨hbl, hbe⟩ := leq_no (a := e.id) (b := (elE L j).id) hl
                obtain ⟨sj, hsj⟩ : ∃ s, (elE L j).id = s := ⟨_, rfl⟩
                rw [hsj] at cj hbl hbe
                have hj1 : ((j + 1 : Nat) : Int) - 1 = (j : Int) := by omega
                clear hcp' hl hsj
                go_quiet (fail)
                go_wp2_with fail
                go_meet
                exact ⟨rfl, below_draw (Below.refl _ w5') _⟩
            case rest =>
              obtain ⟨rfl, hbd5⟩ := hcut
              have HBD5 := Lib.hid hbd5
              clear hbd5 hcp' c0'
              go_wp2_with fail
              go_roundw
              case rel =>
                refine ⟨k, by omega, by first | rfl | go_num, HBK5.out.below HBD5.out, HBR5.out.trans (HBD5.out.mono (by have := HBR5.out.size; rw [HD.out] at this; exact this))⟩
              case measure => simp [intOf]
          | zero =>
            rw [List.drop_zero] at hbd
            have HBD0 := Lib.hid hbd
            have hsa := same_or wr p d _ _ L L er (HV.out.below hbw).tb (HK8.out.below hbr8).or hbd.or
            rw [decide_eq_true rfl] at hsa
            have HSA := Lib.hid hsa
            clear hbd hbr hbr8 hbw hsa
            go_wp2_with fail
            (with_reducible refine HSA.out.mono ?_)
            rintro e11 w11 ⟨rfl, hb11⟩
            have hds : d ≤ wr.heap.size := by have := HBR8.out.size; rw [HD.out] at this; exact this
            have HB11 := Lib.hid (HBR.out.trans (hb11.mono hds))
            have HD11 := Lib.hid (HBD0.out.below hb11)
            clear hb11
            go_wp2_with fail
            go_loopw [13] (fun i wr => ∃ k : Nat, k ≤ n ∧ i = .int .i64 (k : Int) ∧ Book wr d (d + 1) d (L.drop k) ∧ Below d w8 wr) (fun i _ => n - (intOf i).toNat)
            case atStart => exact ⟨0, Nat.zero_le _, rfl, HD11.out, HB11.out⟩
            case round =>
              obtain ⟨k, hk, rfl, hbd, hbr⟩ := hrel
              obtain ⟨wx, hwx⟩ : ∃ x, x = wr := ⟨_, rfl⟩
              subst hwx
              have HBD := Lib.hid hbd
              have HBX := Lib.hid hbr
              have hbr8 : Below w8.heap.size w8 wx := by rw [HD.out]; exact hbr
              have HBX8 := Lib.hid hbr8
              have HBW := Lib.hid (HB8.out.trans (hbr8.mono HB8.out.size))
              have hdx : d ≤ wx.heap.size := by have := hbr8.size; rw [HD.out] at this; exact this
              by_cases hlt : k < n
              · have hkL : k < L.length := by rw [HN.out]; exact hlt
                have hidn : idsB L ≠ [] := by
                  intro h
                  have := congrArg List.length h
                  rw [ids_len] at this
                  rw [this] at hkL; exact absurd hkL (Nat.not_lt_zero _)
                obtain ⟨w1a, w1b, w1c⟩ := without_drop HK8.out.asc hkL
                have hfit := HK8.out.fit _ (elE_mem hkL)
                obtain ⟨g, off, cap, e1, hc⟩ := (HRID.out.below hbr8).at hidn
                injection e1 with e2 e9 e3
                subst e2 e3
                clear e9
                have c0 := hc k _ (idsB_at hkL)
                obtain ⟨e, he⟩ : ∃ e, elE L k = e := ⟨_, rfl⟩
                rw [he] at w1a w1b w1c hfit c0
                have hdr := drop_any wx d (d + 1) d (L.drop k) e.id er (HE1.out.below HBW.out) hbd hfit.id
                change Calls _ _ _ _ (fun r w' => r = .returned (errV er (dropK (key e) (L.drop k))) ∧ Book w' d (d + 1) d (without (key e) (L.drop k)) ∧ Far (fun k => k = d) wx w') at hdr
                rw [w1a] at hdr
                unfold dropK at hdr
                rw [w1b, if_pos rfl] at hdr
                simp only [errV] at hdr
                have HDR := Lib.hid hdr
                have HEE := Lib.hid he
                have HNO := Lib.hid w1c
                have HFIT := Lib.hid hfit
                have HIDN := Lib.hid hidn
                clear hbd hbr hbr8 hc w1a w1b w1c hfit hdr he hidn
                go_wp2_with fail
                (with_reducible refine HDR.out.mono ?_)
                rintro e12 w12 ⟨rfl, hbk12, hfar12⟩
                have hb12 := hfar12.below (B := d) (fun _ h => by omega) hdx
                have HB12 := Lib.hid (HBX.out.trans hb12)
                have HK12 := Lib.hid hbk12
                have hb12' : Below w8.heap.size w8 w12 := by rw [HD.out]; exact HBX.out.trans hb12
                obtain ⟨g', off', cap', e1', hc'⟩ := (HRID.out.below hb12').at HIDN.out
                injection e1' with e2' e9 e3'
                clear e9
                injection e2' with e2'
                injection e2' with g1 g2
                subst g1 g2 e3'
                have c1 := hc' k _ (idsB_at hkL)
                rw [HEE.out] at c1
                have hd2 := drop_any w12 d (d + 1) d (L.drop (k + 1)) e.id er ((HE1.out.below HB8.out).below hb12') hbk12 HFIT.out.id
                change Calls _ _ _ _ (fun r w' => r = .returned (errV er (dropK (key e) (L.drop (k + 1)))) ∧ Book w' d (d + 1) d (without (key e) (L.drop (k + 1))) ∧ Far (fun k => k = d) w12 w') at hd2
                rw [without_none HNO.out] at hd2
                unfold dropK at hd2
                rw [HNO.out, if_neg (by simp)] at hd2
                simp only [errV] at hd2
                have HD2 := Lib.hid hd2
                have hd12 : d ≤ w12.heap.size := Nat.le_trans hdx hb12.size
                clear hbk12 hfar12 hb12 hb12' hc' hd2 c0
                go_wp2_with fail
                (with_reducible refine HD2.out.mono ?_)
                rintro e13 w13 ⟨rfl, hbk13, hfar13⟩
                have HB13 := Lib.hid (HB12.out.trans (hfar13.below (B := d) (fun _ h => by omega) hd12))
                have HK13 := Lib.hid hbk13
                clear hbk13 hfar13 c1
                go_wp2_with fail
                go_roundw
                case rel => exact ⟨k + 1, by omega, by go_num, HK13.out, HB13.out⟩
                case measure => simp [intOf]; omega
              · obtain rfl : k = n := by omega
                have hnil : L.drop k = [] := List.drop_eq_nil_of_le (by rw [HN.out]; exact Nat.le_refl _)
                rw [hnil] at hbd
                have HK0 := Lib.hid hbd
                have HID := Lib.hid (ids_any wx _ _ _ [] hbd)
                clear hnil hbd hbr hbr8
                go_wp2_with fail
                (with_reducible refine HID.out.mono ?_)
                rintro e14 w14 ⟨v14, rfl, hown14, hb14⟩
                obtain ⟨a14, c14, rfl⟩ := Evt.own_at hown14
                have HB14 := Lib.hid (HBW.out.trans (hb14.mono HBW.out.size))
                have HK14 := Lib.hid (HK0.out.below hb14)
                have htx := text_any w14 _ _ _ [] er (HV.out.below HB14.out).tb HK14.out HK14.out.textLe
                rw [show textB [] = [] from rfl] at htx
                have HTX0 := Lib.hid htx
                clear hown14 hb14 htx
                simp only [List.length_nil]
                go_wp2_with fail
                (with_reducible refine HTX0.out.mono ?_)
                rintro e15 w15 ⟨rfl, hb15⟩
                have HB15 := Lib.hid (HB14.out.trans (hb15.mono HB14.out.size))
                have hsa := same_or w15 d 0 _ none [] [] er (HV.out.below HB15.out).tb (HK14.out.below hb15).or (BookO.nil _ _)
                rw [decide_eq_true rfl] at hsa
                have HSA2 := Lib.hid hsa
                clear hb15 hsa
                go_wp2_with fail
                (with_reducible refine HSA2.out.mono ?_)
                rintro e16 w16 ⟨rfl, hb16⟩
                have HB16 := Lib.hid (HB15.out.trans (hb16.mono HB15.out.size))
                clear hb16
                go_wp2
                go_ret
                exact ⟨rfl, HB16.out⟩
end Bk
end Go.Proofs.YtenmeaoagepfnaaGreatDoor
