/- The walk of the law EventTexts. -/
import Derived.Test.YtkhkhbeolhhomaaGreatDoorEvented
import Derived.Test.YtkhkhbeolhhomaaGreatDoorRefSet
import Derived.Test.YtkhkhbeolhhomaaGreatDoorSameEv
import Derived.Test.YtkhkhbeolhhomaaGreatDoorTextsSame
import Derived.Test.YtkhkhbeolhhomaaGreatDoorCodedL1
namespace Go.Proofs.YtkhkhbeolhhomaaGreatDoor
open Go Go.RowKit Go.Shelf Lmd
attribute [local go_sem] Oper.semAt_some
namespace Evt
open Rul Day Cand Er Tp

theorem bad_le8 (r : Ru) : bad r ≤ 8 := by unfold bad; split <;> (try split) <;> (try split) <;> (try split) <;> omega
theorem badE_le8 (e : Ev) : badE e ≤ 8 := by
  have h1 : badL e ≤ 8 := by
    unfold badL
    repeat' split
    all_goals omega
  have h2 := bad_le8 e.ru
  unfold badE
  repeat' split
  all_goals omega
theorem dayC_le2 (l : List UInt8) : dayC l ≤ 2 := by unfold dayC; split <;> (try split) <;> omega
theorem tailC_le2 (l : List ByteArray) : tailC l ≤ 2 := by
  unfold tailC
  repeat' split
  all_goals first
    | exact dayC_le2 _
    | omega
theorem readS_le8 (s : ByteArray) : (readS s).1 ≤ 8 := by
  unfold readS
  split
  · exact Nat.zero_le _
  · generalize pieces 32 s = L
    rcases L with _ | ⟨f, _ | ⟨n, t⟩⟩
    · simp [readCR]
    · simp [readCR]
    · simp only [readCR]
      split
      · split
        · exact Nat.le_trans (tailC_le2 _) (by decide)
        · split
          · show 1 ≤ 8; omega
          · split
            · exact bad_le8 _
            · exact Nat.zero_le _
      · show 1 ≤ 8; omega
theorem skC_le : ∀ L : List ByteArray, skC L ≤ 2
  | [] => Nat.zero_le _
  | x :: t => by
    unfold skC
    split
    · exact dayC_le2 _
    · exact skC_le t
theorem mvC1_le (x : ByteArray) : mvC1 x ≤ 2 := by
  unfold mvC1
  repeat' split
  all_goals first
    | exact dayC_le2 _
    | omega
theorem mvC_le : ∀ L : List ByteArray, mvC L ≤ 2
  | [] => Nat.zero_le _
  | x :: t => by
    unfold mvC
    split
    · exact mvC1_le _
    · exact mvC_le t
theorem putC_le (f s : ByteArray) : putC f s ≤ 8 := by
  have h1 := dayC_le2 s.data.toList
  have h2 := readS_le8 s
  have h3 := skC_le (listP s)
  have h4 := mvC_le (listP s)
  unfold putC
  repeat' split
  all_goals omega
theorem setC_le (e : Ev) (f s : ByteArray) : setC e f s ≤ 8 := by
  unfold setC
  split
  · exact putC_le _ _
  · exact badE_le8 _
theorem badK_le (L : List ByteArray) : ∀ n k, badK L k n ≤ 8
  | 0, _ => badE_le8 _
  | n + 1, k => by
    unfold badK
    split
    · exact putC_le _ _
    · exact badK_le L n _
theorem readC_le (s : ByteArray) : readC s ≤ 8 := by
  unfold readC readLC
  split
  · exact badK_le _ _ _
  · omega
theorem readE_size {s : ByteArray} (hs : s.size ≤ 30000) : Size (readE s) := by
  have hp : ∀ x ∈ pieces 124 s, x.size ≤ 30000 := fun x hx => Nat.le_trans (pieces_le hx) hs
  unfold readE readLE
  split
  · rename_i h
    unfold readLC at h
    split at h
    · rename_i h7
      exact evK_size hp h7 6 (Nat.le_refl _)
    · cases h
  · exact zero_size
theorem setE_size {e : Ev} (hz : Size e) (f : ByteArray) {s : ByteArray} (hs : s.size ≤ 30000) : Size (setE e f s) := by
  unfold setE
  split
  · exact ev_put_size hz f hs
  · exact zero_size
theorem movesC {xs : List (Int × Int)} {v : Value} {er : Nat → Addr} {w : World} (hT : Tb w er) (hr : MReads w v xs) (hl : xs.length ≤ 100000) : MovesC v xs w :=
  fun W h => moves_any xs v er W (hT.below h) (hr.below h) hl
theorem etextW_le {e : Ev} (h : badE e = 0) : e.mv.length ≤ 100000 := by
  have := (badL_zero (badE_zero h).2.2.2.2.2).2.1
  omega
set_option maxRecDepth 100000 in
set_option maxHeartbeats 1000000 in
/-- an event's text, whatever the event -/
theorem etext_any (e : Ev) (vd vs vm : Value) (er : Nat → Addr) (w : World) (hT : Tb w er) (hr : Rv w e vd vs vm) (hz : Size e) :
    Calls Tryz.prog 33 #[.agg (e.cells vd vs vm)] w fun r w' => r = .returned (.string (if badE e = 0 then mk (textE e) else ⟨#[]⟩)) ∧ Below w.heap.size w w' := by
  by_cases hb : badE e = 0
  · rw [if_pos hb]
    exact text_good e vd vs vm er w hT hr hz hb (movesC hT hr.m (etextW_le hb))
  · rw [if_neg hb]
    obtain ⟨W, hW⟩ : ∃ W, w.alloc (.cells (e.cells vd vs vm) 38) = W := ⟨_, rfl⟩
    have hB : Below w.heap.size w W := by rw [← hW]; exact (Below.refl _ w).alloc (Nat.le_refl _) _
    have hx : W.heap[w.heap.size]? = some (.cells (e.cells vd vs vm) 38) := by rw [← hW]; exact heap_new w _
    have hc := check_any e vd vs vm er W (hT.errs.below hB) (hr.below hB) hz
    obtain ⟨q, hq⟩ : ∃ q, badE e = q + 1 := ⟨badE e - 1, by omega⟩
    rw [hq] at hc
    have HC := Lib.hid hc
    have HX := Lib.hid hx
    have HB := Lib.hid hB
    have HW := Lib.hid hW
    clear hT hr hz hb hW hB hx hc hq
    go_enter Tryz.func33, Tryz.ntmps33
    obtain ⟨k0, k1, k2, k3, k4, k5, k6, k7, k8, k9, k10⟩ := cells11 HX.out
    go_upto_region 1 with fail
    rw [HW.out]
    go_wp2_with fail
    (with_reducible refine HC.out.mono ?_)
    rintro e1 w1 ⟨rfl, hb1⟩
    have HB1 := Lib.hid (HB.out.trans (hb1.mono HB.out.size))
    clear hb1
    simp only [errV]
    go_wp2
    go_ret
    exact ⟨rfl, HB1.out⟩
theorem fields_low (w : World) : Calls Tryz.prog 35 #[] w fun e w' => e = .returned (.slice (some ⟨w.heap.size, 0, none⟩) 6 6) ∧ w'.heap[w.heap.size]? = some (.cells fieldsV 9) ∧ Below w.heap.size w w' :=
  (fields_new w).mono fun _ _ ⟨h1, h2⟩ => ⟨h1, by rw [h2]; exact heap_new w _, by rw [h2]; exact (Below.refl _ w).alloc (Nat.le_refl _) _⟩
theorem rfields_low (w : World) : Calls Tryz.prog 59 #[] w fun e w' => e = .returned (.slice (some ⟨w.heap.size, 0, none⟩) 6 6) ∧ w'.heap[w.heap.size]? = some (.cells fieldsV 9) ∧ Below w.heap.size w w' :=
  (rfields_new w).mono fun _ _ ⟨h1, h2⟩ => ⟨h1, by rw [h2]; exact heap_new w _, by rw [h2]; exact (Below.refl _ w).alloc (Nat.le_refl _) _⟩
theorem fields_rd {W : World} {b : Nat} (h : W.heap[b]? = some (.cells fieldsV 9)) : Tx.Rd W (.slice (some ⟨b, 0, none⟩) 6 6) fieldL := by
  refine .inr ⟨b, 0, 6, rfl, fun j x hx => ?_⟩
  have hj : j < 6 := (List.getElem?_eq_some_iff.1 hx).1
  have := field_cell h hj
  rw [List.getD_eq_getElem?_getD, hx] at this
  rw [Nat.zero_add]; exact this
set_option maxRecDepth 100000 in
set_option maxHeartbeats 20000000 in
theorem eventTexts_any (e : Ev) (vd vs vm : Value) (s f t : ByteArray) (er : Nat → Addr) (m : Int) (w : World) (hE : Errs w er) (hv : Env w er m) (hr : Rv w e vd vs vm) (hf : Fin64 e) :
    Calls Tryz.prog 10 #[.agg (e.cells vd vs vm), .string s, .string f, .string t] w fun r w' => r = .returned (.bool true) ∧ Below w.heap.size w w' := by
  obtain ⟨W0, hW0⟩ : ∃ W0, w.alloc (.cells (e.cells vd vs vm) 38) = W0 := ⟨_, rfl⟩
  have hB0 : Below w.heap.size w W0 := by rw [← hW0]; exact (Below.refl _ w).alloc (Nat.le_refl _) _
  have hx0 : W0.heap[w.heap.size]? = some (.cells (e.cells vd vs vm) 38) := by rw [← hW0]; exact heap_new w _
  have HEV := Lib.hid (evented_any er W0 (hv.below hB0).tb)
  have HE := Lib.hid hE
  have HV := Lib.hid hv
  have HR := Lib.hid hr
  have HF := Lib.hid hf
  have HX0 := Lib.hid hx0
  have HB0 := Lib.hid hB0
  have HW0 := Lib.hid hW0
  clear hE hv hr hf hW0 hB0 hx0
  go_enter Tryz.func10, Tryz.ntmps10
  go_upto_region 1 with fail
  rw [HW0.out]
  go_wp2_with fail
  (with_reducible refine HEV.out.mono ?_)
  rintro e1 w1 ⟨rfl, hb1⟩
  have HX1 := Lib.hid (row_below HX0.out hb1)
  have HB1 := Lib.hid (HB0.out.trans (hb1.mono HB0.out.size))
  have hle := longEvent_any e vd vs vm w1 (HR.out.below HB1.out) HF.out
  obtain ⟨la, hla⟩ : ∃ la : Int, (if LongP e then (1 : Int) else 0) = la := ⟨_, rfl⟩
  rw [hla] at hle
  have HLE := Lib.hid hle
  have HLA := Lib.hid hla
  clear hb1 hle hla HX0 HEV HB0 HW0
  obtain ⟨k0, k1, k2, k3, k4, k5, k6, k7, k8, k9, k10⟩ := cells11 HX1.out
  go_wp2_with fail
  (with_reducible refine HLE.out.mono ?_)
  rintro e2 w2 ⟨rfl, hb2⟩
  have HX2 := Lib.hid (row_below HX1.out hb2)
  have HB2 := Lib.hid (HB1.out.trans (hb2.mono HB1.out.size))
  clear hb2 k0 k1 k2 k3 k4 k5 k6 k7 k8 k9 k10 HX1 HB1
  by_cases h1 : (0 : Int) < la
  · go_wp2
    go_ret
    exact ⟨rfl, HB2.out⟩
  by_cases h2 : (900 : Int) < (s.size : Int)
  · go_wp2
    go_ret
    exact ⟨rfl, HB2.out⟩
  by_cases h3 : (20 : Int) < (f.size : Int)
  · go_wp2
    go_ret
    exact ⟨rfl, HB2.out⟩
  by_cases h4 : (400 : Int) < (t.size : Int)
  · go_wp2
    go_ret
    exact ⟨rfl, HB2.out⟩
  have hsz : Size e := size_of (fun h => by have := HLA.out; rw [if_pos h] at this; omega)
  have hss : s.size ≤ 30000 := by omega
  have hst : t.size ≤ 30000 := by omega
  have HSZ := Lib.hid hsz
  have HSS := Lib.hid hss
  have HST := Lib.hid hst
  have HOW := Lib.hid (ownEvent_any e vd vs vm w2 (HR.out.below HB2.out) hsz)
  obtain ⟨k0, k1, k2, k3, k4, k5, k6, k7, k8, k9, k10⟩ := cells11 HX2.out
  clear hsz hss hst
  go_wp2_with fail
  (with_reducible refine HOW.out.mono ?_)
  rintro e3 w3 ⟨vd3, vs3, vm3, rfl, hr3, hb3⟩
  obtain ⟨a36, c36, rfl⟩ := hr3.d.shape
  obtain ⟨a39, c39, rfl⟩ := hr3.s.shape
  obtain ⟨a30, c30, rfl⟩ := hr3.m.shape
  have HB3 := Lib.hid (HB2.out.trans (hb3.mono HB2.out.size))
  have HX3 := Lib.hid (row_below HX2.out hb3)
  have HR3 := Lib.hid hr3
  clear hb3 hr3 HOW k0 k1 k2 k3 k4 k5 k6 k7 k8 k9 k10 HX2 HB2
  obtain ⟨a6, c6, rfl⟩ := HR.out.d.shape
  obtain ⟨a9, c9, rfl⟩ := HR.out.s.shape
  obtain ⟨a10, c10, rfl⟩ := HR.out.m.shape
  go_upto_region 5 with fail
  obtain ⟨W4, hW4⟩ : ∃ W4, w3.alloc (.cells (e.cells (.slice a36 e.ru.ds.length c36) (.slice a39 e.sk.length c39) (.slice a30 e.mv.length c30)) 38) = W4 := ⟨_, rfl⟩
  have hb4 : Below w3.heap.size w3 W4 := by rw [← hW4]; exact (Below.refl _ w3).alloc (Nat.le_refl _) _
  have hx4 : W4.heap[w3.heap.size]? = some (.cells (e.cells (.slice a36 e.ru.ds.length c36) (.slice a39 e.sk.length c39) (.slice a30 e.mv.length c30)) 38) := by rw [← hW4]; exact heap_new w3 _
  rw [hW4]
  have HB4 := Lib.hid (HB3.out.trans (hb4.mono HB3.out.size))
  have HX4 := Lib.hid (row_below HX3.out hb4)
  have HY4 := Lib.hid hx4
  have hv4 := HV.out.below HB4.out
  have hr4 := HR3.out.below hb4
  have ho4 := HR.out.below HB4.out
  obtain ⟨q, hq⟩ : ∃ q, badE e = q := ⟨_, rfl⟩
  obtain ⟨TX, hTX⟩ : ∃ TX, (if badE e = 0 then mk (textE e) else ⟨#[]⟩ : ByteArray) = TX := ⟨_, rfl⟩
  have hq8 : q ≤ 8 := by rw [← hq]; exact badE_le8 e
  have hee := fun W (h : Below W4.heap.size W4 W) => eventError_any e _ _ _ W (ho4.below h) HSZ.out
  have hck := fun W (h : Below W4.heap.size W4 W) => check_any e _ _ _ er W (hv4.below h).errs (hr4.below h) HSZ.out
  have htx := fun W (h : Below W4.heap.size W4 W) => etext_any e _ _ _ er W (hv4.below h).tb (hr4.below h) HSZ.out
  have hrt := fun W (h : Below W4.heap.size W4 W) => reventText_any e _ _ _ W (ho4.below h) HSZ.out
  have hcd := fun c (hc : c ≤ 8) W (h : Below W4.heap.size W4 W) => Cd1.coded_any er c (by omega) W ((HE.out.below HB4.out).below h)
  have hrd := fun W (h : Below W4.heap.size W4 W) => read_ev s er m W (hv4.below h) HSS.out
  have hrr := fun W (_ : Below W4.heap.size W4 W) => readEvent_any s W HSS.out
  have hgt := fun (h0 : badE e = 0) W (h : Below W4.heap.size W4 W) => get_any e _ _ _ f er W (hv4.below h).tb (hr4.below h) HSZ.out (by have := (badE_zero h0).2.2.2.1; omega) (by have := (badE_zero h0).2.2.2.1; omega) (movesC (hv4.below h).tb (hr4.below h).m (etextW_le h0))
  have hfo := fun (h0 : badE e = 0) W (h : Below W4.heap.size W4 W) => fieldOf_any e _ _ _ f W (ho4.below h) h0 HSZ.out.ds
  have hset := fun W (h : Below W4.heap.size W4 W) => set_any e _ _ _ f t er m W (hv4.below h) (hr4.below h) HSZ.out HST.out
  have hrse := fun W (h : Below W4.heap.size W4 W) => setField_any e _ _ _ f t W (ho4.below h) HSZ.out HST.out
  have hsame := fun W (h : Below W4.heap.size W4 W) => rsameEvent_any e e _ _ _ _ _ _ W (hr4.below h) (ho4.below h) HSZ.out HSZ.out
  simp only [hTX] at htx hrt
  simp only [hq] at hee hck hgt hfo
  simp only [eqE_self] at hsame
  unfold ReadPost at hrd
  unfold RReadPost at hrr
  unfold SetPost at hset
  unfold RSetPost at hrse
  obtain ⟨RE, hRE⟩ : ∃ x, readE s = x := ⟨_, rfl⟩
  obtain ⟨rc, hrc⟩ : ∃ x, readC s = x := ⟨_, rfl⟩
  obtain ⟨SE, hSE⟩ : ∃ x, setE e f t = x := ⟨_, rfl⟩
  obtain ⟨sc, hsc⟩ : ∃ x, setC e f t = x := ⟨_, rfl⟩
  have hrc8 : rc ≤ 8 := by rw [← hrc]; exact readC_le s
  have hsc8 : sc ≤ 8 := by rw [← hsc]; exact setC_le e f t
  have hREz : Size RE := by rw [← hRE]; exact readE_size HSS.out
  have hSEz : Size SE := by rw [← hSE]; exact setE_size HSZ.out f HST.out
  simp only [hRE, hrc] at hrd hrr
  simp only [hSE, hsc] at hset hrse
  obtain ⟨GT, hGT⟩ : ∃ x, getL e f = x := ⟨_, rfl⟩
  simp only [hGT] at hgt hfo
  have hflds := fun W (b1 b2 : Nat) (h1 : W.heap[b1]? = some (.cells fieldsV 9)) (h2 : W.heap[b2]? = some (.cells fieldsV 9)) => Tx.sameTexts_any W (.slice (some ⟨b1, 0, none⟩) 6 6) (.slice (some ⟨b2, 0, none⟩) 6 6) fieldL fieldL (fields_rd h1) (fields_rd h2) (by decide) (by decide)
  simp only [decide_true] at hflds
  have hoo : ∀ c, W4.heap.size ≤ c → Off c (.slice a6 e.ru.ds.length c6) ∧ Off c (.slice a9 e.sk.length c9) ∧ Off c (.slice a10 e.mv.length c10) := fun c hc => ⟨off_reads ho4.d hc, off_reads ho4.s hc, off_mreads ho4.m hc⟩
  obtain ⟨n6, hn6⟩ : ∃ n, e.ru.ds.length = n := ⟨_, rfl⟩
  obtain ⟨n9, hn9⟩ : ∃ n, e.sk.length = n := ⟨_, rfl⟩
  obtain ⟨n10, hn10⟩ : ∃ n, e.mv.length = n := ⟨_, rfl⟩
  rw [hn6, hn9, hn10] at HX4 HY4 ⊢
  simp only [hn6, hn9, hn10] at hee hck htx hrt hgt hfo hset hrse hsame hoo
  have HOO := Lib.hid hoo
  have HEE := Lib.hid hee
  have HCK := Lib.hid hck
  have HTX := Lib.hid htx
  have HRT := Lib.hid hrt
  have HCD := Lib.hid hcd
  have HRD := Lib.hid hrd
  have HRR := Lib.hid hrr
  have HGT := Lib.hid hgt
  have HFO := Lib.hid hfo
  have HSET := Lib.hid hset
  have HRSE := Lib.hid hrse
  have HSAME := Lib.hid hsame
  have HFL := Lib.hid hflds
  have HQ8 := Lib.hid hq8
  have HRC8 := Lib.hid hrc8
  have HSC8 := Lib.hid hsc8
  have HREZ := Lib.hid hREz
  have HSEZ := Lib.hid hSEz
  clear hoo hee hck htx hrt hcd hrd hrr hgt hfo hset hrse hsame hflds hq8 hrc8 hsc8 hREz hSEz hRE hrc hSE hsc hGT hTX hq hn6 hn9 hn10 hW4 hb4 hx4 hv4 hr4 ho4 HR3 HX3 HB3 HR h1 h2 h3 h4
  obtain ⟨k0, k1, k2, k3, k4, k5, k6, k7, k8, k9, k10⟩ := cells11 HX4.out
  go_wp2_with fail
  (with_reducible refine (HEE.out _ (Below.refl _ _)).mono ?_)
  rintro e5 w5 ⟨rfl, hb5⟩
  have HB5 := Lib.hid hb5
  clear hb5 k0 k1 k2 k3 k4 k5 k6 k7 k8 k9 k10
  obtain ⟨k0, k1, k2, k3, k4, k5, k6, k7, k8, k9, k10⟩ := cells11 (row_below HX4.out HB5.out)
  obtain ⟨j0, j1, j2, j3, j4, j5, j6, j7, j8, j9, j10⟩ := cells11 (row_below HY4.out HB5.out)
  go_upto_region 6 with fail
  go_cut [61] from 44 (fun s61 wc => s61 = .bool false ∧ Below W4.heap.size W4 wc)
  case first =>
    have hacc : Below W4.heap.size W4 w5.drew := below_draw HB5.out 1
    go_region_with (first
      | ((go_at_call 24)
         (with_reducible refine (HCK.out _ hacc).mono ?_)
         rintro e6 w6 ⟨rfl, hb6⟩
         replace hacc := hacc.trans (hb6.mono hacc.size)
         clear hb6)
      | ((go_at_call 29)
         (with_reducible refine (HCD.out q HQ8.out _ hacc).mono ?_)
         rintro e7 w7 ⟨rfl, hb7⟩
         replace hacc := hacc.trans (hb7.mono hacc.size)
         obtain ⟨k0, k1, k2, k3, k4, k5, k6, k7, k8, k9, k10⟩ := cells11 (row_below HX4.out hacc)
         obtain ⟨j0, j1, j2, j3, j4, j5, j6, j7, j8, j9, j10⟩ := cells11 (row_below HY4.out hacc)
         clear hb7)
      | ((go_at_call 33)
         (with_reducible refine (HTX.out _ hacc).mono ?_)
         rintro e8 w8 ⟨rfl, hb8⟩
         replace hacc := hacc.trans (hb8.mono hacc.size)
         obtain ⟨k0, k1, k2, k3, k4, k5, k6, k7, k8, k9, k10⟩ := cells11 (row_below HX4.out hacc)
         obtain ⟨j0, j1, j2, j3, j4, j5, j6, j7, j8, j9, j10⟩ := cells11 (row_below HY4.out hacc)
         clear hb8)
      | ((go_at_call 58)
         (with_reducible refine (HRT.out _ hacc).mono ?_)
         rintro e9 w9 ⟨rfl, hb9⟩
         replace hacc := hacc.trans (hb9.mono hacc.size)
         clear hb9)
      | ((go_at_call 35)
         refine (fields_low _).mono ?_
         rintro e10 w10 ⟨rfl, hF1, hb10⟩
         replace hacc := hacc.trans (hb10.mono hacc.size)
         clear hb10)
      | ((go_at_call 59)
         refine (rfields_low _).mono ?_
         rintro e11 w11 ⟨rfl, hF2, hb11⟩
         replace hF1 := row_below hF1 hb11
         replace hacc := hacc.trans (hb11.mono hacc.size)
         clear hb11)
      | ((go_at_call 46)
         (with_reducible refine (HFL.out _ _ _ hF1 hF2).mono ?_)
         rintro e12 w12 ⟨rfl, q12, hw12⟩
         have hb12 := below_draw hacc q12
         rw [← hw12] at hb12
         replace hacc := hb12
         clear hw12 hb12))
    all_goals go_wp2_with fail
    all_goals go_meet
    all_goals exact ⟨by trivial, hacc⟩
  case rest =>
  obtain ⟨rfl, hb6⟩ := hcut
  have HB6 := Lib.hid hb6
  clear hb6 k0 k1 k2 k3 k4 k5 k6 k7 k8 k9 k10 j0 j1 j2 j3 j4 j5 j6 j7 j8 j9 j10
  go_wp2_with fail
  (with_reducible refine (HRD.out _ HB6.out).mono ?_)
  rintro e7 w7 ⟨u1, u2, u3, rfl, hr7, hb7⟩
  obtain ⟨b1, d1, rfl⟩ := hr7.d.shape
  obtain ⟨b2, d2, rfl⟩ := hr7.s.shape
  obtain ⟨b3, d3, rfl⟩ := hr7.m.shape
  obtain ⟨m6, hm6⟩ : ∃ n, RE.ru.ds.length = n := ⟨_, rfl⟩
  obtain ⟨m9, hm9⟩ : ∃ n, RE.sk.length = n := ⟨_, rfl⟩
  obtain ⟨m10, hm10⟩ : ∃ n, RE.mv.length = n := ⟨_, rfl⟩
  have HM := Lib.hid (And.intro hm6 (And.intro hm9 hm10))
  rw [hm6, hm9, hm10] at hr7 ⊢
  go_upto_region 9 with fail
  obtain ⟨W8, hW8⟩ : ∃ W8, w7.alloc (.cells (RE.cells (.slice b1 m6 d1) (.slice b2 m9 d2) (.slice b3 m10 d3)) 38) = W8 := ⟨_, rfl⟩
  have hb8 : Below w7.heap.size w7 W8 := by rw [← hW8]; exact (Below.refl _ w7).alloc (Nat.le_refl _) _
  have hx8 : W8.heap[w7.heap.size]? = some (.cells (RE.cells (.slice b1 m6 d1) (.slice b2 m9 d2) (.slice b3 m10 d3)) 38) := by rw [← hW8]; exact heap_new w7 _
  rw [hW8]
  have HX8 := Lib.hid hx8
  have HR8 := Lib.hid (hr7.below hb8)
  have HB8 := Lib.hid ((HB6.out.trans (hb7.mono HB6.out.size)).trans (hb8.mono (Nat.le_trans HB6.out.size hb7.size)))
  have HP12 := Lib.hid (show W4.heap.size ≤ w7.heap.size from Nat.le_trans HB6.out.size hb7.size)
  clear hr7 hb7 hW8 hb8 hx8 hm6 hm9 hm10
  go_wp2_with fail
  (with_reducible refine (HRR.out _ HB8.out).mono ?_)
  rintro e9 w9 ⟨u1', u2', u3', rfl, hr9, hb9⟩
  obtain ⟨g1, o1, rfl⟩ := hr9.d.shape
  obtain ⟨g2, o2, rfl⟩ := hr9.s.shape
  obtain ⟨g3, o3, rfl⟩ := hr9.m.shape
  obtain ⟨hm6, hm9, hm10⟩ := HM.out
  rw [hm6, hm9, hm10] at hr9 ⊢
  go_upto_region 10 with fail
  obtain ⟨W10, hW10⟩ : ∃ W10, w9.alloc (.cells (RE.cells (.slice g1 m6 o1) (.slice g2 m9 o2) (.slice g3 m10 o3)) 38) = W10 := ⟨_, rfl⟩
  have hb10 : Below w9.heap.size w9 W10 := by rw [← hW10]; exact (Below.refl _ w9).alloc (Nat.le_refl _) _
  have hx10 : W10.heap[w9.heap.size]? = some (.cells (RE.cells (.slice g1 m6 o1) (.slice g2 m9 o2) (.slice g3 m10 o3)) 38) := by rw [← hW10]; exact heap_new w9 _
  rw [hW10]
  have hb810 : Below W8.heap.size W8 W10 := hb9.trans (hb10.mono hb9.size)
  have HX10 := Lib.hid hx10
  have HZ10 := Lib.hid (row_below HX8.out hb810)
  have HR10 := Lib.hid (hr9.below hb10)
  have HQ10 := Lib.hid (HR8.out.below hb810)
  have HB10 := Lib.hid (HB8.out.trans (hb810.mono HB8.out.size))
  have HP14 := Lib.hid (show w7.heap.size < w9.heap.size by have := (Array.getElem?_eq_some_iff.1 HX8.out).1; have := hb9.size; omega)
  clear hr9 hb9 hW10 hb10 hx10 hb810 hm6 hm9 hm10 HX8 HR8 HB8
  go_wp2_with fail
  (with_reducible refine (HCD.out rc HRC8.out _ HB10.out).mono ?_)
  rintro e11 w11 ⟨rfl, hb11⟩
  have HX11 := Lib.hid (row_below HX10.out hb11)
  have HZ11 := Lib.hid (row_below HZ10.out hb11)
  have HB11 := Lib.hid (HB10.out.trans (hb11.mono HB10.out.size))
  have hse := rsameEvent_any RE RE _ _ _ _ _ _ w11 (HQ10.out.below hb11) (HR10.out.below hb11) HREZ.out HREZ.out
  rw [eqE_self] at hse
  have HSE := Lib.hid hse
  obtain ⟨k0, k1, k2, k3, k4, k5, k6, k7, k8, k9, k10⟩ := cells11 HX11.out
  obtain ⟨j0, j1, j2, j3, j4, j5, j6, j7, j8, j9, j10⟩ := cells11 HZ11.out
  clear hb11 hse HX10 HZ10 HB10
  go_wp2_with fail
  (with_reducible refine HSE.out.mono ?_)
  rintro e12 w12 ⟨rfl, hb12⟩
  have HX12 := Lib.hid (row_below HX11.out hb12)
  have HZ12 := Lib.hid (row_below HZ11.out hb12)
  have HB12 := Lib.hid (HB11.out.trans (hb12.mono HB11.out.size))
  clear hb12 HSE HX11 HZ11 HB11 k0 k1 k2 k3 k4 k5 k6 k7 k8 k9 k10 j0 j1 j2 j3 j4 j5 j6 j7 j8 j9 j10 HR10 HQ10
  have hbwW : ∀ W, Below W4.heap.size W4 W → Below w.heap.size w W := fun W h => HB4.out.trans (h.mono HB4.out.size)
  have HBW := Lib.hid hbwW
  clear hbwW
  by_cases hq0 : q = 0
  case neg =>
    have hqp : (0 : Int) < (q : Int) := by omega
    clear hq0
    go_wp2
    go_ret
    exact ⟨rfl, HBW.out _ HB12.out⟩
  have HQ0 := Lib.hid hq0
  have hqn : ¬ (0 : Int) < (q : Int) := by omega
  clear hq0
  obtain ⟨k0, k1, k2, k3, k4, k5, k6, k7, k8, k9, k10⟩ := cells11 (row_below HX4.out HB12.out)
  obtain ⟨j0, j1, j2, j3, j4, j5, j6, j7, j8, j9, j10⟩ := cells11 (row_below HY4.out HB12.out)
  go_upto_region 14 with fail
  go_cut [90] from 44 (fun s90 wc => s90 = .bool false ∧ Below w12.heap.size w12 wc)
  case first =>
    have hacc : Below w12.heap.size w12 w12.drew := below_draw (Below.refl _ _) 1
    go_region_with (first
      | ((go_at_call 37)
         (with_reducible refine (HGT.out HQ0.out _ (HB12.out.trans (hacc.mono HB12.out.size))).mono ?_)
         rintro e13 w13 ⟨rfl, hb13⟩
         replace hacc := hacc.trans (hb13.mono hacc.size)
         obtain ⟨k0, k1, k2, k3, k4, k5, k6, k7, k8, k9, k10⟩ := cells11 (row_below HX4.out (HB12.out.trans (hacc.mono HB12.out.size)))
         clear hb13)
      | ((go_at_call 61)
         (with_reducible refine (HFO.out HQ0.out _ (HB12.out.trans (hacc.mono HB12.out.size))).mono ?_)
         rintro e14 w14 ⟨rfl, hb14⟩
         replace hacc := hacc.trans (hb14.mono hacc.size)
         clear hb14))
    all_goals go_wp2_with fail
    all_goals go_meet
    all_goals exact ⟨by (first | trivial | simp), hacc⟩
  case rest =>
  obtain ⟨rfl, hb14⟩ := hcut
  have HX14 := Lib.hid (row_below HX12.out hb14)
  have HZ14 := Lib.hid (row_below HZ12.out hb14)
  have HB14 := Lib.hid (HB12.out.trans (hb14.mono HB12.out.size))
  clear hb14 HX12 HZ12 HB12 k0 k1 k2 k3 k4 k5 k6 k7 k8 k9 k10 j0 j1 j2 j3 j4 j5 j6 j7 j8 j9 j10
  obtain ⟨j0, j1, j2, j3, j4, j5, j6, j7, j8, j9, j10⟩ := cells11 (row_below HY4.out HB14.out)
  go_wp2_with fail
  (with_reducible refine (HSET.out _ HB14.out).mono ?_)
  rintro e15 w15 ⟨u1, u2, u3, rfl, hr15, hof15, hb15⟩
  obtain ⟨b1', d1', rfl⟩ := hr15.d.shape
  obtain ⟨b2', d2', rfl⟩ := hr15.s.shape
  obtain ⟨b3', d3', rfl⟩ := hr15.m.shape
  obtain ⟨m6', hm6⟩ : ∃ n, SE.ru.ds.length = n := ⟨_, rfl⟩
  obtain ⟨m9', hm9⟩ : ∃ n, SE.sk.length = n := ⟨_, rfl⟩
  obtain ⟨m10', hm10⟩ : ∃ n, SE.mv.length = n := ⟨_, rfl⟩
  have HM2 := Lib.hid (And.intro hm6 (And.intro hm9 hm10))
  rw [hm6, hm9, hm10] at hr15 hof15 ⊢
  have hlt7 : w7.heap.size < wc.heap.size := (Array.getElem?_eq_some_iff.1 HZ14.out).1
  have hlt9 : w9.heap.size < wc.heap.size := (Array.getElem?_eq_some_iff.1 HX14.out).1
  have ho7 := hof15 w7.heap.size hlt7
  have ho9 := hof15 w9.heap.size hlt9
  have HZ15 := Lib.hid (row_below HZ14.out hb15)
  have HX15 := Lib.hid (row_below HX14.out hb15)
  have HB15 := Lib.hid (HB14.out.trans (hb15.mono HB14.out.size))
  have HR15 := Lib.hid hr15
  have HO7 := Lib.hid ho7
  have HO9 := Lib.hid ho9
  clear hr15 hof15 hb15 ho7 ho9 hm6 hm9 hm10 hlt7 hlt9 j0 j1 j2 j3 j4 j5 j6 j7 j8 j9 j10 HX14 HZ14
  obtain ⟨j0, j1, j2, j3, j4, j5, j6, j7, j8, j9, j10⟩ := cells11 HZ15.out
  obtain ⟨z0, z1, z2, z3, z4, z5, z6, z7, z8, z9, z10⟩ := frozen11 HZ15.out
  go_upto_region 17 with fail
  obtain ⟨W16, hW16⟩ : ∃ W16, put11 w15 w7.heap.size (.string SE.id) (.string SE.ti) (.int .i64 SE.st) (.int .i64 SE.lg) (.string SE.ru.fq) (.int .i64 SE.ru.ev) (.slice b1' m6' d1') (.int .i64 SE.ru.ct) (.int .i64 SE.ru.un) (.slice b2' m9' d2') (.slice b3' m10' d3') = W16 := ⟨_, rfl⟩
  have on16 : Only w7.heap.size w15 W16 := by rw [← hW16]; exact put11_only ..
  have hz16 : W16.heap[w7.heap.size]? = some (.cells (SE.cells (.slice b1' m6' d1') (.slice b2' m9' d2') (.slice b3' m10' d3')) 38) := by rw [← hW16]; exact put11_row HZ15.out
  have hx16 : W16.heap[w9.heap.size]? = some (.cells (RE.cells (.slice g1 m6 o1) (.slice g2 m9 o2) (.slice g3 m10 o3)) 38) := by rw [on16.block _ (by have := HP14.out; omega)]; exact HX15.out
  have hr16 := on16.rv HR15.out HO7.out.1 HO7.out.2.1 HO7.out.2.2
  have hb16 : Below W4.heap.size W4 W16 := HB15.out.trans (on16.below HP12.out)
  dsimp only [put11] at hW16
  rw [hW16]
  have HZ16 := Lib.hid hz16
  have HX16 := Lib.hid hx16
  have HR16 := Lib.hid hr16
  have HB16 := Lib.hid hb16
  clear hW16 on16 hz16 hx16 hr16 hb16 j0 j1 j2 j3 j4 j5 j6 j7 j8 j9 j10 z0 z1 z2 z3 z4 z5 z6 z7 z8 z9 z10 HZ15 HX15 HB15 HR15 HO7
  obtain ⟨k0, k1, k2, k3, k4, k5, k6, k7, k8, k9, k10⟩ := cells11 (row_below HX4.out HB16.out)
  go_wp2_with fail
  (with_reducible refine (HRSE.out _ HB16.out).mono ?_)
  rintro e17 w17 ⟨u1, u2, u3, rfl, hr17, hof17, hb17⟩
  obtain ⟨f1', n1', rfl⟩ := hr17.d.shape
  obtain ⟨f2', n2', rfl⟩ := hr17.s.shape
  obtain ⟨f3', n3', rfl⟩ := hr17.m.shape
  obtain ⟨hm6, hm9, hm10⟩ := HM2.out
  rw [hm6, hm9, hm10] at hr17 hof17 ⊢
  have hlt9 : w9.heap.size < W16.heap.size := (Array.getElem?_eq_some_iff.1 HX16.out).1
  have ho17 := hof17 w9.heap.size hlt9 (HOO.out w9.heap.size (by have := HP12.out; have := HP14.out; omega))
  have HZ17 := Lib.hid (row_below HZ16.out hb17)
  have HX17 := Lib.hid (row_below HX16.out hb17)
  have HB17 := Lib.hid (HB16.out.trans (hb17.mono HB16.out.size))
  have HR17 := Lib.hid hr17
  have HQ17 := Lib.hid (HR16.out.below hb17)
  have HO17 := Lib.hid ho17
  clear hr17 hof17 hb17 ho17 hm6 hm9 hm10 hlt9 k0 k1 k2 k3 k4 k5 k6 k7 k8 k9 k10 HX16 HZ16 HR16
  obtain ⟨k0, k1, k2, k3, k4, k5, k6, k7, k8, k9, k10⟩ := cells11 HX17.out
  obtain ⟨z0, z1, z2, z3, z4, z5, z6, z7, z8, z9, z10⟩ := frozen11 HX17.out
  go_upto_region 18 with fail
  obtain ⟨W18, hW18⟩ : ∃ W18, put11 w17 w9.heap.size (.string SE.id) (.string SE.ti) (.int .i64 SE.st) (.int .i64 SE.lg) (.string SE.ru.fq) (.int .i64 SE.ru.ev) (.slice f1' m6' n1') (.int .i64 SE.ru.ct) (.int .i64 SE.ru.un) (.slice f2' m9' n2') (.slice f3' m10' n3') = W18 := ⟨_, rfl⟩
  have on18 : Only w9.heap.size w17 W18 := by rw [← hW18]; exact put11_only ..
  have hx18 : W18.heap[w9.heap.size]? = some (.cells (SE.cells (.slice f1' m6' n1') (.slice f2' m9' n2') (.slice f3' m10' n3')) 38) := by rw [← hW18]; exact put11_row HX17.out
  have hz18 : W18.heap[w7.heap.size]? = some (.cells (SE.cells (.slice b1' m6' d1') (.slice b2' m9' d2') (.slice b3' m10' d3')) 38) := by rw [on18.block _ (by have := HP14.out; omega)]; exact HZ17.out
  have hr18 := on18.rv HR17.out HO17.out.1 HO17.out.2.1 HO17.out.2.2
  have hq18 := on18.rv HQ17.out HO9.out.1 HO9.out.2.1 HO9.out.2.2
  have hb18 : Below W4.heap.size W4 W18 := HB17.out.trans (on18.below (by have := HP12.out; have := HP14.out; omega))
  dsimp only [put11] at hW18
  rw [hW18]
  have HX18 := Lib.hid hx18
  have HZ18 := Lib.hid hz18
  have HR18 := Lib.hid hr18
  have HQ18 := Lib.hid hq18
  have HB18 := Lib.hid hb18
  clear hW18 on18 hx18 hz18 hr18 hq18 hb18 k0 k1 k2 k3 k4 k5 k6 k7 k8 k9 k10 z0 z1 z2 z3 z4 z5 z6 z7 z8 z9 z10 HZ17 HX17 HB17 HR17 HQ17
  go_wp2_with fail
  (with_reducible refine (HCD.out sc HSC8.out _ HB18.out).mono ?_)
  rintro e19 w19 ⟨rfl, hb19⟩
  have HB19 := Lib.hid (HB18.out.trans (hb19.mono HB18.out.size))
  have hse := rsameEvent_any SE SE _ _ _ _ _ _ w19 (HQ18.out.below hb19) (HR18.out.below hb19) HSEZ.out HSEZ.out
  rw [eqE_self] at hse
  have HSE := Lib.hid hse
  obtain ⟨k0, k1, k2, k3, k4, k5, k6, k7, k8, k9, k10⟩ := cells11 (row_below HX18.out hb19)
  obtain ⟨j0, j1, j2, j3, j4, j5, j6, j7, j8, j9, j10⟩ := cells11 (row_below HZ18.out hb19)
  clear hb19 hse
  go_wp2_with fail
  (with_reducible refine HSE.out.mono ?_)
  rintro e20 w20 ⟨rfl, hb20⟩
  have HB20 := Lib.hid (HB19.out.trans (hb20.mono HB19.out.size))
  clear hb20 k0 k1 k2 k3 k4 k5 k6 k7 k8 k9 k10 j0 j1 j2 j3 j4 j5 j6 j7 j8 j9 j10
  obtain ⟨k0, k1, k2, k3, k4, k5, k6, k7, k8, k9, k10⟩ := cells11 (row_below HX4.out HB20.out)
  obtain ⟨j0, j1, j2, j3, j4, j5, j6, j7, j8, j9, j10⟩ := cells11 (row_below HY4.out HB20.out)
  go_wp2_with fail
  (with_reducible refine (HSAME.out _ HB20.out).mono ?_)
  rintro e21 w21 ⟨rfl, hb21⟩
  have HB21 := Lib.hid (HB20.out.trans (hb21.mono HB20.out.size))
  clear hb21 k0 k1 k2 k3 k4 k5 k6 k7 k8 k9 k10 j0 j1 j2 j3 j4 j5 j6 j7 j8 j9 j10
  go_wp2
  go_ret
  exact ⟨rfl, HBW.out _ HB21.out⟩
end Evt
end Go.Proofs.YtkhkhbeolhhomaaGreatDoor
