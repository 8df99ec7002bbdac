/- The walk of the law BookActs. -/
import Derived.Test.YtenmeaoagepfnaaGreatDoorAsBook
import Derived.Test.YtenmeaoagepfnaaGreatDoorB2
import Derived.Test.YtenmeaoagepfnaaGreatDoorB4
import Derived.Test.YtenmeaoagepfnaaGreatDoorA16
import Derived.Test.YtenmeaoagepfnaaGreatDoorBkEl
import Derived.Test.YtenmeaoagepfnaaGreatDoorCodedL2
namespace Go.Proofs.YtenmeaoagepfnaaGreatDoor
open Go Go.RowKit Go.Shelf Lmd
attribute [local go_sem] Oper.semAt_some
namespace Bk
open Evt Tp Rul Day Cand Er

/-- thirteen cells -/
theorem cells13 {w : World} {b : Nat} {a0 a1 a2 a3 a4 a5 a6 a7 a8 a9 a10 a11 a12 : Value} {t : TypeId} (h : w.heap[b]? = some (.cells #[a0, a1, a2, a3, a4, a5, a6, a7, a8, a9, a10, a11, a12] t (0, 0))) :
    w.cell? ⟨b, 0, none⟩ = some a0 ∧ w.cell? ⟨b, 1, none⟩ = some a1 ∧ w.cell? ⟨b, 2, none⟩ = some a2 ∧ w.cell? ⟨b, 3, none⟩ = some a3 ∧ w.cell? ⟨b, 4, none⟩ = some a4 ∧ w.cell? ⟨b, 5, none⟩ = some a5 ∧ w.cell? ⟨b, 6, none⟩ = some a6 ∧ w.cell? ⟨b, 7, none⟩ = some a7 ∧ w.cell? ⟨b, 8, none⟩ = some a8 ∧ w.cell? ⟨b, 9, none⟩ = some a9 ∧ w.cell? ⟨b, 10, none⟩ = some a10 ∧ w.cell? ⟨b, 11, none⟩ = some a11 ∧ w.cell? ⟨b, 12, none⟩ = some a12 := by
  simp [World.cell?, h]
theorem dropK_le (k : List UInt8) (L : List Ev) : dropK k L ≤ 11 := by unfold dropK; split <;> omega
theorem bad_le (r : Ru) : bad r ≤ 8 := by unfold bad; split <;> (try split) <;> (try split) <;> (try split) <;> omega
theorem badEv_le (e : Ev) : badE e ≤ 8 := by
  have h1 : badL e ≤ 8 := by
    unfold badL
    repeat' split
    all_goals omega
  have h2 := bad_le e.ru
  unfold badE
  repeat' split
  all_goals omega
theorem putK_le (e : Ev) (L : List Ev) : putK e L ≤ 11 := by
  have := badEv_le e
  unfold putK; split
  · omega
  · split <;> omega
theorem eight {w : World} {er : Nat → Addr} (h : Errs w er) : E1 w er := ⟨h.s4⟩
/-- a calendar, its model in a box -/
structure Pair (w W : World) (p pm : Nat) (L : List Ev) (v : Value) (ys : List EvV) : Prop where
  both : Both w W p L v ys
  box : W.heap[pm]? = some (.cells #[v] 29)
theorem Pair.below {w A B : World} {p pm : Nat} {L : List Ev} {v : Value} {ys : List EvV} (h : Pair w A p pm L v ys) (hb : Below A.heap.size A B) : Pair w B p pm L v ys :=
  ⟨⟨h.both.low.trans (hb.mono h.both.low.size), h.both.book.below hb, h.both.model.below hb, h.both.same⟩, row_below h.box hb⟩
theorem Pair.lens {w A : World} {p pm : Nat} {L : List Ev} {v : Value} {ys : List EvV} (h : Pair w A p pm L v ys) : ys.length ≤ 1000 := by
  have h1 := h.both.same
  have h2 := h.both.book.few
  rw [← h1, List.length_map] at h2; omega
set_option maxRecDepth 100000 in
set_option maxHeartbeats 20000000 in
theorem bookActs_any (xs : List ActV) (v : Value) (d : Int) (id : ByteArray) (er : Nat → Addr) (w : World) (he : Errs w er) (hT : Tb w er) (hr : AReads w v xs) (hf : ∀ x ∈ xs, Fin64 x.x.e ∧ x.id.size ≤ 9223372036854775807) (hid : id.size ≤ 9223372036854775807) :
    Calls Tryz.prog 3 #[v, .int .i64 d, .string id] w fun r w' => r = .returned (.bool true) ∧ Below w.heap.size w w' := by
  have HE := Lib.hid he
  have HT := Lib.hid hT
  have HR := Lib.hid hr
  have HF := Lib.hid hf
  have HBK := Lib.hid (booked_any er w (seven he))
  clear he hT hr hf
  go_enter Tryz.func3, Tryz.ntmps3
  go_wp2_with fail
  (with_reducible refine HBK.out.mono ?_)
  rintro e1 w1 ⟨rfl, hb1⟩
  have HB1 := Lib.hid hb1
  have HL := Lib.hid (longActs_any xs v w1 (HR.out.below hb1) HF.out)
  clear hb1
  go_upto_region 2 with fail
  go_cut [30] from 20 (fun s wc => ∃ q : Bool, s = .bool q ∧ Below w.heap.size w wc ∧ (q = false → xs.length ≤ 90 ∧ ∀ x ∈ xs, ¬ LongP x.x.e))
  case first =>
    go_wp2_with fail
    (with_reducible refine HL.out.mono ?_)
    rintro e2 w2 ⟨q, rfl, hq, hb2⟩
    have HB2 := Lib.hid (HB1.out.trans (hb2.mono HB1.out.size))
    have HQ := Lib.hid hq
    clear hb2 hq
    cases q with
    | true =>
      go_wp2_with fail
      go_meet
      exact ⟨true, rfl, HB2.out, fun h => by cases h⟩
    | false =>
      by_cases hq : (30 : Int) < (id.size : Int)
      · go_wp2_with fail
        go_meet
        exact ⟨true, rfl, HB2.out, fun h => by cases h⟩
      · go_wp2_with fail
        go_meet
        exact ⟨_, rfl, HB2.out, fun _ => HQ.out trivial⟩
  case rest =>
    obtain ⟨q, rfl, hbc, hq⟩ := hcut
    obtain ⟨wa, hwa⟩ : ∃ x, x = wc := ⟨_, rfl⟩
    subst hwa
    have HBC := Lib.hid hbc
    cases q with
    | true =>
      clear hq hbc
      go_wp2
      go_ret
      exact ⟨rfl, HBC.out⟩
    | false =>
      obtain ⟨hxl, hnl⟩ := hq rfl
      have HNEW := Lib.hid (new_any wa)
      have HNL := Lib.hid hnl
      have HRC := Lib.hid (HR.out.below hbc)
      obtain ⟨a, cap, rfl⟩ := HRC.out.shape
      obtain ⟨n, hn⟩ : ∃ n, xs.length = n := ⟨_, rfl⟩
      rw [hn] at HRC hxl ⊢
      have HN := Lib.hid hn
      clear hq hbc hnl hn
      go_wp2_with fail
      (with_reducible refine HNEW.out.mono ?_)
      rintro e3 w3 ⟨rfl, hbk, hb3⟩
      go_upto_region 8 with fail
      generalize hW4 : w3.alloc _ = W4
      have hb4 : Below w3.heap.size w3 W4 := by rw [← hW4]; exact (Below.refl _ w3).alloc (Nat.le_refl _) _
      have hx4 : W4.heap[w3.heap.size]? = some (.cells #[.slice none 0 0] 29) := by rw [← hW4]; exact heap_new w3 _
      have hpm : wa.heap.size + 1 < w3.heap.size := (Array.getElem?_eq_some_iff.1 hbk.box).1
      have HPR := Lib.hid (show Pair wa W4 wa.heap.size w3.heap.size [] (.slice none 0 0) [] from ⟨⟨hb3.trans (hb4.mono hb3.size), hbk.below hb4, .inl ⟨rfl, _, _, rfl⟩, rfl⟩, hx4⟩)
      obtain ⟨pm, hpmm⟩ : ∃ pm, w3.heap.size = pm := ⟨_, rfl⟩
      rw [hpmm] at HPR hpm ⊢
      clear hW4 hb4 hx4 hb3 hbk hpmm
      go_wp2_with fail
      go_loopw [10, 11, 12, 13, 14] (fun i _ _ _ _ wr => ∃ (k : Nat) (L : List Ev) (v : Value) (ys : List EvV), k ≤ n ∧ i = .int .i64 (k : Int) ∧ Pair wa wr wa.heap.size pm L v ys) (fun i _ _ _ _ _ => n - (intOf i).toNat)
      case atStart => exact ⟨0, [], _, [], Nat.zero_le _, rfl, HPR.out⟩
      case round =>
        obtain ⟨k, L, vm0, ys, hk, rfl, hpr⟩ := hrel
        obtain ⟨va, vc, rfl⟩ := hpr.both.model.shape
        have HP := Lib.hid hpr
        have hrr := HRC.out.below hpr.both.low
        have HBW := Lib.hid (HBC.out.trans (hpr.both.low.mono HBC.out.size))
        clear hpr
        by_cases hlt : k < n
        · obtain ⟨-, b, o, ha, hc⟩ := hrr.at (by intro h; have := HN.out; rw [h] at this; simp at this; omega)
          subst ha
          obtain ⟨⟨ck, ⟨c0, c1', c2, c3', c4, c5, c6, c7, c8, c9, c10⟩, ci⟩, hrv⟩ := hc k (by rw [HN.out]; exact hlt)
          have hfx := HF.out _ (ela_mem (xs := xs) (i := k) (by rw [HN.out]; exact hlt))
          have hnl := HNL.out _ (ela_mem (xs := xs) (i := k) (by rw [HN.out]; exact hlt))
          obtain ⟨y, hx⟩ : ∃ y, ela xs k = y := ⟨_, rfl⟩
          rw [hx] at ck c0 c1' c2 c3' c4 c5 c6 c7 c8 c9 c10 ci hrv hfx hnl
          obtain ⟨kd, ⟨e, vd, vs, vm⟩, ai⟩ := y
          dsimp only at ck c0 c1' c2 c3' c4 c5 c6 c7 c8 c9 c10 ci hfx hnl
          change Rv wr e vd vs vm at hrv
          obtain ⟨a6, c6', rfl⟩ := hrv.d.shape
          obtain ⟨a9, c9', rfl⟩ := hrv.s.shape
          obtain ⟨a10, c10', rfl⟩ := hrv.m.shape
          have hsz := size_of hnl
          have HHC := Lib.hid hc
          clear hc hrr hx hnl
          go_upto_region 12 with fail
          generalize hW5 : wr.alloc _ = W5
          have hb5 : Below wr.heap.size wr W5 := by rw [← hW5]; exact (Below.refl _ wr).alloc (Nat.le_refl _) _
          have hx5 : W5.heap[wr.heap.size]? = some (.cells #[.string kd, .string e.id, .string e.ti, .int .i64 e.st, .int .i64 e.lg, .string e.ru.fq, .int .i64 e.ru.ev, .slice a6 e.ru.ds.length c6', .int .i64 e.ru.ct, .int .i64 e.ru.un, .slice a9 e.sk.length c9', .slice a10 e.mv.length c10', .string ai] 37) := by rw [← hW5]; exact heap_new wr _
          obtain ⟨j0, j1, j2, j3, j4, j5, j6, j7, j8, j9, j10, j11, j12⟩ := cells13 hx5
          have hp5 := HP.out.below hb5
          have hrv5 := hrv.below hb5
          have k5 := cell1 hp5.box
          have HP5 := Lib.hid hp5
          have HX5 := Lib.hid hx5
          have HRV5 := Lib.hid hrv5
          have HSZ := Lib.hid hsz
          have HB5 := Lib.hid (HBC.out.trans (hp5.both.low.mono HBC.out.size))
          have hai := hfx.2
          have hpl : wr.heap.size < W5.heap.size := (Array.getElem?_eq_some_iff.1 hx5).1
          have hwr : wa.heap.size < wr.heap.size := by have := (Array.getElem?_eq_some_iff.1 HP.out.box).1; omega
          have hpn : pm ≠ wr.heap.size := by have := (Array.getElem?_eq_some_iff.1 HP.out.box).1; omega
          clear hW5 hb5 hx5 hp5 hrv5 hrv hfx hsz ck c0 c1' c2 c3' c4 c5 c6 c7 c8 c9 c10 ci
          by_cases hkd : kd.toList = [112, 117, 116]
          · have hk1 : (kd.toList == [112, 117, 116]) = true := beq_iff_eq.2 hkd
            obtain ⟨K, hK⟩ : ∃ K, putK e L = K := ⟨_, rfl⟩
            have hru := rput_any ys (.slice va ys.length vc) ⟨e, .slice a6 e.ru.ds.length c6', .slice a9 e.sk.length c9', .slice a10 e.mv.length c10'⟩ W5 HP5.out.both.model HRV5.out HSZ.out HP5.out.lens
            unfold RPut at hru
            rw [show putK (EvV.mk e (.slice a6 e.ru.ds.length c6') (.slice a9 e.sk.length c9') (.slice a10 e.mv.length c10')).e (ys.map (·.e)) = K by rw [HP5.out.both.same]; exact hK] at hru
            have HRU := Lib.hid hru
            have HK := Lib.hid hK
            clear hru hK
            go_wp2_with fail
            (with_reducible refine HRU.out.mono ?_)
            rintro e7 w7 ⟨v7, rfl, hr7, hb7⟩
            obtain ⟨ys7, hys7⟩ : ∃ ys7, putV (⟨e, .slice a6 e.ru.ds.length c6', .slice a9 e.sk.length c9', .slice a10 e.mv.length c10'⟩ : EvV) ys = ys7 := ⟨_, rfl⟩
            have hmap : ys7.map (·.e) = putL e L := by rw [← hys7, putV_map, HP5.out.both.same]
            rw [hys7] at hr7
            obtain ⟨a7, c7', rfl⟩ := hr7.shape
            go_upto_region 14 with fail
            generalize hW8 : w7.alloc _ = W8
            have hb8 : Below w7.heap.size w7 W8 := by rw [← hW8]; exact (Below.refl _ w7).alloc (Nat.le_refl _) _
            have hx8 : W8.heap[w7.heap.size]? = some (.cells #[.slice a7 ys7.length c7'] 29) := by rw [← hW8]; exact heap_new w7 _
            have hb58 := hb7.trans (hb8.mono hb7.size)
            have hp8 := HP5.out.below hb58
            obtain ⟨i0, i1, i2, i3, i4, i5, i6, i7, i8, i9, i10, i11, i12⟩ := cells13 (row_below HX5.out hb58)
            have hrv8 := HRV5.out.below hb58
            have hr8 := hr7.below hb8
            have HOW := Lib.hid (ownEvent_any e _ _ _ W8 hrv8 HSZ.out)
            have HP8 := Lib.hid hp8
            have HX8 := Lib.hid hx8
            have HR8 := Lib.hid hr8
            have HMAP := Lib.hid hmap
            have hpw : pm < w7.heap.size := Nat.lt_of_lt_of_le (Array.getElem?_eq_some_iff.1 HP5.out.box).1 hb7.size
            clear hW8 hb8 hx8 hb58 hp8 hrv8 hr8 hr7 hb7 hys7 hmap j0 j1 j2 j3 j4 j5 j6 j7 j8 j9 j10 j11 j12 k5
            go_wp2_with fail
            (with_reducible refine HOW.out.mono ?_)
            rintro e9 w9 ⟨u1, u2, u3, rfl, hru9, hb9⟩
            have hp9 := HP8.out.below hb9
            have hB9 := HBC.out.trans (hp9.both.low.mono HBC.out.size)
            have hpu := put_any w9 _ _ _ L e _ _ _ er (seven (HE.out.below hB9)) hp9.both.book hru9 HSZ.out
            unfold PutP at hpu
            rw [HK.out] at hpu
            have HPU := Lib.hid hpu
            have HP9 := Lib.hid hp9
            have HR9 := Lib.hid (HR8.out.below hb9)
            have HX9 := Lib.hid (row_below HX8.out hb9)
            have hs9 := hb9.size
            have hw8 : w7.heap.size < W8.heap.size := (Array.getElem?_eq_some_iff.1 HX8.out).1
            clear hru9 hpu hp9 hb9 hB9 i0 i1 i2 i3 i4 i5 i6 i7 i8 i9 i10 i11 i12
            go_wp2_with fail
            (with_reducible refine HPU.out.mono ?_)
            rintro e10 w10 ⟨rfl, hbk10, hfar10⟩
            have hism := HP9.out.both.book.isMap
            have hlow10 : Below wa.heap.size wa w10 := HP9.out.both.low.trans (hfar10.below (fun j hj => by omega) HP9.out.both.low.size)
            have hB10 := HBC.out.trans (hlow10.mono HBC.out.size)
            have hco := Cd2.coded_any er K (by rw [← HK.out]; exact putK_le e L) w10 (HE.out.below hB10)
            have hx10 : w10.heap[w7.heap.size]? = some (.cells #[.slice a7 ys7.length c7'] 29) := by rw [hfar10.block _ (by omega) (by omega)]; exact HX9.out
            have hbx10 : w10.heap[pm]? = some (.cells #[.slice va ys.length vc] 29) := by rw [hfar10.block _ (by omega) (by omega)]; exact HP9.out.box
            have hr10 := ereads_far hism hfar10 HR9.out
            have HCO := Lib.hid hco
            have H10 := Lib.hid (And.intro hlow10 (And.intro hbk10 (And.intro hx10 (And.intro hbx10 hr10))))
            clear hbk10 hfar10 hism hlow10 hB10 hco hx10 hbx10 hr10
            go_wp2_with fail
            (with_reducible refine HCO.out.mono ?_)
            rintro e11 w11 ⟨rfl, hb11⟩
            obtain ⟨l10, bk10, x10, bx10, r10⟩ := H10.out
            have hx11 := row_below x10 hb11
            have hbx11 := row_below bx10 hb11
            obtain ⟨q0, -⟩ := cell1r hx11
            obtain ⟨y0, y1⟩ := cell1r hbx11
            have HBX11 := Lib.hid hbx11
            have H11 := Lib.hid (And.intro (l10.trans (hb11.mono l10.size)) (And.intro (bk10.below hb11) (r10.below hb11)))
            clear l10 bk10 x10 bx10 r10 hx11 hbx11 hb11
            go_wp2
            go_roundw
            case rel => exact ⟨k + 1, putL e L, .slice a7 ys7.length c7', ys7, by omega, by go_num, ⟨⟨H11.out.1.setCell (p := ⟨pm, 0, none⟩) (by show wa.heap.size ≤ pm; omega) _, H11.out.2.1.boxS ⟨_, _, _, _, HBX11.out⟩ (far_set _ pm _), H11.out.2.2.boxS ⟨_, _, _, _, HBX11.out⟩ (far_set _ pm _), HMAP.out⟩, row_set HBX11.out 0 _⟩⟩
            case measure => simp [intOf]; omega
          · have hk1 : (kd.toList == [112, 117, 116]) = false := beq_false_of_ne hkd
            have HFI := Lib.hid (rfind_any ys (.slice va ys.length vc) ai W5 HP5.out.both.model HP5.out.lens)
            go_upto_region 18 with fail
            go_cut [69] from 65 to 69 (fun s wd => s = .bool (!hasK ai.data.toList L) ∧ Below W5.heap.size W5 wd)
            case first =>
              go_wp2_with fail
              (with_reducible refine HFI.out.mono ?_)
              rintro e7 w7 ⟨z, rfl, hfa, hb7⟩
              have hhas := hfa.has
              rw [HP5.out.both.same] at hhas
              have HH := Lib.hid hhas
              have HB7 := Lib.hid hb7
              clear hfa hb7 hhas
              by_cases hz : 0 ≤ z
              · have hz2 : ¬ z < 0 := by omega
                go_wp2_with fail
                go_meet
                exact ⟨by rw [HH.out, decide_eq_true (show 0 ≤ z by omega), decide_eq_false (show ¬ z < 0 by omega)]; rfl, HB7.out⟩
              · have hz2 : z < 0 := by omega
                go_wp2_with fail
                go_meet
                exact ⟨by rw [HH.out, decide_eq_false (show ¬ 0 ≤ z by omega)]; rfl, HB7.out⟩
            case rest =>
              obtain ⟨hs, hb7⟩ := hcut
              obtain ⟨w7, hw7⟩ : ∃ w7, wc = w7 := ⟨_, rfl⟩
              rw [hw7] at hb7 ⊢
              subst hs
              clear hw7
              have hp7 := HP5.out.below hb7
              obtain ⟨i0, i1, i2, i3, i4, i5, i6, i7, i8, i9, i10, i11, i12⟩ := cells13 (row_below HX5.out hb7)
              have hB7 := HBC.out.trans (hp7.both.low.mono HBC.out.size)
              have k7 := cell1 hp7.box
              have HP7 := Lib.hid hp7
              have HX7 := Lib.hid (row_below HX5.out hb7)
              obtain ⟨q, hq⟩ : ∃ q, hasK ai.data.toList L = q := ⟨_, rfl⟩
              rw [hq]
              clear hb7 j0 j1 j2 j3 j4 j5 j6 j7 j8 j9 j10 j11 j12 k5
              cases q with
              | true =>
                have hdk : dropK ai.data.toList L = 0 := by unfold dropK; rw [if_pos hq]
                have hdr := drop_any w7 _ _ _ L ai er (eight (HE.out.below hB7)) hp7.both.book hai
                rw [hdk] at hdr
                simp only [errV] at hdr
                have HDR := Lib.hid hdr
                clear hdr hp7 hB7 hq hdk
                go_wp2_with fail
                (with_reducible refine HDR.out.mono ?_)
                rintro e8 w8 ⟨rfl, hbk8, hfar8⟩
                have hlow8 : Below wa.heap.size wa w8 := HP7.out.both.low.trans (hfar8.below (fun j hj => by omega) HP7.out.both.low.size)
                have hism := HP7.out.both.book.isMap
                have hco : Calls Tryz.prog 16 #[.nilIface, .int .i64 0] w8 (fun e' w' => e' = .returned (.bool true) ∧ Below w8.heap.size w8 w') := Cd2.coded_any er 0 (by decide) w8 (HE.out.below (HBC.out.trans (hlow8.mono HBC.out.size)))
                have hbx8 : w8.heap[pm]? = some (.cells #[.slice va ys.length vc] 29) := by
                  rw [hfar8.block _ (Array.getElem?_eq_some_iff.1 HP7.out.box).1 (by omega)]; exact HP7.out.box
                have hxa8 : w8.heap[wr.heap.size]? = some (.cells #[.string kd, .string e.id, .string e.ti, .int .i64 e.st, .int .i64 e.lg, .string e.ru.fq, .int .i64 e.ru.ev, .slice a6 e.ru.ds.length c6', .int .i64 e.ru.ct, .int .i64 e.ru.un, .slice a9 e.sk.length c9', .slice a10 e.mv.length c10', .string ai] 37) := by
                  rw [hfar8.block _ (Array.getElem?_eq_some_iff.1 HX7.out).1 (by omega)]; exact HX7.out
                have H8 := Lib.hid (And.intro hlow8 (And.intro hbk8 (And.intro hbx8 (And.intro hxa8 (ereads_far hism hfar8 HP7.out.both.model)))))
                have HCO := Lib.hid hco
                clear hlow8 hism hco hbx8 hxa8 hbk8 hfar8 i0 i1 i2 i3 i4 i5 i6 i7 i8 i9 i10 i11 i12 k7
                go_wp2_with fail
                (with_reducible refine HCO.out.mono ?_)
                rintro e9 w9 ⟨rfl, hb9⟩
                obtain ⟨l8, bk8, bx8, xa8, r8⟩ := H8.out
                have k9 := cell1 (row_below bx8 hb9)
                obtain ⟨i0, i1, i2, i3, i4, i5, i6, i7, i8, i9, i10, i11, i12⟩ := cells13 (row_below xa8 hb9)
                have HWI := Lib.hid (rwithout_any ys (.slice va ys.length vc) ai w9 (r8.below hb9) HP7.out.lens)
                have HBX9 := Lib.hid (row_below bx8 hb9)
                have H9 := Lib.hid (And.intro (l8.trans (hb9.mono l8.size)) (bk8.below hb9))
                clear l8 bk8 bx8 xa8 r8 hb9
                go_wp2_with fail
                (with_reducible refine HWI.out.mono ?_)
                rintro e10 w10 ⟨v10, rfl, hr10, hb10⟩
                have hmap : (gwithout keyV ai.data.toList ys).map (·.e) = without ai.data.toList L := by
                  rw [gwithout_map keyV (·.e) (fun _ => rfl), HP7.out.both.same]
                obtain ⟨ys10, hys10⟩ : ∃ ys10, gwithout keyV ai.data.toList ys = ys10 := ⟨_, rfl⟩
                rw [hys10] at hr10 hmap
                obtain ⟨a11, c11, rfl⟩ := hr10.shape
                have hbx10 := row_below HBX9.out hb10
                obtain ⟨y0, y1⟩ := cell1r hbx10
                have HBX10 := Lib.hid hbx10
                have HMAP := Lib.hid hmap
                have H10 := Lib.hid (And.intro (H9.out.1.trans (hb10.mono H9.out.1.size)) (And.intro (H9.out.2.below hb10) hr10))
                clear hmap hys10 hr10 hb10 hbx10 i0 i1 i2 i3 i4 i5 i6 i7 i8 i9 i10 i11 i12 k9
                go_wp2
                go_roundw
                case rel => exact ⟨k + 1, without ai.data.toList L, .slice a11 ys10.length c11, ys10, by omega, by go_num, ⟨⟨H10.out.1.setCell (p := ⟨pm, 0, none⟩) (by show wa.heap.size ≤ pm; omega) _, H10.out.2.1.boxS ⟨_, _, _, _, HBX10.out⟩ (far_set _ pm _), H10.out.2.2.boxS ⟨_, _, _, _, HBX10.out⟩ (far_set _ pm _), HMAP.out⟩, row_set HBX10.out 0 _⟩⟩
                case measure => simp [intOf]; omega
              | false =>
                have hdk : dropK ai.data.toList L = 5 := by unfold dropK; rw [hq]; rfl
                have hdr := drop_any w7 _ _ _ L ai er (eight (HE.out.below hB7)) hp7.both.book hai
                rw [hdk] at hdr
                simp only [errV] at hdr
                have HDR := Lib.hid hdr
                clear hdr hp7 hB7 hq hdk
                go_wp2_with fail
                (with_reducible refine HDR.out.mono ?_)
                rintro e8 w8 ⟨rfl, hbk8, hfar8⟩
                have hlow8 : Below wa.heap.size wa w8 := HP7.out.both.low.trans (hfar8.below (fun j hj => by omega) HP7.out.both.low.size)
                have hism := HP7.out.both.book.isMap
                have hco : Calls Tryz.prog 16 #[ev (er 4), .int .i64 5] w8 (fun e' w' => e' = .returned (.bool true) ∧ Below w8.heap.size w8 w') := Cd2.coded_any er 5 (by decide) w8 (HE.out.below (HBC.out.trans (hlow8.mono HBC.out.size)))
                have hbx8 : w8.heap[pm]? = some (.cells #[.slice va ys.length vc] 29) := by
                  rw [hfar8.block _ (Array.getElem?_eq_some_iff.1 HP7.out.box).1 (by omega)]; exact HP7.out.box
                have hxa8 : w8.heap[wr.heap.size]? = some (.cells #[.string kd, .string e.id, .string e.ti, .int .i64 e.st, .int .i64 e.lg, .string e.ru.fq, .int .i64 e.ru.ev, .slice a6 e.ru.ds.length c6', .int .i64 e.ru.ct, .int .i64 e.ru.un, .slice a9 e.sk.length c9', .slice a10 e.mv.length c10', .string ai] 37) := by
                  rw [hfar8.block _ (Array.getElem?_eq_some_iff.1 HX7.out).1 (by omega)]; exact HX7.out
                have H8 := Lib.hid (And.intro hlow8 (And.intro hbk8 (And.intro hbx8 (And.intro hxa8 (ereads_far hism hfar8 HP7.out.both.model)))))
                have HCO := Lib.hid hco
                clear hlow8 hism hco hbx8 hxa8 hbk8 hfar8 i0 i1 i2 i3 i4 i5 i6 i7 i8 i9 i10 i11 i12 k7
                go_wp2_with fail
                (with_reducible refine HCO.out.mono ?_)
                rintro e9 w9 ⟨rfl, hb9⟩
                obtain ⟨l8, bk8, bx8, xa8, r8⟩ := H8.out
                have k9 := cell1 (row_below bx8 hb9)
                obtain ⟨i0, i1, i2, i3, i4, i5, i6, i7, i8, i9, i10, i11, i12⟩ := cells13 (row_below xa8 hb9)
                have HWI := Lib.hid (rwithout_any ys (.slice va ys.length vc) ai w9 (r8.below hb9) HP7.out.lens)
                have HBX9 := Lib.hid (row_below bx8 hb9)
                have H9 := Lib.hid (And.intro (l8.trans (hb9.mono l8.size)) (bk8.below hb9))
                clear l8 bk8 bx8 xa8 r8 hb9
                go_wp2_with fail
                (with_reducible refine HWI.out.mono ?_)
                rintro e10 w10 ⟨v10, rfl, hr10, hb10⟩
                have hmap : (gwithout keyV ai.data.toList ys).map (·.e) = without ai.data.toList L := by
                  rw [gwithout_map keyV (·.e) (fun _ => rfl), HP7.out.both.same]
                obtain ⟨ys10, hys10⟩ : ∃ ys10, gwithout keyV ai.data.toList ys = ys10 := ⟨_, rfl⟩
                rw [hys10] at hr10 hmap
                obtain ⟨a11, c11, rfl⟩ := hr10.shape
                have hbx10 := row_below HBX9.out hb10
                obtain ⟨y0, y1⟩ := cell1r hbx10
                have HBX10 := Lib.hid hbx10
                have HMAP := Lib.hid hmap
                have H10 := Lib.hid (And.intro (H9.out.1.trans (hb10.mono H9.out.1.size)) (And.intro (H9.out.2.below hb10) hr10))
                clear hmap hys10 hr10 hb10 hbx10 i0 i1 i2 i3 i4 i5 i6 i7 i8 i9 i10 i11 i12 k9
                go_wp2
                go_roundw
                case rel => exact ⟨k + 1, without ai.data.toList L, .slice a11 ys10.length c11, ys10, by omega, by go_num, ⟨⟨H10.out.1.setCell (p := ⟨pm, 0, none⟩) (by show wa.heap.size ≤ pm; omega) _, H10.out.2.1.boxS ⟨_, _, _, _, HBX10.out⟩ (far_set _ pm _), H10.out.2.2.boxS ⟨_, _, _, _, HBX10.out⟩ (far_set _ pm _), HMAP.out⟩, row_set HBX10.out 0 _⟩⟩
                case measure => simp [intOf]; omega
        · obtain rfl : k = n := by omega
          have HCP := Lib.hid (copy_any wr _ _ _ L HP.out.both.book)
          clear hrr
          go_wp2_with fail
          (with_reducible refine HCP.out.mono ?_)
          rintro e5 w5 ⟨rfl, hbk5, hb5⟩
          have hp5 := HP.out.below hb5
          have HP5 := Lib.hid hp5
          have HC5 := Lib.hid hbk5
          have HG := Lib.hid (get_any w5 _ _ _ L id hp5.both.book hid)
          have HB5 := Lib.hid (HBW.out.trans (hb5.mono HBW.out.size))
          clear hp5 hbk5 hb5
          unfold GotE at HG
          obtain ⟨fe, hfe⟩ : ∃ fe, foundE id.data.toList L = fe := ⟨_, rfl⟩
          obtain ⟨is, his⟩ : ∃ is, hasK id.data.toList L = is := ⟨_, rfl⟩
          rw [hfe, his] at HG
          have hfz := foundE_fit HP5.out.both.book id.data.toList
          rw [hfe] at hfz
          have HFE := Lib.hid hfe
          have HIS := Lib.hid his
          have HFZ := Lib.hid hfz
          clear hfe his hfz
          go_wp2_with fail
          (with_reducible refine HG.out.mono ?_)
          rintro e6 w6 ⟨v1, v2, v3, rfl, hr6, -, -, -, hb6⟩
          obtain ⟨a1, c1, rfl⟩ := hr6.d.shape
          obtain ⟨a2, c2, rfl⟩ := hr6.s.shape
          obtain ⟨a3, c3, rfl⟩ := hr6.m.shape
          go_upto_region 25 with fail
          generalize hW7 : w6.alloc _ = W7
          have hb7 : Below w6.heap.size w6 W7 := by rw [← hW7]; exact (Below.refl _ w6).alloc (Nat.le_refl _) _
          have hx7 : W7.heap[w6.heap.size]? = some (.cells (fe.cells (.slice a1 fe.ru.ds.length c1) (.slice a2 fe.sk.length c2) (.slice a3 fe.mv.length c3)) 35) := by rw [← hW7]; exact heap_new w6 _
          have hb57 := hb6.trans (hb7.mono hb6.size)
          have hp7 := HP5.out.below hb57
          have k7 := cell1 hp7.box
          have HP7 := Lib.hid hp7
          have HC7 := Lib.hid (HC5.out.below hb57)
          have HX7 := Lib.hid hx7
          have HR7 := Lib.hid (hr6.below hb7)
          have HB7 := Lib.hid (HB5.out.trans (hb57.mono HB5.out.size))
          have HFI := Lib.hid (rfind_any ys (.slice va ys.length vc) id W7 hp7.both.model hp7.lens)
          clear hW7 hb7 hx7 hb57 hp7 hr6 hb6
          go_wp2_with fail
          (with_reducible refine HFI.out.mono ?_)
          rintro e8 w8 ⟨z, rfl, hfa, hb8⟩
          have hhas := hfa.has
          rw [HP7.out.both.same, HIS.out] at hhas
          have hp8 := HP7.out.below hb8
          have hbt := HB7.out.trans (hb8.mono HB7.out.size)
          have hT8 := HT.out.below hbt
          have k8 := cell1 hp8.box
          have hbk8 := HC7.out.below hb8
          have has := fun W' (h : Below w8.heap.size w8 W') => asBook_any W' _ _ _ L (.slice va ys.length vc) ys er (hT8.below h) (hp8.both.book.below h) (hp8.both.model.below h) hp8.both.same
          have hac := fun W' (h : Below w8.heap.size w8 W') => asBook_any W' _ _ _ L (.slice va ys.length vc) ys er (hT8.below h) (hbk8.below h) (hp8.both.model.below h) hp8.both.same
          have HAS := Lib.hid has
          have HAC := Lib.hid hac
          have HFA := Lib.hid hfa
          have HP8 := Lib.hid hp8
          have HC8 := Lib.hid hbk8
          have HX8 := Lib.hid (row_below HX7.out hb8)
          have HR8 := Lib.hid (HR7.out.below hb8)
          have HB8 := Lib.hid hbt
          have HHAS := Lib.hid hhas
          clear has hac hfa hp8 hbk8 hbt hT8 hb8 k7 hhas
          go_upto_region 26 with fail
          go_cut [111] from 92 to 111 (fun s wd => s = .bool false ∧ Below w8.heap.size w8 wd)
          case first =>
            by_cases hz : 0 ≤ z
            · have hi1 : is = true := by rw [HHAS.out]; exact decide_eq_true hz
              subst hi1
              go_wp2_with fail
              (with_reducible refine (HAS.out w8 (Below.refl _ _)).mono ?_)
              rintro e9 w9 ⟨rfl, hb9⟩
              have k9 := cell_later hb9 k8
              have HB9 := Lib.hid hb9
              clear hb9
              go_wp2_with fail
              (with_reducible refine (HAC.out w9 HB9.out).mono ?_)
              rintro e10 w10 ⟨rfl, hb10⟩
              have HB10 := Lib.hid (HB9.out.trans (hb10.mono HB9.out.size))
              clear hb10
              go_wp2_with fail
              go_meet
              exact ⟨rfl, HB10.out⟩
            · have hi1 : is = false := by rw [HHAS.out]; exact decide_eq_false hz
              subst hi1
              go_wp2_with fail
              (with_reducible refine (HAS.out w8 (Below.refl _ _)).mono ?_)
              rintro e9 w9 ⟨rfl, hb9⟩
              have k9 := cell_later hb9 k8
              have HB9 := Lib.hid hb9
              clear hb9
              go_wp2_with fail
              (with_reducible refine (HAC.out w9 HB9.out).mono ?_)
              rintro e10 w10 ⟨rfl, hb10⟩
              have HB10 := Lib.hid (HB9.out.trans (hb10.mono HB9.out.size))
              clear hb10
              go_wp2_with fail
              go_meet
              exact ⟨rfl, HB10.out⟩
          case rest =>
            obtain ⟨rfl, hbd⟩ := hcut
            have hpd := HP8.out.below hbd
            have hBd := HB8.out.trans (hbd.mono HB8.out.size)
            have HPD := Lib.hid hpd
            have HCD := Lib.hid (HC8.out.below hbd)
            have hxd := row_below HX8.out hbd
            have HXD := Lib.hid hxd
            have HRD := Lib.hid (HR8.out.below hbd)
            have HBD := Lib.hid hBd
            clear hbd hpd hBd k8 HAS HAC
            obtain ⟨wb, hwb⟩ : ∃ x, x = wc := ⟨_, rfl⟩
            subst hwb
            cases is with
            | false =>
              clear hxd
              go_upto_region 31 with fail
              obtain ⟨wz, hwz⟩ : ∃ x, x = wb := ⟨_, rfl⟩
              subst hwz
              have HPZ := HPD
              have HCZ := HCD
              have HBZ := HBD
              have hon : onV ys d = onB L (covD · d) := by unfold onV; rw [HPZ.out.both.same]
              have hgd : ∀ x ∈ ys, badE x.e = 0 := fun x hx => HPZ.out.both.book.good x.e (by rw [← HPZ.out.both.same]; exact List.mem_map.2 ⟨x, hx, rfl⟩)
              have hzz : ∀ x ∈ ys, Size x.e := fun x hx => HPZ.out.both.book.fit x.e (by rw [← HPZ.out.both.same]; exact List.mem_map.2 ⟨x, hx, rfl⟩)
              have hbon := fun W' (h : Below wz.heap.size wz W') => on_any W' _ _ _ L er d (seven (HE.out.below (HBZ.out.trans (h.mono HBZ.out.size)))) (HPZ.out.both.book.below h)
              have hron := fun W' (h : Below wz.heap.size wz W') => ron_any ys (.slice va ys.length vc) d W' (HPZ.out.both.model.below h) HPZ.out.lens hgd hzz
              simp only [hon] at hron
              have hsm : ∀ W', Below wz.heap.size wz W' → Calls Tryz.prog 29 #[.pointer (some ⟨wa.heap.size + 1, 0, none⟩), .pointer (some ⟨wr.heap.size + 1, 0, none⟩)] W' (fun r w' => r = .returned (.bool true) ∧ Below W'.heap.size W' w') := fun W' h => (same_any W' _ _ _ _ _ _ L L er (HT.out.below (HBZ.out.trans (h.mono HBZ.out.size))) (HPZ.out.both.book.below h) (HCZ.out.below h) HPZ.out.both.book.textLe HPZ.out.both.book.textLe).mono fun _ _ hh => ⟨by rw [hh.1, decide_eq_true rfl, decide_eq_true rfl]; rfl, hh.2⟩
              have hS := fun W' (h : Below wz.heap.size wz W') => cell1 (row_below HPZ.out.box h)
              have honl : (onB L (covD · d)).length ≤ 1000000 := by
                have := HPZ.out.both.book.few
                unfold onB; rw [List.length_map]
                exact Nat.le_trans (List.length_filter_le _ _) (by omega)
              have HBON := Lib.hid hbon
              have HRON := Lib.hid hron
              have HSM := Lib.hid hsm
              have HS := Lib.hid hS
              have k9 := cell1 HPZ.out.box
              obtain ⟨ON, hON⟩ : ∃ ON, onB L (covD · d) = ON := ⟨_, rfl⟩
              rw [hON] at HBON HRON honl
              clear hon hgd hzz hbon hron hsm hS hON
              have hacc : Below wz.heap.size wz wz.drew := Tp.below_drew (Below.refl _ wz)
              go_region_with (first
                | ((with_reducible refine (HBON.out _ hacc).mono ?_)
                   rintro f1 x1 ⟨u1, rfl, hr1, hb1⟩
                   obtain ⟨q1, o1, rfl⟩ := hr1.shape
                   replace hacc := hacc.trans (hb1.mono hacc.size)
                   have k1 := HS.out _ hacc
                   clear hb1)
                | ((with_reducible refine (HRON.out _ hacc).mono ?_)
                   rintro f2 x2 ⟨u2, rfl, hr2, hb2⟩
                   obtain ⟨q2, o2, rfl⟩ := hr2.shape
                   have hst := Tx.sameTexts_any x2 _ _ _ _ (hr1.below hb2) hr2 honl honl
                   rw [decide_eq_true rfl] at hst
                   have HST := Lib.hid hst
                   replace hacc := hacc.trans (hb2.mono hacc.size)
                   have k2 := HS.out _ hacc
                   clear hr1 hr2 hb2 hst)
                | ((with_reducible refine HST.out.mono ?_)
                   rintro f3 x3 ⟨rfl, q3, rfl⟩
                   replace hacc := below_draw hacc q3
                   have k3 := HS.out _ hacc)
                | ((with_reducible refine (HSM.out _ hacc).mono ?_)
                   rintro f4 x4 ⟨rfl, hb4⟩
                   replace hacc := hacc.trans (hb4.mono hacc.size)
                   clear hb4))
              all_goals (
                have HACC := Lib.hid (HBZ.out.trans (hacc.mono HBZ.out.size))
                clear hacc
                go_wp2
                go_ret
                exact ⟨rfl, HACC.out⟩)
            | true =>
              rcases HFA.out with ⟨rfl, _⟩ | ⟨j, hj, rfl, hkey⟩
              · have := HHAS.out
                rw [decide_eq_false (by omega)] at this
                cases this
              · obtain ⟨-, b, o, ha, hc⟩ := HPD.out.both.model.at (by rintro rfl; exact absurd hj (Nat.not_lt_zero _))
                subst ha
                obtain ⟨⟨c0, c1', c2', c3', c4, c5, c6, c7, c8, c9, c10⟩, hrv⟩ := hc j hj
                have hmx : (el ys j).e ∈ L := by rw [← HPD.out.both.same]; exact List.mem_map.2 ⟨_, el_mem hj, rfl⟩
                obtain ⟨x, hx⟩ : ∃ x, el ys j = x := ⟨_, rfl⟩
                rw [hx] at c0 c1' c2' c3' c4 c5 c6 c7 c8 c9 c10 hrv hmx hkey
                obtain ⟨e, vd, vs, vm⟩ := x
                dsimp only at c0 c1' c2' c3' c4 c5 c6 c7 c8 c9 c10 hmx
                change Rv wb e vd vs vm at hrv
                change key e = id.data.toList at hkey
                have hfh := foundE_has HIS.out
                rw [HFE.out] at hfh
                obtain rfl : e = fe := key_one HPD.out.both.book.asc hmx hfh.1 (by rw [hkey, hfh.2])
                obtain ⟨a6, c6', rfl⟩ := hrv.d.shape
                obtain ⟨a9, c9', rfl⟩ := hrv.s.shape
                obtain ⟨a10, c10', rfl⟩ := hrv.m.shape
                have hse := rsameEvent_any e e _ _ _ _ _ _ wb.drew (HRD.out.below (Tp.below_drew (Below.refl _ wb))) (hrv.below (Tp.below_drew (Below.refl _ wb))) HFZ.out HFZ.out
                rw [eqE_self] at hse
                have HSE := Lib.hid hse
                have kd := cell1 HPD.out.box
                obtain ⟨j0, j1, j2, j3, j4, j5, j6, j7, j8, j9, j10⟩ := cells11 hxd
                have hjn : (j : Int) < (ys.length : Int) := by omega
                clear hc hx hrv hmx hkey hfh hse hxd
                go_upto_region 29 with fail
                go_cut [120] from 113 to 120 (fun s wd => s = .bool false ∧ Below wb.heap.size wb wd)
                case first =>
                  go_region_with (first
                    | ((with_reducible refine HSE.out.mono ?_)
                       rintro e9 w9 ⟨rfl, hb9⟩))
                  all_goals go_wp2_with fail
                  all_goals go_meet
                  all_goals exact ⟨rfl, (Tp.below_drew (Below.refl _ wb)).trans hb9⟩
                case rest =>
                  obtain ⟨rfl, hbz⟩ := hcut
                  obtain ⟨wz, hwz⟩ : ∃ x, x = wc := ⟨_, rfl⟩
                  subst hwz
                  have HPZ := Lib.hid (HPD.out.below hbz)
                  have HCZ := Lib.hid (HCD.out.below hbz)
                  have HBZ := Lib.hid (HBD.out.trans (hbz.mono HBD.out.size))
                  clear hbz j0 j1 j2 j3 j4 j5 j6 j7 j8 j9 j10 c0 c1' c2' c3' c4 c5 c6 c7 c8 c9 c10 kd
                  go_upto_region 31 with fail
                  have hon : onV ys d = onB L (covD · d) := by unfold onV; rw [HPZ.out.both.same]
                  have hgd : ∀ x ∈ ys, badE x.e = 0 := fun x hx => HPZ.out.both.book.good x.e (by rw [← HPZ.out.both.same]; exact List.mem_map.2 ⟨x, hx, rfl⟩)
                  have hzz : ∀ x ∈ ys, Size x.e := fun x hx => HPZ.out.both.book.fit x.e (by rw [← HPZ.out.both.same]; exact List.mem_map.2 ⟨x, hx, rfl⟩)
                  have hbon := fun W' (h : Below wz.heap.size wz W') => on_any W' _ _ _ L er d (seven (HE.out.below (HBZ.out.trans (h.mono HBZ.out.size)))) (HPZ.out.both.book.below h)
                  have hron := fun W' (h : Below wz.heap.size wz W') => ron_any ys (.slice (some ⟨b, o, none⟩) ys.length vc) d W' (HPZ.out.both.model.below h) HPZ.out.lens hgd hzz
                  simp only [hon] at hron
                  have hsm : ∀ W', Below wz.heap.size wz W' → Calls Tryz.prog 29 #[.pointer (some ⟨wa.heap.size + 1, 0, none⟩), .pointer (some ⟨wr.heap.size + 1, 0, none⟩)] W' (fun r w' => r = .returned (.bool true) ∧ Below W'.heap.size W' w') := fun W' h => (same_any W' _ _ _ _ _ _ L L er (HT.out.below (HBZ.out.trans (h.mono HBZ.out.size))) (HPZ.out.both.book.below h) (HCZ.out.below h) HPZ.out.both.book.textLe HPZ.out.both.book.textLe).mono fun _ _ hh => ⟨by rw [hh.1, decide_eq_true rfl, decide_eq_true rfl]; rfl, hh.2⟩
                  have hS := fun W' (h : Below wz.heap.size wz W') => cell1 (row_below HPZ.out.box h)
                  have honl : (onB L (covD · d)).length ≤ 1000000 := by
                    have := HPZ.out.both.book.few
                    unfold onB; rw [List.length_map]
                    exact Nat.le_trans (List.length_filter_le _ _) (by omega)
                  have HBON := Lib.hid hbon
                  have HRON := Lib.hid hron
                  have HSM := Lib.hid hsm
                  have HS := Lib.hid hS
                  have k9 := cell1 HPZ.out.box
                  obtain ⟨ON, hON⟩ : ∃ ON, onB L (covD · d) = ON := ⟨_, rfl⟩
                  rw [hON] at HBON HRON honl
                  clear hon hgd hzz hbon hron hsm hS hON
                  have hacc : Below wz.heap.size wz wz.drew := Tp.below_drew (Below.refl _ wz)
                  go_region_with (first
                    | ((with_reducible refine (HBON.out _ hacc).mono ?_)
                       rintro f1 x1 ⟨u1, rfl, hr1, hb1⟩
                       obtain ⟨q1, o1, rfl⟩ := hr1.shape
                       replace hacc := hacc.trans (hb1.mono hacc.size)
                       have k1 := HS.out _ hacc
                       clear hb1)
                    | ((with_reducible refine (HRON.out _ hacc).mono ?_)
                       rintro f2 x2 ⟨u2, rfl, hr2, hb2⟩
                       obtain ⟨q2, o2, rfl⟩ := hr2.shape
                       have hst := Tx.sameTexts_any x2 _ _ _ _ (hr1.below hb2) hr2 honl honl
                       rw [decide_eq_true rfl] at hst
                       have HST := Lib.hid hst
                       replace hacc := hacc.trans (hb2.mono hacc.size)
                       have k2 := HS.out _ hacc
                       clear hr1 hr2 hb2 hst)
                    | ((with_reducible refine HST.out.mono ?_)
                       rintro f3 x3 ⟨rfl, q3, rfl⟩
                       replace hacc := below_draw hacc q3
                       have k3 := HS.out _ hacc)
                    | ((with_reducible refine (HSM.out _ hacc).mono ?_)
                       rintro f4 x4 ⟨rfl, hb4⟩
                       replace hacc := hacc.trans (hb4.mono hacc.size)
                       clear hb4))
                  all_goals (
                    have HACC := Lib.hid (HBZ.out.trans (hacc.mono HBZ.out.size))
                    clear hacc
                    go_wp2
                    go_ret
                    exact ⟨rfl, HACC.out⟩)
end Bk
end Go.Proofs.YtenmeaoagepfnaaGreatDoor
