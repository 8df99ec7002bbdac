/- The walk of the law BookOn. -/
import Derived.Test.YtkhkhbeolhhomaaGreatDoorBooked
import Derived.Test.YtkhkhbeolhhomaaGreatDoorJ1
namespace Go.Proofs.YtkhkhbeolhhomaaGreatDoor
open Go Go.RowKit Go.Shelf Lmd
attribute [local go_sem] Oper.semAt_some
namespace Bk
open Evt Tp Rul Day Cand Er

theorem key_id {x : Ev} {s : ByteArray} : x.id = s ↔ key x = s.data.toList := by
  unfold key
  rw [← ba_eq, ByteArray.toList_eq, ByteArray.toList_eq]
theorem memT_ids (s : ByteArray) (L : List Ev) : memT s (idsB L) = hasK s.data.toList L := by
  rw [Bool.eq_iff_iff, memT_iff, hasK_iff, idsB, List.mem_map]
  exact exists_congr fun x => and_congr Iff.rfl key_id
theorem memT_on {L : List Ev} (ha : Asc L) {e : Ev} (he : e ∈ L) (c : Ev → Bool) : memT e.id (onB L c) = c e := by
  rw [Bool.eq_iff_iff, memT_iff, onB, List.mem_map]
  constructor
  · rintro ⟨x, hx, hi⟩
    obtain ⟨h1, h2⟩ := List.mem_filter.1 hx
    obtain rfl : x = e := key_one ha h1 he (key_id.1 hi)
    exact h2
  · intro h; exact ⟨e, List.mem_filter.2 ⟨he, h⟩, rfl⟩
theorem memT_gone (s : ByteArray) (L : List Ev) (c : Ev → Bool) : memT s (onB (without s.data.toList L) c) = false := by
  refine memT_no fun h => ?_
  obtain ⟨x, hx, hi⟩ := List.mem_map.1 h
  exact (mem_without.1 (List.mem_filter.1 hx).1).2 (key_id.1 hi)
/-- an event of a book, behind a name -/
def elE (L : List Ev) (k : Nat) : Ev := L[k]?.getD zV.e
theorem elE_lt {L : List Ev} {k : Nat} (h : k < L.length) : elE L k = L[k] := by simp [elE, h]
theorem elE_mem {L : List Ev} {k : Nat} (h : k < L.length) : elE L k ∈ L := by rw [elE_lt h]; exact List.getElem_mem h
theorem elE_take {L : List Ev} {k : Nat} (h : k < L.length) : L.take (k + 1) = L.take k ++ [elE L k] := by
  rw [List.take_succ_eq_append_getElem h, elE_lt h]
theorem idsB_at {L : List Ev} {k : Nat} (h : k < L.length) : (idsB L)[k]? = some (elE L k).id := by
  rw [idsB, List.getElem?_map, List.getElem?_eq_getElem h, elE_lt h]; rfl
theorem rd_ids {w : World} {base : Nat} {v : Value} {L : List Ev} (h : w.ownsRow base 9 1 v L.length (cellsS (idsB L))) : Tx.Rd w v (idsB L) := Tx.rd_own h (by simp [idsB])
set_option maxRecDepth 100000 in
set_option maxHeartbeats 8000000 in
theorem bookOn_any (xs : List EvV) (v : Value) (d : Int) (id : ByteArray) (er : Nat → Addr) (w : World) (he : E7 w er) (he1 : E1 w er) (hr : EReads w v xs) (hf : ∀ x ∈ xs, Fin64 x.e) (hid : id.size ≤ 9223372036854775807) :
    Calls Tryz.prog 3 #[v, .int .i64 d, .string id] w fun r w' => r = .returned (.bool true) ∧ Below w.heap.size w w' := by
  have HE := Lib.hid he
  have HE1 := Lib.hid he1
  have HR := Lib.hid hr
  have HF := Lib.hid hf
  have HBK := Lib.hid (booked_any er w he)
  clear he he1 hr hf
  go_enter Tryz.func3, Tryz.ntmps3
  go_wp2_with fail
  (with_reducible refine HBK.out.mono ?_)
  rintro e1 w1 ⟨rfl, hb1⟩
  have HB1 := Lib.hid hb1
  have HL := Lib.hid (longEvents_any xs v w1 (HR.out.below hb1) HF.out)
  clear hb1
  go_upto_region 2 with fail
  go_cut [31] from 20 (fun s wc => ∃ q : Bool, s = .bool q ∧ Below w.heap.size w wc ∧ (q = false → xs.length ≤ 70 ∧ ∀ x ∈ xs, ¬ LongP x.e))
  case first =>
    go_wp2_with fail
    (with_reducible refine HL.out.mono ?_)
    rintro e2 w2 ⟨c, rfl, hc0, hcl, hb2⟩
    have HB2 := Lib.hid (HB1.out.trans (hb2.mono HB1.out.size))
    have HCL := Lib.hid hcl
    clear hb2 hcl
    by_cases hc : 0 < c
    · go_wp2_with fail
      go_meet
      exact ⟨true, rfl, HB2.out, fun h => by cases h⟩
    · have HC := Lib.hid hc
      by_cases hq : (30 : Int) < (id.size : Int)
      · go_wp2_with fail
        go_meet
        exact ⟨true, rfl, HB2.out, fun h => by cases h⟩
      · go_wp2_with fail
        go_meet
        exact ⟨_, rfl, HB2.out, fun _ => HCL.out (by have := HC.out; omega)⟩
  case rest =>
    obtain ⟨q, rfl, hbc, hq⟩ := hcut
    have HBC := Lib.hid hbc
    cases q with
    | true =>
      clear hq hbc
      go_wp2
      go_ret
      exact ⟨rfl, HBC.out⟩
    | false =>
      obtain ⟨hxl, hnl⟩ := hq rfl
      have hof := bookOf_any xs v er wc (HE.out.below hbc) (HR.out.below hbc) (fun x hx => size_of (hnl x hx)) (by omega)
      unfold OfP at hof
      have HOF := Lib.hid hof
      clear hq hbc hof hnl
      go_wp2_with fail
      (with_reducible refine HOF.out.mono ?_)
      rintro e3 w3 ⟨v3, ys, rfl, hbo⟩
      obtain ⟨a3, c3, rfl⟩ := hbo.model.shape
      obtain ⟨L, hL⟩ : ∃ L, bookL (xs.map (·.e)) = L := ⟨_, rfl⟩
      rw [hL] at hbo
      have HBO := Lib.hid hbo
      clear hbo hL
      go_upto_region 5 with fail
      generalize hW4 : w3.alloc _ = W4
      have hb4 : Below w3.heap.size w3 W4 := by rw [← hW4]; exact (Below.refl _ w3).alloc (Nat.le_refl _) _
      have HB4 := Lib.hid (HBC.out.trans ((HBO.out.low.mono HBC.out.size).trans (hb4.mono (Nat.le_trans HBC.out.size HBO.out.low.size))))
      have HK4 := Lib.hid (HBO.out.book.below hb4)
      have HON := Lib.hid (on_any W4 _ _ _ L er d (HE.out.below HB4.out) HK4.out)
      clear hW4 hb4
      go_wp2_with fail
      (with_reducible refine HON.out.mono ?_)
      rintro e5 w5 ⟨von, rfl, hron, hb5⟩
      have HB5 := Lib.hid (HB4.out.trans (hb5.mono HB4.out.size))
      have HK5 := Lib.hid (HK4.out.below hb5)
      have HRON := Lib.hid hron
      have HID := Lib.hid (ids_any w5 _ _ _ L (HK4.out.below hb5))
      clear hb5 hron
      go_wp2_with fail
      (with_reducible refine HID.out.mono ?_)
      rintro e6 w6 ⟨vid, rfl, hown6, hb6⟩
      have hrid := rd_ids hown6
      obtain ⟨aid, cid, rfl⟩ := Evt.own_at hown6
      have hron6 := HRON.out.below hb6
      obtain ⟨no, hno⟩ : ∃ no, (onB L (covD · d)).length = no := ⟨_, rfl⟩
      obtain ⟨aon, con, rfl⟩ := hron6.shape
      rw [hno] at hron6 ⊢
      obtain ⟨n, hn⟩ : ∃ n, L.length = n := ⟨_, rfl⟩
      rw [hn] at hrid ⊢
      have hidl : (idsB L).length = n := by rw [← hn]; simp [idsB]
      have hfew := HK5.out.few
      rw [hn] at hfew
      have hnoL : no ≤ n := by rw [← hno, ← hn]; unfold onB; rw [List.length_map]; exact List.length_filter_le _ _
      have HN := Lib.hid hn
      have HNO := Lib.hid hno
      have HIDL := Lib.hid hidl
      have HRON6 := Lib.hid hron6
      have HRID := Lib.hid hrid
      have HB6 := Lib.hid (HB5.out.trans (hb6.mono HB5.out.size))
      have HK6 := Lib.hid (HK5.out.below hb6)
      clear hn hno hidl hron6 hrid hb6 hown6 HID HON HOF HBO HK4 HB4
      go_wp2_with fail
      go_loopw [12, 13, 14, 15, 16] (fun z i _ _ _ wr => ∃ k : Nat, k ≤ n ∧ i = .int .i64 (k : Int) ∧ z = .int .i64 (((L.take k).filter (covD · d)).length : Int) ∧ Below w6.heap.size w6 wr) (fun _ i _ _ _ _ => n - (intOf i).toNat)
      case atStart => exact ⟨0, Nat.zero_le _, rfl, rfl, Below.refl _ _⟩
      case round =>
        obtain ⟨k, hk, rfl, rfl, hbr⟩ := hrel
        obtain ⟨z, hz⟩ : ∃ z, ((L.take k).filter (covD · d)).length = z := ⟨_, rfl⟩
        rw [hz]
        have hzk : z ≤ k := by rw [← hz]; exact Nat.le_trans (List.length_filter_le _ _) (by rw [List.length_take]; omega)
        have HZ := Lib.hid hz
        have HBR := Lib.hid (HB6.out.trans (hbr.mono HB6.out.size))
        have HBR6 := Lib.hid hbr
        have HKR := Lib.hid (HK6.out.below hbr)
        have HRIDR := Lib.hid (HRID.out.below hbr)
        have HRONR := Lib.hid (HRON6.out.below hbr)
        clear hz hbr
        by_cases hlt : k < n
        · have hlL : k < L.length := by rw [HN.out]; exact hlt
          obtain ⟨b, o, c', e1, hc⟩ := HRIDR.out.at (by intro h; have := HIDL.out; rw [h] at this; simp at this; omega)
          injection e1 with e2 e2n e3
          subst e2 e3
          clear e2n
          have c0 := hc k _ (idsB_at hlL)
          have hmem := elE_mem hlL
          have htk := elE_take hlL
          obtain ⟨e, hx⟩ : ∃ e, elE L k = e := ⟨_, rfl⟩
          rw [hx] at c0 hmem htk
          have hsz := HKR.out.fit e hmem
          have hg := get_any wr _ _ _ L e.id HKR.out hsz.id
          unfold GotE at hg
          rw [show foundE e.id.data.toList L = e from foundE_of HKR.out.asc hmem, show hasK e.id.data.toList L = true from hasK_iff.2 ⟨e, hmem, rfl⟩] at hg
          have HG := Lib.hid hg
          have HTK := Lib.hid htk
          have HMEM := Lib.hid hmem
          have HSZ := Lib.hid hsz
          clear hc hx hg htk hmem hsz
          go_wp2_with fail
          (with_reducible refine HG.out.mono ?_)
          rintro e7 w7 ⟨v1, v2, v3, rfl, hr7, -, -, -, hb7⟩
          obtain ⟨a1, c1, rfl⟩ := hr7.d.shape
          obtain ⟨a2, c2, rfl⟩ := hr7.s.shape
          obtain ⟨a3', c3', rfl⟩ := hr7.m.shape
          go_upto_region 14 with fail
          generalize hW8 : w7.alloc _ = W8
          have hb8 : Below w7.heap.size w7 W8 := by rw [← hW8]; exact (Below.refl _ w7).alloc (Nat.le_refl _) _
          have hx8 : W8.heap[w7.heap.size]? = some (.cells (e.cells (.slice a1 e.ru.ds.length c1) (.slice a2 e.sk.length c2) (.slice a3' e.mv.length c3')) 38) := by rw [← hW8]; exact heap_new w7 _
          have hb8r := hb7.trans (hb8.mono hb7.size)
          have HC := Lib.hid (covers_e e _ _ _ d er W8 (HE.out.below (HBR.out.trans (hb8r.mono HBR.out.size))) (hr7.below hb8) HSZ.out)
          have c8 := cell_later hb8r c0
          obtain ⟨j0, j1, j2, j3, j4, j5, j6, j7, j8, j9, j10⟩ := cells11 hx8
          have HB8R := Lib.hid hb8r
          clear hW8 hb7 hb8 hx8 hr7 hb8r c0
          go_wp2_with fail
          (with_reducible refine HC.out.mono ?_)
          rintro e9 w9 ⟨rfl, hb9⟩
          have c9 := cell_later hb9 c8
          have hb9r := HB8R.out.trans (hb9.mono HB8R.out.size)
          have hin := isInTexts_any e.id (onB L (covD · d)) (.slice aon no con) w9 (HRONR.out.below hb9r) (by rw [HNO.out]; omega)
          rw [memT_on HKR.out.asc HMEM.out] at hin
          obtain ⟨q, hq⟩ : ∃ q, covD e d = q := ⟨_, rfl⟩
          rw [hq] at hin ⊢
          have HIN := Lib.hid hin
          have HQ := Lib.hid hq
          have HB9R := Lib.hid (HBR6.out.trans (hb9r.mono HBR6.out.size))
          clear hin hq hb9 hb9r c8 j0 j1 j2 j3 j4 j5 j6 j7 j8 j9 j10
          cases q with
          | true =>
            go_wp2_with fail
            (with_reducible refine HIN.out.mono ?_)
            rintro e10 w10 ⟨rfl, rfl⟩
            go_wp2
            go_roundw
            case rel => exact ⟨k + 1, by omega, by go_num, by rw [HTK.out, List.filter_append, List.filter_cons, if_pos HQ.out, List.length_append, HZ.out]; rfl, HB9R.out⟩
            case measure => simp [intOf]; omega
          | false =>
            go_wp2_with fail
            (with_reducible refine HIN.out.mono ?_)
            rintro e10 w10 ⟨rfl, rfl⟩
            go_wp2
            go_roundw
            case rel => exact ⟨k + 1, by omega, by go_num, by rw [HTK.out, List.filter_append, List.filter_cons, if_neg (by rw [HQ.out]; exact fun e => by cases e), List.filter_nil, List.append_nil, HZ.out], HB9R.out⟩
            case measure => simp [intOf]; omega
        · obtain rfl : k = n := by omega
          have hzn : z = no := by rw [← HZ.out, ← HNO.out, ← HN.out, List.take_length]; unfold onB; rw [List.length_map]
          subst hzn
          have hin := isInTexts_any id (idsB L) (.slice aid k cid) wr HRIDR.out (by rw [HIDL.out]; omega)
          rw [memT_ids] at hin
          obtain ⟨had, hhad⟩ : ∃ had, hasK id.data.toList L = had := ⟨_, rfl⟩
          rw [hhad] at hin
          have HIN := Lib.hid hin
          have hdr := drop_any wr _ _ _ L id er (HE1.out.below HBR.out) HKR.out hid
          unfold dropK at hdr
          rw [hhad] at hdr
          have HDR := Lib.hid hdr
          have HHAD := Lib.hid hhad
          clear hin hdr hhad
          go_wp2_with fail
          (with_reducible refine HIN.out.mono ?_)
          rintro e7 w7 ⟨rfl, rfl⟩
          go_wp2_with fail
          (with_reducible refine HDR.out.mono ?_)
          rintro e8 w8 ⟨rfl, hbk8, hfar8⟩
          have hlow8 : Below w.heap.size w w8 := HBR.out.trans (hfar8.below (fun k hk => by have := HBC.out.size; omega) (HBR.out.size))
          have HB8 := Lib.hid hlow8
          have HON8 := Lib.hid (on_any w8 _ _ _ (without id.data.toList L) er d (HE.out.below hlow8) hbk8)
          have HK8 := Lib.hid hbk8
          have hlenw : (without id.data.toList L).length ≤ k := by have := HN.out; have := length_without_le id.data.toList L; omega
          clear hbk8 hfar8 hlow8
          cases had with
          | true =>
            simp only [errV]
            go_wp2_with fail
            (with_reducible refine HON8.out.mono ?_)
            rintro e9 w9 ⟨v9, rfl, hr9, hb9⟩
            have hin9 := isInTexts_any id _ v9 w9 hr9 (by unfold onB; rw [List.length_map]; have := List.length_filter_le (covD · d) (without id.data.toList L); omega)
            rw [memT_gone] at hin9
            have HIN9 := Lib.hid hin9
            have HB9 := Lib.hid (HB8.out.trans (hb9.mono HB8.out.size))
            have HID9 := Lib.hid (ids_any w9 _ _ _ _ (HK8.out.below hb9))
            clear hr9 hin9 hb9
            go_wp2_with fail
            (with_reducible refine HIN9.out.mono ?_)
            rintro e10 w10 ⟨rfl, rfl⟩
            go_wp2_with fail
            (with_reducible refine HID9.out.mono ?_)
            rintro e11 w11 ⟨v11, rfl, ho11, hb11⟩
            obtain ⟨a11, c11, rfl⟩ := Evt.own_at ho11
            have hle : ((without id.data.toList L).length : Int) ≤ (k : Int) := by omega
            have HB11 := Lib.hid (HB9.out.trans (hb11.mono HB9.out.size))
            clear ho11 hb11
            go_wp2
            go_ret
            exact ⟨rfl, HB11.out⟩
          | false =>
            simp only [errV]
            go_wp2_with fail
            (with_reducible refine HON8.out.mono ?_)
            rintro e9 w9 ⟨v9, rfl, hr9, hb9⟩
            have hin9 := isInTexts_any id _ v9 w9 hr9 (by unfold onB; rw [List.length_map]; have := List.length_filter_le (covD · d) (without id.data.toList L); omega)
            rw [memT_gone] at hin9
            have HIN9 := Lib.hid hin9
            have HB9 := Lib.hid (HB8.out.trans (hb9.mono HB8.out.size))
            have HID9 := Lib.hid (ids_any w9 _ _ _ _ (HK8.out.below hb9))
            clear hr9 hin9 hb9
            go_wp2_with fail
            (with_reducible refine HIN9.out.mono ?_)
            rintro e10 w10 ⟨rfl, rfl⟩
            go_wp2_with fail
            (with_reducible refine HID9.out.mono ?_)
            rintro e11 w11 ⟨v11, rfl, ho11, hb11⟩
            obtain ⟨a11, c11, rfl⟩ := Evt.own_at ho11
            have hle : ((without id.data.toList L).length : Int) ≤ (k : Int) := by omega
            have HB11 := Lib.hid (HB9.out.trans (hb11.mono HB9.out.size))
            clear ho11 hb11
            go_wp2
            go_ret
            exact ⟨rfl, HB11.out⟩
end Bk
end Go.Proofs.YtkhkhbeolhhomaaGreatDoor
