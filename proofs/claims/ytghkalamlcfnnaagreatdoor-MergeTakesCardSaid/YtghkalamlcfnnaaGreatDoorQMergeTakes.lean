/- The walk of the law MergeTakes. -/
import Derived.Test.YtghkalamlcfnnaaGreatDoorQMerged
import Derived.Test.YtghkalamlcfnnaaGreatDoorQSameE
namespace Go.Proofs.YtghkalamlcfnnaaGreatDoor
open Go Go.RowKit Go.Shelf Lmd
attribute [local go_sem] Oper.semAt_some
namespace Mg
open Evt Bk Df Tp Rul Day Cand Er
theorem at_both {k : List UInt8} {a b : List Ev} (h1 : hasK k a = hasK k b) (h2 : foundE k a = foundE k b) : evAt k a = evAt k b := by
  cases h : hasK k a with
  | false => rw [at_none.2 h, at_none.2 (h1 ▸ h)]
  | true => rw [at_found h, at_found (h1 ▸ h), h2]
theorem at_parts {k : List UInt8} {a b : List Ev} (h : evAt k a = evAt k b) : hasK k a = hasK k b ∧ foundE k a = foundE k b := by
  cases h1 : hasK k a with
  | false =>
    have h2 : hasK k b = false := at_none.1 (h ▸ at_none.2 h1)
    exact ⟨h2.symm, by rw [foundE_none h1, foundE_none h2]⟩
  | true =>
    cases h2 : hasK k b with
    | false => rw [at_none.2 h2, at_found h1] at h; cases h
    | true => rw [at_found h1, at_found h2] at h; exact ⟨rfl, Option.some.inj h⟩
theorem ids_has {id : ByteArray} {L : List Ev} (h : id ∈ idsB L) : hasK id.data.toList L = true := by
  obtain ⟨e, he, rfl⟩ := List.mem_map.1 h
  exact hasK_iff.2 ⟨e, he, rfl⟩
set_option maxRecDepth 100000 in
set_option maxHeartbeats 16000000 in
theorem mergeTakes_any (xs1 xs2 xs3 : List EvV) (v1 v2 v3 : Value) (er : Nat → Addr) (n0 : Int) (w : World) (hv : Env w er n0) (hr1 : EReads w v1 xs1) (hr2 : EReads w v2 xs2) (hr3 : EReads w v3 xs3) (hf1 : ∀ x ∈ xs1, Fin64 x.e) (hf2 : ∀ x ∈ xs2, Fin64 x.e) (hf3 : ∀ x ∈ xs3, Fin64 x.e) :
    Calls Tryz.prog 3 #[v1, v2, v3] w fun r w' => r = .returned (.bool true) ∧ Below w.heap.size w w' := by
  have HV := Lib.hid hv
  have HR1 := Lib.hid hr1
  have HR2 := Lib.hid hr2
  have HR3 := Lib.hid hr3
  have HF1 := Lib.hid hf1
  have HF2 := Lib.hid hf2
  have HF3 := Lib.hid hf3
  have HDF := Lib.hid (merged_any er n0 w hv)
  clear hv hr1 hr2 hr3 hf1 hf2 hf3
  go_enter Tryz.func3, Tryz.ntmps3
  go_wp2_with fail
  (with_reducible refine HDF.out.mono ?_)
  rintro e1 w1 ⟨rfl, hb1⟩
  have HB1 := Lib.hid hb1
  have HL1 := Lib.hid (longE_any xs1 v1 w1 (HR1.out.below hb1) HF1.out)
  clear hb1
  go_upto_region 2 with fail
  go_cut [41] from 29 (fun s wc => ∃ q : Bool, s = .bool q ∧ Below w.heap.size w wc ∧ (q = false → (xs1.length ≤ 70 ∧ ∀ x ∈ xs1, ¬ LongP x.e) ∧ (xs2.length ≤ 70 ∧ ∀ x ∈ xs2, ¬ LongP x.e) ∧ (xs3.length ≤ 70 ∧ ∀ x ∈ xs3, ¬ LongP x.e)))
  case first =>
    go_wp2_with fail
    (with_reducible refine HL1.out.mono ?_)
    rintro e2 w2 ⟨c1, rfl, hc0, hc1, hcl1, hb2⟩
    have HB2 := Lib.hid (HB1.out.trans (hb2.mono HB1.out.size))
    have HC1 := Lib.hid hcl1
    have HL2 := Lib.hid (longE_any xs2 v2 w2 (HR2.out.below HB2.out) HF2.out)
    clear hb2 hcl1
    go_wp2_with fail
    (with_reducible refine HL2.out.mono ?_)
    rintro e3 w3 ⟨c2, rfl, hd0, hd1, hcl2, hb3⟩
    have HB3 := Lib.hid (HB2.out.trans (hb3.mono HB2.out.size))
    have HC2 := Lib.hid hcl2
    have HL3 := Lib.hid (longE_any xs3 v3 w3 (HR3.out.below HB3.out) HF3.out)
    clear hb3 hcl2
    have hw1 : IntKind.i64.wrap (c1 + c2) = c1 + c2 := by
      rw [show c1 + c2 = (((c1 + c2).toNat : Nat) : Int) by omega]; exact IntWalk.i64_in _ (by omega)
    go_wp2_with fail
    (with_reducible refine HL3.out.mono ?_)
    rintro e4 w4 ⟨c3, rfl, hg0, hg1, hcl3, hb4⟩
    have HB4 := Lib.hid (HB3.out.trans (hb4.mono HB3.out.size))
    have HC3 := Lib.hid hcl3
    have hw2 : IntKind.i64.wrap (c1 + c2 + c3) = c1 + c2 + c3 := by
      rw [show c1 + c2 + c3 = (((c1 + c2 + c3).toNat : Nat) : Int) by omega]; exact IntWalk.i64_in _ (by omega)
    clear hb4 hcl3
    by_cases hc : 0 < c1 + c2 + c3
    · go_wp2_with fail
      go_meet
      exact ⟨true, rfl, HB4.out, fun h => by cases h⟩
    · have HC := Lib.hid hc
      go_wp2_with fail
      go_meet
      exact ⟨_, rfl, HB4.out, fun _ => ⟨HC1.out (by have := HC.out; omega), HC2.out (by have := HC.out; omega), HC3.out (by have := HC.out; omega)⟩⟩
  case rest =>
    obtain ⟨q, rfl, hbc, hq⟩ := hcut
    have HBC := Lib.hid hbc
    cases q with
    | true =>
      clear hq hbc
      go_wp2
      go_ret
      exact ⟨rfl, HBC.out⟩
    | false =>
      obtain ⟨⟨l1, m1⟩, ⟨l2, m2⟩, l3, m3⟩ := hq rfl
      have hof := bookOf_any xs1 v1 er wc (HV.out.below hbc).errs (HR1.out.below hbc) (fun x hx => size_of (m1 x hx)) (by omega)
      have ho2 := fun W (hw : Below w.heap.size w W) => bookOf_any xs2 v2 er W (HV.out.below hw).errs (HR2.out.below hw) (fun x hx => size_of (m2 x hx)) (by omega)
      have ho3 := fun W (hw : Below w.heap.size w W) => bookOf_any xs3 v3 er W (HV.out.below hw).errs (HR3.out.below hw) (fun x hx => size_of (m3 x hx)) (by omega)
      unfold OfP at hof ho2 ho3
      have HOF := Lib.hid hof
      have HO2 := Lib.hid ho2
      have HO3 := Lib.hid ho3
      clear hq hbc hof ho2 ho3 m1 m2 m3 l1 l2 l3
      go_wp2_with fail
      (with_reducible refine HOF.out.mono ?_)
      rintro e3 w3 ⟨u3, ys3, rfl, hbo⟩
      obtain ⟨a3, c3, rfl⟩ := hbo.model.shape
      obtain ⟨L1, hL1⟩ : ∃ L, bookL (xs1.map (·.e)) = L := ⟨_, rfl⟩
      rw [hL1] at hbo
      obtain ⟨p1, hp1⟩ : ∃ p, wc.heap.size + 1 = p := ⟨_, rfl⟩
      rw [hp1] at hbo
      rw [show wc.heap.size + 2 = p1 + 1 by omega]
      have HBO := Lib.hid hbo
      clear hbo hL1 hp1
      go_upto_region 5 with fail
      generalize hW4 : w3.alloc _ = W4
      have hb4 : Below w3.heap.size w3 W4 := by rw [← hW4]; exact (Below.refl _ w3).alloc (Nat.le_refl _) _
      have HB4 := Lib.hid (HBC.out.trans ((HBO.out.low.mono HBC.out.size).trans (hb4.mono (Nat.le_trans HBC.out.size HBO.out.low.size))))
      have HX := Lib.hid (HBO.out.book.below hb4)
      clear hW4 hb4 HBO HOF
      go_wp2_with fail
      (with_reducible refine (HO2.out _ HB4.out).mono ?_)
      rintro e5 w5 ⟨u5, ys5, rfl, hbo⟩
      obtain ⟨a5, c5, rfl⟩ := hbo.model.shape
      obtain ⟨L2, hL2⟩ : ∃ L, bookL (xs2.map (·.e)) = L := ⟨_, rfl⟩
      rw [hL2] at hbo
      obtain ⟨p2, hp2⟩ : ∃ p, W4.heap.size + 1 = p := ⟨_, rfl⟩
      rw [hp2] at hbo
      rw [show W4.heap.size + 2 = p2 + 1 by omega]
      have HBO := Lib.hid hbo
      clear hbo hL2 hp2
      go_upto_region 6 with fail
      generalize hW6 : w5.alloc _ = W6
      have hb6 : Below w5.heap.size w5 W6 := by rw [← hW6]; exact (Below.refl _ w5).alloc (Nat.le_refl _) _
      have hb46 := HBO.out.low.trans (hb6.mono HBO.out.low.size)
      have HB6 := Lib.hid (HB4.out.trans (hb46.mono HB4.out.size))
      have HX6 := Lib.hid (HX.out.below hb46)
      have HY := Lib.hid (HBO.out.book.below hb6)
      clear hW6 hb6 hb46 HBO HO2 HX
      go_wp2_with fail
      (with_reducible refine (HO3.out _ HB6.out).mono ?_)
      rintro e7 w7 ⟨u7, ys7, rfl, hbo⟩
      obtain ⟨a7, c7, rfl⟩ := hbo.model.shape
      obtain ⟨L3, hL3⟩ : ∃ L, bookL (xs3.map (·.e)) = L := ⟨_, rfl⟩
      rw [hL3] at hbo
      obtain ⟨p3, hp3⟩ : ∃ p, W6.heap.size + 1 = p := ⟨_, rfl⟩
      rw [hp3] at hbo
      rw [show W6.heap.size + 2 = p3 + 1 by omega]
      have HBO := Lib.hid hbo
      clear hbo hL3 hp3
      go_upto_region 7 with fail
      generalize hW8 : w7.alloc _ = W8
      have hb8 : Below w7.heap.size w7 W8 := by rw [← hW8]; exact (Below.refl _ w7).alloc (Nat.le_refl _) _
      have hb68 := HBO.out.low.trans (hb8.mono HBO.out.low.size)
      have HB8 := Lib.hid (HB6.out.trans (hb68.mono HB6.out.size))
      have HX8 := Lib.hid (HX6.out.below hb68)
      have HY8 := Lib.hid (HY.out.below hb68)
      have HZ8 := Lib.hid (HBO.out.book.below hb8)
      have HTH := Lib.hid (three_any W8 _ _ _ _ _ _ L1 L2 L3 er n0 (HV.out.below HB8.out) HX8.out.or HY8.out.or HZ8.out.or)
      clear hW8 hb8 hb68 HBO HO3 HX6 HY
      have hth := HTH.out
      unfold ThP at hth
      by_cases hbad : (mergeM L1 L2 L3).2 = []
      · simp only [if_pos hbad] at hth
        have HBAD := Lib.hid hbad
        have HTH' := Lib.hid hth
        clear hth HTH hbad
        go_wp2_with fail
        (with_reducible refine HTH'.out.mono ?_)
        rintro e9 w9 ⟨hb9, Bm, hBm, rfl, hbk9⟩
        obtain ⟨M, hM⟩ : ∃ M, (mergeM L1 L2 L3).1 = M := ⟨_, rfl⟩
        rw [hM] at hbk9
        have HM := Lib.hid hM
        have HB9 := Lib.hid (HB8.out.trans (hb9.mono HB8.out.size))
        have HX9 := Lib.hid (HX8.out.below hb9)
        have HY9 := Lib.hid (HY8.out.below hb9)
        have HZ9 := Lib.hid (HZ8.out.below hb9)
        have HM9 := Lib.hid hbk9
        clear hb9 hBm hbk9 hM HTH' HX8 HY8 HZ8
        have hI1 := ids_any w9 _ _ _ _ HX9.out
        have HI1 := Lib.hid hI1
        have HI2 := Lib.hid (fun W (hw : Below w9.heap.size w9 W) => ids_any W _ _ _ _ (HY9.out.below hw))
        have HI3 := Lib.hid (fun W (hw : Below w9.heap.size w9 W) => ids_any W _ _ _ _ (HZ9.out.below hw))
        clear hI1
        obtain ⟨i0, hi0, hz0, hz1, hz2⟩ := info_parts string_info
        have f1 := HX9.out.few
        have f2 := HY9.out.few
        have f3 := HZ9.out.few
        go_wp2_with fail
        (with_reducible refine HI1.out.mono ?_)
        rintro e10 w10 ⟨u10, rfl, ho10, hb10⟩
        have HB10 := Lib.hid hb10
        have HO10 := Lib.hid ho10
        clear ho10 hb10
        go_wp2_with (at_builtin
                     refine Tx.wpList_append_tx rfl (.tmp 72) (.tmp 74) rfl w9.heap.size i0 hi0 hz0 hz1 hz2 (.slice none 0 0) [] rfl ⟨by simp [cellsS], .inl ⟨rfl, rfl⟩⟩ u10 (idsB L1) w9.heap.size rfl (by have h := HO10.out; rw [← ids_len L1] at h; exact h) (by rw [ids_len]; simp; omega) HB10.out.size ?_
                     intro v11 w11 hown11 hg11
                     rw [List.nil_append] at hown11
                     have HO11 := Lib.hid hown11
                     have HB11 := Lib.hid (HB10.out.trans ((Below.refl w9.heap.size w10).grown hg11 HB10.out.size (fun j ej => by simp [Value.ownBlock] at ej)))
                     clear hown11 hg11)
        (with_reducible refine (HI2.out _ HB11.out).mono ?_)
        rintro e12 w12 ⟨u12, rfl, ho12, hb12⟩
        have HB12 := Lib.hid (HB11.out.trans (hb12.mono HB11.out.size))
        have HO12 := Lib.hid ho12
        have HO11' := Lib.hid (own_later HO11.out hb12)
        have HS12 := Lib.hid hb12.size
        clear ho12 hb12 HO11
        go_wp2_with (at_builtin
                     refine Tx.wpList_append_tx rfl (.tmp 76) (.tmp 78) rfl w9.heap.size i0 hi0 hz0 hz1 hz2 v11 (idsB L1) rfl HO11'.out u12 (idsB L2) w11.heap.size rfl (by have h := HO12.out; rw [← ids_len L2] at h; exact h) (by rw [ids_len, ids_len]; omega) HB12.out.size ?_
                     intro v13 w13 hown13 hg13
                     have HO13 := Lib.hid hown13
                     have HB13 := Lib.hid (HB12.out.trans ((Below.refl w9.heap.size w12).grown hg13 HB12.out.size (fun j ej => Evt.own_ge HO11'.out ej)))
                     clear hown13 hg13)
        (with_reducible refine (HI3.out _ HB13.out).mono ?_)
        rintro e14 w14 ⟨u14, rfl, ho14, hb14⟩
        have HB14 := Lib.hid (HB13.out.trans (hb14.mono HB13.out.size))
        have HO14 := Lib.hid ho14
        have HO13' := Lib.hid (own_later HO13.out hb14)
        clear ho14 hb14 HO13
        go_wp2_with (at_builtin
                     refine Tx.wpList_append_tx rfl (.tmp 80) (.tmp 82) rfl w9.heap.size i0 hi0 hz0 hz1 hz2 v13 (idsB L1 ++ idsB L2) rfl HO13'.out u14 (idsB L3) w13.heap.size rfl (by have h := HO14.out; rw [← ids_len L3] at h; exact h) (by rw [List.length_append, ids_len, ids_len, ids_len]; omega) HB14.out.size ?_
                     intro v15 w15 hown15 hg15
                     have HO15 := Lib.hid hown15
                     have HB15 := Lib.hid (HB14.out.trans ((Below.refl w9.heap.size w14).grown hg15 HB14.out.size (fun j ej => Evt.own_ge HO13'.out ej)))
                     clear hown15 hg15)
        have hrd15 := Tx.rd_own HO15.out rfl
        have hB15 := HB9.out.trans (HB15.out.mono HB9.out.size)
        have hmem : ∀ id ∈ idsB L1 ++ idsB L2 ++ idsB L3, (hasK id.data.toList L1 = true ∨ hasK id.data.toList L2 = true ∨ hasK id.data.toList L3 = true) ∧ id.size ≤ 9223372036854775807 := fun id hid => by
          have fit : ∀ {L : List Ev}, (∀ e ∈ L, Size e) → id ∈ idsB L → id.size ≤ 9223372036854775807 := fun hf h => by
            obtain ⟨e, he, rfl⟩ := List.mem_map.1 h
            exact (hf e he).id
          rcases List.mem_append.1 hid with h | h
          · rcases List.mem_append.1 h with h | h
            · exact ⟨.inl (ids_has h), fit HX9.out.fit h⟩
            · exact ⟨.inr (.inl (ids_has h)), fit HY9.out.fit h⟩
          · exact ⟨.inr (.inr (ids_has h)), fit HZ9.out.fit h⟩
        have hlen : (idsB L1 ++ idsB L2 ++ idsB L3).length ≤ 180 := by rw [List.length_append, List.length_append, ids_len, ids_len, ids_len]; omega
        obtain ⟨ids, hids⟩ : ∃ l, idsB L1 ++ idsB L2 ++ idsB L3 = l := ⟨_, rfl⟩
        rw [hids] at hrd15 hmem hlen
        have HX15 := Lib.hid (HX9.out.below HB15.out)
        have HY15 := Lib.hid (HY9.out.below HB15.out)
        have HZ15 := Lib.hid (HZ9.out.below HB15.out)
        have HM15 := Lib.hid (HM9.out.below HB15.out)
        have htk := fun k (hk : hasK k L1 = true ∨ hasK k L2 = true ∨ hasK k L3 = true) => And.intro (takes_b (k := k) (x := L1) (book_fine HY9.out) (book_fine HZ9.out) HBAD.out hk) (takes_a (k := k) (x := L1) (book_fine HY9.out) (book_fine HZ9.out) HBAD.out hk)
        rw [HM.out] at htk
        have HTK := Lib.hid htk
        have HMEM := Lib.hid hmem
        have HBB := Lib.hid hB15
        obtain ⟨n, hn⟩ : ∃ n, ids.length = n := ⟨_, rfl⟩
        have HN := Lib.hid hn
        have HRD := Lib.hid hrd15
        obtain ⟨a15, c15, rfl⟩ := hrd15.shape
        rw [hn] at hlen ⊢
        clear hrd15 hB15 hmem hids hn htk HO15 HB15 HX9 HY9 HZ9 HM9 HM HBAD HI1 HI2 HI3 hi0 hz0 hz1 hz2 f1 f2 f3 HO14 HO13' HO12 HO11' HO10 HB10 HB11 HB12 HB13 HB14 HS12
        go_wp2_with fail
        go_loopw [17] (fun i wr => ∃ k : Nat, k ≤ n ∧ i = .int .i64 (k : Int) ∧ Below w15.heap.size w15 wr) (fun i _ => n - (intOf i).toNat)
        case atStart => exact ⟨0, Nat.zero_le _, rfl, Below.refl _ _⟩
        case round =>
          obtain ⟨k, hk, rfl, hbr⟩ := hrel
          by_cases hlt : k < n
          · have hkl : k < ids.length := by rw [HN.out]; exact hlt
            obtain ⟨b, o, c, ea, hcc⟩ := HRD.out.at (by intro h; rw [h] at hkl; exact absurd hkl (Nat.not_lt_zero _))
            obtain ⟨rfl, rfl⟩ : a15 = some ⟨b, o, none⟩ ∧ c15 = c := by cases ea; exact ⟨rfl, rfl⟩
            obtain ⟨id, hid⟩ : ∃ id, ids[k]? = some id := ⟨_, List.getElem?_eq_getElem hkl⟩
            obtain ⟨hkx, hsz⟩ := HMEM.out id (List.mem_of_getElem? hid)
            have HC := Lib.hid (hcc k id hid)
            have HT2 := Lib.hid (HTK.out id.data.toList hkx)
            have HR0 := Lib.hid hbr
            have k0 := cell_later hbr HC.out
            have hg1 := get_any wr _ _ _ L1 id (HX15.out.below hbr) hsz
            have HG2 := Lib.hid (fun W (hw : Below w15.heap.size w15 W) => get_any W _ _ _ L2 id (HY15.out.below hw) hsz)
            have HG3 := Lib.hid (fun W (hw : Below w15.heap.size w15 W) => get_any W _ _ _ L3 id (HZ15.out.below hw) hsz)
            have HG4 := Lib.hid (fun W (hw : Below w15.heap.size w15 W) => get_any W _ _ _ M id (HM15.out.below hw) hsz)
            have hz1 := foundE_fit HX15.out id.data.toList
            have hz2 := foundE_fit HY15.out id.data.toList
            have hz3 := foundE_fit HZ15.out id.data.toList
            have hz4 := foundE_fit HM15.out id.data.toList
            have HZ := Lib.hid (And.intro hz1 (And.intro hz2 (And.intro hz3 hz4)))
            have HG1 := Lib.hid hg1
            clear hg1 hz1 hz2 hz3 hz4 hcc hid hkx hsz ea hbr hkl
            go_wp2_with fail
            (with_reducible refine HG1.out.mono ?_)
            rintro f1 x1 ⟨d1, s1, m1, rfl, hr, -, -, -, hb⟩
            obtain ⟨da1, dc1, rfl⟩ := hr.d.shape
            obtain ⟨sa1, sc1, rfl⟩ := hr.s.shape
            obtain ⟨ma1, mc1, rfl⟩ := hr.m.shape
            obtain ⟨e1x, he1x⟩ : ∃ e, foundE id.data.toList L1 = e := ⟨_, rfl⟩
            obtain ⟨is1, his1⟩ : ∃ q, hasK id.data.toList L1 = q := ⟨_, rfl⟩
            rw [he1x] at hr ⊢
            rw [his1]
            have HE1 := Lib.hid (And.intro he1x his1)
            have HRa := Lib.hid hr
            have HBa := Lib.hid hb
            clear he1x his1 hr hb k0
            go_upto_region 20 with fail
            generalize hW : x1.alloc _ = y1
            have hw : Below x1.heap.size x1 y1 := by rw [← hW]; exact (Below.refl _ x1).alloc (Nat.le_refl _) _
            have hx : y1.heap[x1.heap.size]? = some (.cells (e1x.cells (.slice da1 e1x.ru.ds.length dc1) (.slice sa1 e1x.sk.length sc1) (.slice ma1 e1x.mv.length mc1)) 40) := by rw [← hW]; exact heap_new x1 _
            have hby := HBa.out.trans (hw.mono HBa.out.size)
            obtain ⟨q1, hq⟩ : ∃ q, x1.heap.size = q := ⟨_, rfl⟩
            rw [hq] at hx ⊢
            have HX1 := Lib.hid hx
            have HRv1 := Lib.hid (HRa.out.below hw)
            have HR1 := Lib.hid (HR0.out.trans (hby.mono HR0.out.size))
            have k0 := cell_later HR1.out HC.out
            clear hW hw hx hby hq HRa HBa
            go_wp2_with fail
            (with_reducible refine (HG2.out _ HR1.out).mono ?_)
            rintro f2 x2 ⟨d2, s2, m2, rfl, hr, -, -, -, hb⟩
            obtain ⟨da2, dc2, rfl⟩ := hr.d.shape
            obtain ⟨sa2, sc2, rfl⟩ := hr.s.shape
            obtain ⟨ma2, mc2, rfl⟩ := hr.m.shape
            obtain ⟨e2x, he2x⟩ : ∃ e, foundE id.data.toList L2 = e := ⟨_, rfl⟩
            obtain ⟨is2, his2⟩ : ∃ q, hasK id.data.toList L2 = q := ⟨_, rfl⟩
            rw [he2x] at hr ⊢
            rw [his2]
            have HE2 := Lib.hid (And.intro he2x his2)
            have HRa := Lib.hid hr
            have HBa := Lib.hid hb
            clear he2x his2 hr hb k0
            go_upto_region 21 with fail
            generalize hW : x2.alloc _ = y2
            have hw : Below x2.heap.size x2 y2 := by rw [← hW]; exact (Below.refl _ x2).alloc (Nat.le_refl _) _
            have hx : y2.heap[x2.heap.size]? = some (.cells (e2x.cells (.slice da2 e2x.ru.ds.length dc2) (.slice sa2 e2x.sk.length sc2) (.slice ma2 e2x.mv.length mc2)) 40) := by rw [← hW]; exact heap_new x2 _
            have hby := HBa.out.trans (hw.mono HBa.out.size)
            obtain ⟨q2, hq⟩ : ∃ q, x2.heap.size = q := ⟨_, rfl⟩
            rw [hq] at hx ⊢
            have HX2 := Lib.hid hx
            have HRv2 := Lib.hid (HRa.out.below hw)
            have HR2 := Lib.hid (HR1.out.trans (hby.mono HR1.out.size))
            have k0 := cell_later HR2.out HC.out
            replace HX1 := Lib.hid (row_below HX1.out hby)
            replace HRv1 := Lib.hid (HRv1.out.below hby)
            clear hW hw hx hby hq HRa HBa
            go_wp2_with fail
            (with_reducible refine (HG3.out _ HR2.out).mono ?_)
            rintro f3 x3 ⟨d3, s3, m3, rfl, hr, -, -, -, hb⟩
            obtain ⟨da3, dc3, rfl⟩ := hr.d.shape
            obtain ⟨sa3, sc3, rfl⟩ := hr.s.shape
            obtain ⟨ma3, mc3, rfl⟩ := hr.m.shape
            obtain ⟨e3x, he3x⟩ : ∃ e, foundE id.data.toList L3 = e := ⟨_, rfl⟩
            obtain ⟨is3, his3⟩ : ∃ q, hasK id.data.toList L3 = q := ⟨_, rfl⟩
            rw [he3x] at hr ⊢
            rw [his3]
            have HE3 := Lib.hid (And.intro he3x his3)
            have HRa := Lib.hid hr
            have HBa := Lib.hid hb
            clear he3x his3 hr hb k0
            go_upto_region 22 with fail
            generalize hW : x3.alloc _ = y3
            have hw : Below x3.heap.size x3 y3 := by rw [← hW]; exact (Below.refl _ x3).alloc (Nat.le_refl _) _
            have hx : y3.heap[x3.heap.size]? = some (.cells (e3x.cells (.slice da3 e3x.ru.ds.length dc3) (.slice sa3 e3x.sk.length sc3) (.slice ma3 e3x.mv.length mc3)) 40) := by rw [← hW]; exact heap_new x3 _
            have hby := HBa.out.trans (hw.mono HBa.out.size)
            obtain ⟨q3, hq⟩ : ∃ q, x3.heap.size = q := ⟨_, rfl⟩
            rw [hq] at hx ⊢
            have HX3 := Lib.hid hx
            have HRv3 := Lib.hid (HRa.out.below hw)
            have HR3 := Lib.hid (HR2.out.trans (hby.mono HR2.out.size))
            have k0 := cell_later HR3.out HC.out
            replace HX1 := Lib.hid (row_below HX1.out hby)
            replace HRv1 := Lib.hid (HRv1.out.below hby)
            replace HX2 := Lib.hid (row_below HX2.out hby)
            replace HRv2 := Lib.hid (HRv2.out.below hby)
            clear hW hw hx hby hq HRa HBa
            go_wp2_with fail
            (with_reducible refine (HG4.out _ HR3.out).mono ?_)
            rintro f4 x4 ⟨d4, s4, m4, rfl, hr, -, -, -, hb⟩
            obtain ⟨da4, dc4, rfl⟩ := hr.d.shape
            obtain ⟨sa4, sc4, rfl⟩ := hr.s.shape
            obtain ⟨ma4, mc4, rfl⟩ := hr.m.shape
            obtain ⟨e4x, he4x⟩ : ∃ e, foundE id.data.toList M = e := ⟨_, rfl⟩
            obtain ⟨is4, his4⟩ : ∃ q, hasK id.data.toList M = q := ⟨_, rfl⟩
            rw [he4x] at hr ⊢
            rw [his4]
            have HE4 := Lib.hid (And.intro he4x his4)
            have HRa := Lib.hid hr
            have HBa := Lib.hid hb
            clear he4x his4 hr hb k0
            go_upto_region 23 with fail
            generalize hW : x4.alloc _ = y4
            have hw : Below x4.heap.size x4 y4 := by rw [← hW]; exact (Below.refl _ x4).alloc (Nat.le_refl _) _
            have hx : y4.heap[x4.heap.size]? = some (.cells (e4x.cells (.slice da4 e4x.ru.ds.length dc4) (.slice sa4 e4x.sk.length sc4) (.slice ma4 e4x.mv.length mc4)) 40) := by rw [← hW]; exact heap_new x4 _
            have hby := HBa.out.trans (hw.mono HBa.out.size)
            obtain ⟨q4, hq⟩ : ∃ q, x4.heap.size = q := ⟨_, rfl⟩
            rw [hq] at hx ⊢
            have HX4 := Lib.hid hx
            have HRv4 := Lib.hid (HRa.out.below hw)
            have HR4 := Lib.hid (HR3.out.trans (hby.mono HR3.out.size))
            have k0 := cell_later HR4.out HC.out
            replace HX1 := Lib.hid (row_below HX1.out hby)
            replace HRv1 := Lib.hid (HRv1.out.below hby)
            replace HX2 := Lib.hid (row_below HX2.out hby)
            replace HRv2 := Lib.hid (HRv2.out.below hby)
            replace HX3 := Lib.hid (row_below HX3.out hby)
            replace HRv3 := Lib.hid (HRv3.out.below hby)
            clear hW hw hx hby hq HRa HBa
            obtain ⟨hz1, hz2, hz3, hz4⟩ := HZ.out
            rw [HE1.out.1] at hz1
            rw [HE2.out.1] at hz2
            rw [HE3.out.1] at hz3
            rw [HE4.out.1] at hz4
            have HSE := Lib.hid (rsameEvent_any e1x e2x _ _ _ _ _ _ y4 HRv1.out HRv2.out hz1 hz2)
            obtain ⟨i0, i1, i2, i3, i4, i5, i6, i7, i8, i9, i10⟩ := cells11 HX1.out
            obtain ⟨j0, j1, j2, j3, j4, j5, j6, j7, j8, j9, j10⟩ := cells11 HX2.out
            clear k0
            go_upto_region 23 with fail
            go_cut [26] from 84 to 165 (fun s wd => s = .bool (is1 == is2 && eqE e1x e2x) ∧ Below y4.heap.size y4 wd)
            case first =>
              by_cases hq : is1 = is2
              · subst hq
                go_wp2_with fail
                (with_reducible refine HSE.out.mono ?_)
                rintro f5 x5 ⟨rfl, hb5⟩
                go_wp2_with fail
                go_meet
                exact ⟨by simp, hb5⟩
              · have hqf : (is1 == is2) = false := by simpa using hq
                clear hq
                go_wp2_with fail
                go_meet
                exact ⟨by rw [hqf]; rfl, Below.refl _ _⟩
            case rest =>
              obtain ⟨rfl, hbc⟩ := hcut
              obtain ⟨y5, hy5⟩ : ∃ x, x = wc := ⟨_, rfl⟩
              subst hy5
              obtain ⟨sa, hsa⟩ : ∃ q, (is1 == is2 && eqE e1x e2x) = q := ⟨_, rfl⟩
              rw [hsa]
              have HSA := Lib.hid hsa
              have HX1b := Lib.hid (row_below HX1.out hbc)
              have HX2b := Lib.hid (row_below HX2.out hbc)
              have HX3b := Lib.hid (row_below HX3.out hbc)
              have HX4b := Lib.hid (row_below HX4.out hbc)
              have HR5 := Lib.hid (HR4.out.trans (hbc.mono HR4.out.size))
              have HSE2 := Lib.hid (rsameEvent_any e1x e3x _ _ _ _ _ _ y5 (HRv1.out.below hbc) (HRv3.out.below hbc) hz1 hz3)
              have HBC5 := Lib.hid hbc
              clear hbc hsa i0 i1 i2 i3 i4 i5 i6 i7 i8 i9 i10 j0 j1 j2 j3 j4 j5 j6 j7 j8 j9 j10 HSE
              obtain ⟨i0, i1, i2, i3, i4, i5, i6, i7, i8, i9, i10⟩ := cells11 HX1b.out
              obtain ⟨j0, j1, j2, j3, j4, j5, j6, j7, j8, j9, j10⟩ := cells11 HX3b.out
              go_upto_region 24 with fail
              go_cut [27] from 84 to 165 (fun s wd => s = .bool (is1 == is3 && eqE e1x e3x) ∧ Below y5.heap.size y5 wd)
              case first =>
                by_cases hq : is1 = is3
                · subst hq
                  go_wp2_with fail
                  (with_reducible refine HSE2.out.mono ?_)
                  rintro f5 x5 ⟨rfl, hb5⟩
                  go_wp2_with fail
                  go_meet
                  exact ⟨by simp, hb5⟩
                · have hqf : (is1 == is3) = false := by simpa using hq
                  clear hq
                  go_wp2_with fail
                  go_meet
                  exact ⟨by rw [hqf]; rfl, Below.refl _ _⟩
              case rest =>
                obtain ⟨rfl, hbc⟩ := hcut
                obtain ⟨y6, hy6⟩ : ∃ x, x = wc := ⟨_, rfl⟩
                subst hy6
                obtain ⟨sb, hsb⟩ : ∃ q, (is1 == is3 && eqE e1x e3x) = q := ⟨_, rfl⟩
                rw [hsb]
                have HSB := Lib.hid hsb
                have HX2c := Lib.hid (row_below HX2b.out hbc)
                have HX3c := Lib.hid (row_below HX3b.out hbc)
                have HX4c := Lib.hid (row_below HX4b.out hbc)
                have HB46 := Lib.hid (HBC5.out.trans (hbc.mono HBC5.out.size))
                have HR6 := Lib.hid (HR5.out.trans (hbc.mono HR5.out.size))
                have HSE3 := Lib.hid (rsameEvent_any e4x e3x _ _ _ _ _ _ y6 (HRv4.out.below HB46.out) (HRv3.out.below HB46.out) hz4 hz3)
                clear hbc hsb i0 i1 i2 i3 i4 i5 i6 i7 i8 i9 i10 j0 j1 j2 j3 j4 j5 j6 j7 j8 j9 j10 HSE2
                go_upto_region 25 with fail
                go_cut [153] from 84 to 165 (fun s wd => s = .bool false ∧ Below y6.heap.size y6 wd)
                case first =>
                  cases sa with
                  | false =>
                    go_wp2_with fail
                    go_meet
                    exact ⟨rfl, Below.refl _ _⟩
                  | true =>
                    obtain ⟨s1, s2⟩ := (Bool.and_eq_true _ _).mp HSA.out
                    obtain ⟨t1, t2⟩ := at_parts (HT2.out.1 (at_both (by rw [HE1.out.2, HE2.out.2]; simpa using s1) (by rw [HE1.out.1, HE2.out.1]; exact eqE_iff.1 s2)))
                    rw [HE4.out.2, HE3.out.2] at t1
                    rw [HE4.out.1, HE3.out.1] at t2
                    have hse := HSE3.out
                    rw [show eqE e4x e3x = true from eqE_iff.2 t2] at hse
                    have HSE4 := Lib.hid hse
                    obtain ⟨i0, i1, i2, i3, i4, i5, i6, i7, i8, i9, i10⟩ := cells11 HX4c.out
                    obtain ⟨j0, j1, j2, j3, j4, j5, j6, j7, j8, j9, j10⟩ := cells11 HX3c.out
                    clear hse t2 s1 s2
                    subst t1
                    go_wp2_with fail
                    (with_reducible refine HSE4.out.mono ?_)
                    rintro f5 x5 ⟨rfl, hb5⟩
                    go_wp2_with fail
                    go_meet
                    exact ⟨rfl, hb5⟩
                case rest =>
                  obtain ⟨rfl, hbc⟩ := hcut
                  obtain ⟨y7, hy7⟩ : ∃ x, x = wc := ⟨_, rfl⟩
                  subst hy7
                  have HX2d := Lib.hid (row_below HX2c.out hbc)
                  have HX4d := Lib.hid (row_below HX4c.out hbc)
                  have HB47 := Lib.hid (HB46.out.trans (hbc.mono HB46.out.size))
                  have HR7 := Lib.hid (HR6.out.trans (hbc.mono HR6.out.size))
                  have HSE3b := Lib.hid (rsameEvent_any e4x e2x _ _ _ _ _ _ y7 (HRv4.out.below HB47.out) (HRv2.out.below HB47.out) hz4 hz2)
                  clear hbc HSE3
                  go_upto_region 27 with fail
                  go_cut [165] from 84 to 165 (fun s wd => s = .bool false ∧ Below y7.heap.size y7 wd)
                  case first =>
                    cases sb with
                    | false =>
                      go_wp2_with fail
                      go_meet
                      exact ⟨rfl, Below.refl _ _⟩
                    | true =>
                      obtain ⟨s1, s2⟩ := (Bool.and_eq_true _ _).mp HSB.out
                      obtain ⟨t1, t2⟩ := at_parts (HT2.out.2 (at_both (by rw [HE1.out.2, HE3.out.2]; simpa using s1) (by rw [HE1.out.1, HE3.out.1]; exact eqE_iff.1 s2)))
                      rw [HE4.out.2, HE2.out.2] at t1
                      rw [HE4.out.1, HE2.out.1] at t2
                      have hse := HSE3b.out
                      rw [show eqE e4x e2x = true from eqE_iff.2 t2] at hse
                      have HSE4 := Lib.hid hse
                      obtain ⟨i0, i1, i2, i3, i4, i5, i6, i7, i8, i9, i10⟩ := cells11 HX4d.out
                      obtain ⟨j0, j1, j2, j3, j4, j5, j6, j7, j8, j9, j10⟩ := cells11 HX2d.out
                      clear hse t2 s1 s2
                      subst t1
                      go_wp2_with fail
                      (with_reducible refine HSE4.out.mono ?_)
                      rintro f5 x5 ⟨rfl, hb5⟩
                      go_wp2_with fail
                      go_meet
                      exact ⟨rfl, hb5⟩
                  case rest =>
                    obtain ⟨rfl, hbc⟩ := hcut
                    have HR8 := Lib.hid (HR7.out.trans (hbc.mono HR7.out.size))
                    clear hbc
                    go_wp2
                    go_roundw
                    case rel => exact ⟨k + 1, by omega, by go_num, HR8.out⟩
                    case measure => simp [intOf]; omega
          · obtain rfl : k = n := by omega
            have HR0 := Lib.hid (HBB.out.trans (hbr.mono HBB.out.size))
            clear hbr
            go_wp2
            go_ret
            exact ⟨rfl, HR0.out⟩
      · have hne : (mergeM L1 L2 L3).2.length ≠ 0 := fun h => hbad (List.length_eq_zero_iff.1 h)
        simp only [if_neg hbad] at hth
        have HTH' := Lib.hid hth
        clear hth HTH hbad
        go_wp2_with fail
        (with_reducible refine HTH'.out.mono ?_)
        rintro e9 w9 ⟨hb9, v9, rfl, hx9⟩
        obtain ⟨a9, c9, rfl⟩ := hx9.shape
        obtain ⟨m9, hm9⟩ : ∃ m, (mergeM L1 L2 L3).2.length = m := ⟨_, rfl⟩
        rw [hm9] at hne ⊢
        have hpos : (0 : Int) < (m9 : Int) := by omega
        have HB9 := Lib.hid (HB8.out.trans (hb9.mono HB8.out.size))
        clear hb9 hx9 HTH'
        go_wp2
        go_ret
        exact ⟨rfl, HB9.out⟩
end Mg
end Go.Proofs.YtghkalamlcfnnaaGreatDoor
