/- package merge: one. -/
import Derived.Test.YtghkalamlcfnnaaGreatDoorQMgG
import Derived.Test.YtghkalamlcfnnaaGreatDoorQEvSet
import Derived.Test.YtghkalamlcfnnaaGreatDoorQC3
namespace Go.Proofs.YtghkalamlcfnnaaGreatDoor
open Go Go.RowKit Go.Shelf Lmd
attribute [local go_sem] Oper.semAt_some
namespace Mg
open Evt Bk Df Rul Day Cand Er Tp
def OneP (w : World) (B b m : Nat) (id : ByteArray) (bs : List ByteArray) (L : List Ev) (r : Ending) (w' : World) : Prop :=
  ∃ v, r = .returned v ∧ XReads w' v (bs.map fun f => (id, f)) ∧ (bs = [] ↔ v = .slice none 0 0) ∧ Book w' B b m L ∧ Far (fun k => k = m) w w'
theorem no_nil {s : ByteArray} (h : s ≠ nilB) : (s.toList == []) = false ∧ s.toList.isEmpty = false := by
  have h1 : s.toList ≠ [] := fun e => h (by
    rw [ByteArray.toList_eq] at e
    rw [str_mk s, e]; rfl)
  exact ⟨beq_eq_false_iff_ne.2 h1, by simpa using h1⟩
theorem txt_small {L : List Ev} (h : ∀ e ∈ L, badE e = 0) (k : List UInt8) : (txt k L).size ≤ 30000 := by
  unfold txt
  split
  · rename_i hk
    have := text_short (h _ (foundE_has hk).1)
    show (textE _).toArray.size ≤ _
    rw [List.size_toArray]; omega
  · exact Nat.zero_le _
theorem txt_has {L : List Ev} {k : List UInt8} (h : txt k L ≠ nilB) : hasK k L = true := by
  cases hh : hasK k L with
  | true => rfl
  | false => exact absurd (txt_nil.2 hh) h
theorem book_some {w : World} {B : Nat} {p : Option Addr} {L : List Ev} {k : List UInt8} (h : BookO w B p L) (hk : hasK k L = true) : ∃ b m, p = some ⟨b, 0, none⟩ ∧ Book w B b m L := by
  rcases h with ⟨_, rfl⟩ | h
  · cases hk
  · exact h
theorem one_bad {w W : World} {B b m : Nat} {id : ByteArray} {L : List Ev} (h : Book W B b m L) (hf : Far (fun k => k = m) w W) :
    OneP w B b m id [allB] L (.returned (.slice (some ⟨W.heap.size, 0, none⟩) 1 1)) (W.alloc (.cells #[.string id, .string ⟨#[97, 108, 108]⟩] 52)) := by
  refine ⟨_, rfl, .inr ⟨W.heap.size, 0, 1, rfl, fun j hj => ?_⟩, ⟨fun h => (by cases h), fun h => by injection h with h; cases h⟩, h.below ((Below.refl _ _).alloc (Nat.le_refl _) _), hf.trans (Far.of_below ((Below.refl _ _).alloc (Nat.le_refl _) _))⟩
  obtain rfl : j = 0 := by simpa using hj
  exact at2_box (t := 52) (heap_new W _)
set_option maxRecDepth 100000 in
set_option maxHeartbeats 16000000 in
theorem one_any (w : World) (B1 : Nat) (p1 : Option Addr) (B2 : Nat) (p2 : Option Addr) (B3 : Nat) (p3 : Option Addr) (B b m : Nat) (x y z L : List Ev) (id : ByteArray) (er : Nat → Addr) (n0 : Int) (hv : Env w er n0) (h1 : BookO w B1 p1 x) (h2 : BookO w B2 p2 y) (h3 : BookO w B3 p3 z) (h : Book w B b m L) (gx : ∀ e ∈ x, badE e = 0) (gy : ∀ e ∈ y, badE e = 0) (gz : ∀ e ∈ z, badE e = 0) (hid : id.size ≤ 9223372036854775807) :
    Calls Tryz.prog 40 #[.string id, .pointer p1, .pointer p2, .pointer p3, .pointer (some ⟨b, 0, none⟩)] w (OneP w B b m id (oneM x y z id.data.toList L).1 (oneM x y z id.data.toList L).2) := by
  obtain ⟨k, hk⟩ : ∃ k, id.data.toList = k := ⟨_, rfl⟩
  have HT1 := Lib.hid (fun V (hw : Below w.heap.size w V) => text_any V B1 p1 x id er (hv.tb.below hw) (h1.below hw) hid)
  have HT2 := Lib.hid (fun V (hw : Below w.heap.size w V) => text_any V B2 p2 y id er (hv.tb.below hw) (h2.below hw) hid)
  have HT3 := Lib.hid (fun V (hw : Below w.heap.size w V) => text_any V B3 p3 z id er (hv.tb.below hw) (h3.below hw) hid)
  have hpm : (pkT x y z k).2 = true → (pkT x y z k).1 = txt k y ∨ (pkT x y z k).1 = txt k z := pick_mem
  have hpd : pkT x y z k = pickG (txt k x) (txt k y) (txt k z) := rfl
  have hrdy := fun hn => readE_txt (k := k) gy hn
  have hrdz := fun hn => readE_txt (k := k) gz hn
  have hsy := txt_small gy k
  have hsz := txt_small gz k
  have hon : oneM x y z k L = if (pkT x y z k).2 = true then
    (if (pkT x y z k).1 = nilB then ([], L) else if putK (readE (pkT x y z k).1) L ≠ 0 then ([allB], L) else ([], withE (readE (pkT x y z k).1) L))
  else if txt k x = nilB ∨ txt k y = nilB ∨ txt k z = nilB then ([allB], L)
  else if mixB (foundE k x) (foundE k y) (foundE k z) ≠ [] then (mixB (foundE k x) (foundE k y) (foundE k z), L)
  else if putK (mixE (foundE k x) (foundE k y) (foundE k z)) L ≠ 0 then ([allB], L)
  else ([], withE (mixE (foundE k x) (foundE k y) (foundE k z)) L) := rfl
  have HV := Lib.hid hv
  have H1 := Lib.hid h1
  have H2 := Lib.hid h2
  have H3 := Lib.hid h3
  have H := Lib.hid h
  have HI := Lib.hid hid
  have HG := Lib.hid (And.intro gx (And.intro gy gz))
  have HKK := Lib.hid hk
  rw [hk] at HT1 HT2 HT3 ⊢
  obtain ⟨tx, htx⟩ : ∃ t, txt k x = t := ⟨_, rfl⟩
  obtain ⟨ty, hty⟩ : ∃ t, txt k y = t := ⟨_, rfl⟩
  obtain ⟨tz, htz⟩ : ∃ t, txt k z = t := ⟨_, rfl⟩
  rw [htx] at HT1 hpd hon
  rw [hty] at HT2 hpd hon hpm
  rw [htz] at HT3 hpd hon hpm
  rw [hty] at hsy
  rw [htz] at hsz
  simp only [hty] at hrdy
  simp only [htz] at hrdz
  have HTX := Lib.hid (And.intro htx (And.intro hty htz))
  have hpick := fun V => pickS_any tx ty tz V
  rw [← hpd] at hpick
  obtain ⟨⟨s, is⟩, hsi⟩ : ∃ q, pkT x y z k = q := ⟨_, rfl⟩
  rw [hsi] at hpick hpm hon
  dsimp only at hpick hpm hon
  obtain ⟨R, hR⟩ : ∃ R, oneM x y z k L = R := ⟨_, rfl⟩
  rw [hR] at hon ⊢
  have HPM := Lib.hid hpm
  have HON := Lib.hid hon
  have HPK := Lib.hid hpick
  have HRY := Lib.hid hrdy
  have HRZ := Lib.hid hrdz
  have HSS := Lib.hid (And.intro hsy hsz)
  clear hk hpm hpd hrdy hrdz hsy hsz hon hv h1 h2 h3 h gx gy gz htx hty htz hpick hsi hR hid
  go_enter Tryz.func40, Tryz.ntmps40
  go_wp2_with fail
  (with_reducible refine (HT1.out _ (Below.refl _ _)).mono ?_)
  rintro e1 w1 ⟨rfl, hb1⟩
  have HB1 := Lib.hid hb1
  clear hb1
  go_wp2_with fail
  (with_reducible refine (HT2.out _ HB1.out).mono ?_)
  rintro e2 w2 ⟨rfl, hb2⟩
  have HB2 := Lib.hid (HB1.out.trans (hb2.mono HB1.out.size))
  clear hb2
  go_wp2_with fail
  (with_reducible refine (HT3.out _ HB2.out).mono ?_)
  rintro e3 w3 ⟨rfl, hb3⟩
  have HB3 := Lib.hid (HB2.out.trans (hb3.mono HB2.out.size))
  clear hb3
  go_wp2_with fail
  (with_reducible refine (HPK.out _).mono ?_)
  rintro e4 w4 ⟨rfl, rfl⟩
  have HBK := Lib.hid (H.out.below HB3.out)
  have HFR := Lib.hid (show Far (fun k => k = m) w w4 from Far.of_below HB3.out)
  cases is with
  | true =>
    by_cases hs : s = nilB
    · have hs2 : s = ⟨#[]⟩ := hs
      subst hs2
      have hR := HON.out
      rw [if_pos rfl, if_pos hs] at hR
      subst hR
      clear hs HON
      go_wp2
      go_ret
      exact ⟨_, rfl, .inl ⟨rfl, rfl⟩, ⟨fun _ => rfl, fun _ => rfl⟩, HBK.out, HFR.out⟩
    · have hR := HON.out
      rw [if_pos rfl, if_neg hs] at hR
      obtain ⟨n1, n2⟩ := no_nil hs
      have hrc : readC s = 0 ∧ Size (readE s) ∧ s.size ≤ 30000 := by
        have hsm : s.size ≤ 30000 := by
          rcases HPM.out rfl with e | e
          · rw [e]; exact HSS.out.1
          · rw [e]; exact HSS.out.2
        refine ⟨?_, readE_fit hsm, hsm⟩
        rcases HPM.out rfl with e | e
        · rw [e]; exact (HRY.out (by rw [← e]; exact hs)).2
        · rw [e]; exact (HRZ.out (by rw [← e]; exact hs)).2
      have hrd := read_ev s er n0 w4 (HV.out.below HB3.out) hrc.2.2
      unfold ReadPost at hrd
      rw [hrc.1] at hrd
      have hsz := hrc.2.1
      obtain ⟨e, he⟩ : ∃ e, readE s = e := ⟨_, rfl⟩
      rw [he] at hrd hsz hR
      have HRD := Lib.hid hrd
      have HSZ := Lib.hid hsz
      have HR := Lib.hid hR
      clear hs hrc hrd hsz he hR HON
      go_wp2_with fail
      (with_reducible refine HRD.out.mono ?_)
      rintro e5 w5 ⟨ud, us, um, rfl, hr5, hb5⟩
      obtain ⟨b1, d1, rfl⟩ := hr5.d.shape
      obtain ⟨b2, d2, rfl⟩ := hr5.s.shape
      obtain ⟨b3, d3, rfl⟩ := hr5.m.shape
      simp only [errV]
      go_upto_region 7 with fail
      generalize hW6 : w5.alloc _ = W6
      have hb6 : Below w5.heap.size w5 W6 := by rw [← hW6]; exact (Below.refl _ w5).alloc (Nat.le_refl _) _
      have hy6 : W6.heap[w5.heap.size]? = some (.cells (e.cells (.slice b1 e.ru.ds.length d1) (.slice b2 e.sk.length d2) (.slice b3 e.mv.length d3)) 40 (0, 0)) := by rw [← hW6]; exact heap_new w5 _
      have hb56 := hb5.trans (hb6.mono hb5.size)
      have HBK6 := Lib.hid (HBK.out.below hb56)
      have HFR6 := Lib.hid (HFR.out.trans (Far.of_below hb56))
      have hpu := put_any W6 B b m L e _ _ _ er ((HV.out.below HB3.out).below hb56).errs HBK6.out (hr5.below hb6) HSZ.out
      unfold PutP at hpu
      obtain ⟨j0, j1, j2, j3, j4, j5, j6, j7, j8, j9, j10⟩ := cells11 hy6
      obtain ⟨q, hq⟩ : ∃ q, putK e L = q := ⟨_, rfl⟩
      rw [hq] at hpu
      have HPU := Lib.hid hpu
      have HQ := Lib.hid hq
      clear hW6 hb6 hy6 hr5 hb5 hb56 hpu hq
      go_wp2_with fail
      (with_reducible refine HPU.out.mono ?_)
      rintro e7 w7 ⟨rfl, hbk7, hfar7⟩
      have HBK7 := Lib.hid hbk7
      have HFR7 := Lib.hid (HFR6.out.trans hfar7)
      clear hbk7 hfar7 j0 j1 j2 j3 j4 j5 j6 j7 j8 j9 j10
      cases q with
      | zero =>
        have hR := HR.out
        rw [HQ.out, if_neg (by simp)] at hR
        subst hR
        simp only [errV]
        go_wp2
        go_ret
        have hpl : putL e L = withE e L := by unfold putL; rw [HQ.out, if_pos rfl]
        exact ⟨_, rfl, .inl ⟨rfl, rfl⟩, ⟨fun _ => rfl, fun _ => rfl⟩, by rw [← hpl]; exact HBK7.out, HFR7.out⟩
      | succ q =>
        have hR := HR.out
        rw [HQ.out, if_pos (by simp)] at hR
        subst hR
        simp only [errV]
        go_wp2
        go_ret
        have hpl : putL e L = L := by unfold putL; rw [HQ.out, if_neg (by simp)]
        exact one_bad (by rw [← hpl]; exact HBK7.out) HFR7.out
  | false =>
    by_cases hx : tx = nilB ∨ ty = nilB ∨ tz = nilB
    · have hR := HON.out
      rw [if_neg (by simp), if_pos hx] at hR
      subst hR
      clear HON
      by_cases c1 : tx = nilB
      · have c1' : tx = ⟨#[]⟩ := c1
        subst c1'
        clear c1 hx
        go_wp2
        go_ret
        exact one_bad HBK.out HFR.out
      · obtain ⟨n1, n2⟩ := no_nil c1
        by_cases c2 : ty = nilB
        · have c2' : ty = ⟨#[]⟩ := c2
          subst c2'
          clear c1 c2 hx
          go_wp2
          go_ret
          exact one_bad HBK.out HFR.out
        · obtain ⟨n3, n4⟩ := no_nil c2
          have c3 : tz = ⟨#[]⟩ := (hx.resolve_left c1).resolve_left c2
          subst c3
          clear c1 c2 hx
          go_wp2
          go_ret
          exact one_bad HBK.out HFR.out
    · have hR := HON.out
      rw [if_neg (by simp), if_neg hx] at hR
      obtain ⟨n1, n2⟩ := no_nil (fun e => hx (.inl e))
      obtain ⟨n3, n4⟩ := no_nil (fun e => hx (.inr (.inl e)))
      obtain ⟨n5, n6⟩ := no_nil (fun e => hx (.inr (.inr e)))
      obtain ⟨t1, t2, t3⟩ := HTX.out
      have kx := txt_has (k := k) (L := x) (by rw [t1]; exact fun e => hx (.inl e))
      have ky := txt_has (k := k) (L := y) (by rw [t2]; exact fun e => hx (.inr (.inl e)))
      have kz := txt_has (k := k) (L := z) (by rw [t3]; exact fun e => hx (.inr (.inr e)))
      obtain ⟨b1, m1, rfl, hb1⟩ := book_some H1.out kx
      obtain ⟨b2, m2, rfl, hb2⟩ := book_some H2.out ky
      obtain ⟨b3, m3, rfl, hb3⟩ := book_some H3.out kz
      have hfi := fields_any w4 B1 b1 m1 B2 b2 m2 B3 b3 m3 x y z id er (HV.out.below HB3.out).tb (hb1.below HB3.out) (hb2.below HB3.out) (hb3.below HB3.out) HI.out (by rw [HKK.out]; exact kx) (by rw [HKK.out]; exact ky) (by rw [HKK.out]; exact kz)
      unfold FieldsP at hfi
      rw [HKK.out] at hfi
      have hms := mix_size (hb1.good _ (foundE_has kx).1) (hb2.good _ (foundE_has ky).1) (hb3.good _ (foundE_has kz).1) (hb2.fit _ (foundE_has ky).1) (hb3.fit _ (foundE_has kz).1)
      obtain ⟨e, he⟩ : ∃ e, mixE (foundE k x) (foundE k y) (foundE k z) = e := ⟨_, rfl⟩
      obtain ⟨bs, hbs⟩ : ∃ bs, mixB (foundE k x) (foundE k y) (foundE k z) = bs := ⟨_, rfl⟩
      rw [he, hbs] at hR hfi
      rw [he] at hms
      have HFI := Lib.hid hfi
      have HMS := Lib.hid hms
      have HR := Lib.hid hR
      have hu : ∀ (w : World) (a : Option Addr) (n c n' c' : Nat), (binOp .eql 30 (.slice a n c) (.slice none n' c')).run Tryz.prog w = .ok (.bool a.isNone) w := fun w a n c n' c' => Lib.run_eql_slice_nil w _ _ a n c n' c' Tryz.underlying30
      clear hx hR HON t1 t2 t3 kx ky kz hb1 hb2 hb3 hfi hms he hbs
      go_wp2_with fail
      (with_reducible refine HFI.out.mono ?_)
      rintro e5 w5 ⟨ud, us, um, v5, rfl, hr5, hx5, hn5, hb5⟩
      obtain ⟨q1, d1, rfl⟩ := hr5.d.shape
      obtain ⟨q2, d2, rfl⟩ := hr5.s.shape
      obtain ⟨q3, d3, rfl⟩ := hr5.m.shape
      obtain ⟨a5, c5, rfl⟩ := hx5.shape
      obtain ⟨mm, hmm⟩ : ∃ q, (bs.map fun f => (id, f)).length = q := ⟨_, rfl⟩
      rw [hmm] at hx5 hn5 ⊢
      clear hmm
      go_upto_region 13 with fail
      generalize hW6 : w5.alloc _ = W6
      have hb6 : Below w5.heap.size w5 W6 := by rw [← hW6]; exact (Below.refl _ w5).alloc (Nat.le_refl _) _
      have hy6 : W6.heap[w5.heap.size]? = some (.cells (e.cells (.slice q1 e.ru.ds.length d1) (.slice q2 e.sk.length d2) (.slice q3 e.mv.length d3)) 40 (0, 0)) := by rw [← hW6]; exact heap_new w5 _
      have hb56 := hb5.trans (hb6.mono hb5.size)
      have HBK6 := Lib.hid (HBK.out.below hb56)
      have HFR6 := Lib.hid (HFR.out.trans (Far.of_below hb56))
      have HX6 := Lib.hid (hx5.below hb6)
      have hpu := put_any W6 B b m L e _ _ _ er ((HV.out.below HB3.out).below hb56).errs HBK6.out (hr5.below hb6) HMS.out
      unfold PutP at hpu
      obtain ⟨j0, j1, j2, j3, j4, j5, j6, j7, j8, j9, j10⟩ := cells11 hy6
      by_cases hb : bs = []
      · have hv := hn5.1 hb
        injection hv with hv1 hv2 hv3
        subst hv1 hv2 hv3
        have hR := HR.out
        rw [if_neg (fun h => h hb)] at hR
        obtain ⟨q, hq⟩ : ∃ q, putK e L = q := ⟨_, rfl⟩
        rw [hq] at hpu hR
        have HPU := Lib.hid hpu
        have HQ := Lib.hid hq
        have HR2 := Lib.hid hR
        clear hW6 hb6 hy6 hr5 hb5 hb56 hpu hq hR hb hn5 hx5
        go_wp2_with fail
        (with_reducible refine HPU.out.mono ?_)
        rintro e7 w7 ⟨rfl, hbk7, hfar7⟩
        have HBK7 := Lib.hid hbk7
        have HFR7 := Lib.hid (HFR6.out.trans hfar7)
        clear hbk7 hfar7 j0 j1 j2 j3 j4 j5 j6 j7 j8 j9 j10
        cases q with
        | zero =>
          have hR := HR2.out
          rw [if_neg (by simp)] at hR
          subst hR
          simp only [errV]
          go_wp2
          go_ret
          have hpl : putL e L = withE e L := by unfold putL; rw [HQ.out, if_pos rfl]
          exact ⟨_, rfl, .inl ⟨rfl, rfl⟩, ⟨fun _ => rfl, fun _ => rfl⟩, by rw [← hpl]; exact HBK7.out, HFR7.out⟩
        | succ q =>
          have hR := HR2.out
          rw [if_pos (by simp)] at hR
          subst hR
          simp only [errV]
          go_wp2
          go_ret
          have hpl : putL e L = L := by unfold putL; rw [HQ.out, if_neg (by simp)]
          exact one_bad (by rw [← hpl]; exact HBK7.out) HFR7.out
      · have hR := HR.out
        rw [if_pos hb] at hR
        subst hR
        cases a5 with
        | none =>
          exfalso
          rcases hx5 with ⟨h0, _⟩ | ⟨_, _, _, h0, _⟩
          · exact hb (List.map_eq_nil_iff.1 h0)
          · cases h0
        | some a5 =>
          have HN5 := Lib.hid hn5
          clear hW6 hb6 hy6 hr5 hb5 hb56 hpu hb hn5 hx5 HR
          go_wp2
          go_ret
          exact ⟨_, rfl, HX6.out, HN5.out, HBK6.out, HFR6.out⟩
end Mg
end Go.Proofs.YtghkalamlcfnnaaGreatDoor
