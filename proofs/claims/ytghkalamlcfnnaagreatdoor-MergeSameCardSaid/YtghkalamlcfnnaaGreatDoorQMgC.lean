/- package merge: text, take. -/
import Derived.Test.YtghkalamlcfnnaaGreatDoorQMgW
import Derived.Test.YtghkalamlcfnnaaGreatDoorQMgB
import Derived.Test.YtghkalamlcfnnaaGreatDoorQC1
namespace Go.Proofs.YtghkalamlcfnnaaGreatDoor
open Go Go.RowKit Go.Shelf Lmd
attribute [local go_sem] Oper.semAt_some
namespace Mg
open Evt Bk Df Rul Day Cand Er Tp
set_option maxRecDepth 100000 in
set_option maxHeartbeats 4000000 in
theorem text_any (w : World) (B : Nat) (p : Option Addr) (L : List Ev) (id : ByteArray) (er : Nat → Addr) (hT : Tb w er) (h : BookO w B p L) (hid : id.size ≤ 9223372036854775807) :
    Calls Tryz.prog 79 #[.pointer p, .string id] w fun r w' => r = .returned (.string (txt id.data.toList L)) ∧ Below w.heap.size w w' := by
  rcases h with ⟨rfl, rfl⟩ | ⟨b, m, rfl, hk⟩
  · have ht : txt id.data.toList [] = nilB := txt_nil.2 rfl
    rw [ht]
    unfold nilB
    clear ht hT
    go_enter Tryz.func79, Tryz.ntmps79
    go_wp2
    go_ret
    exact ⟨rfl, Below.refl _ _⟩
  · have hg := Bk.get_any w B b m L id hk hid
    unfold GotE at hg
    have hfit := foundE_fit hk id.data.toList
    have hbad : hasK id.data.toList L = true → badE (foundE id.data.toList L) = 0 := fun hh => hk.good _ (foundE_has hh).1
    have ht : txt id.data.toList L = if hasK id.data.toList L = true then mk (textE (foundE id.data.toList L)) else nilB := rfl
    obtain ⟨x, hx⟩ : ∃ x, foundE id.data.toList L = x := ⟨_, rfl⟩
    obtain ⟨q, hq⟩ : ∃ q, hasK id.data.toList L = q := ⟨_, rfl⟩
    rw [hx, hq] at hg hbad ht
    rw [hx] at hfit
    rw [ht]
    have HT := Lib.hid hT
    have HG := Lib.hid hg
    have HFIT := Lib.hid hfit
    have HBAD := Lib.hid hbad
    clear hT hg hfit hbad ht hx hq hk
    go_enter Tryz.func79, Tryz.ntmps79
    go_wp2_with fail
    (with_reducible refine HG.out.mono ?_)
    rintro e1 w1 ⟨vd, vs, vm, rfl, hr1, _, _, _, hb1⟩
    obtain ⟨a1, c1, rfl⟩ := hr1.d.shape
    obtain ⟨a2, c2, rfl⟩ := hr1.s.shape
    obtain ⟨a3, c3, rfl⟩ := hr1.m.shape
    have HB1 := Lib.hid hb1
    go_upto_region 4 with fail
    generalize hW2 : w1.alloc _ = W2
    have hb2 : Below w1.heap.size w1 W2 := by rw [← hW2]; exact (Below.refl _ w1).alloc (Nat.le_refl _) _
    have hy2 : W2.heap[w1.heap.size]? = some (.cells (x.cells (.slice a1 x.ru.ds.length c1) (.slice a2 x.sk.length c2) (.slice a3 x.mv.length c3)) 40 (0, 0)) := by rw [← hW2]; exact heap_new w1 _
    have HB2 := Lib.hid (HB1.out.trans (hb2.mono HB1.out.size))
    have HR2 := Lib.hid (hr1.below hb2)
    have HY2 := Lib.hid hy2
    clear hW2 hb2 hy2 hr1 hb1
    cases q with
    | false =>
      go_wp2
      go_ret
      exact ⟨rfl, HB2.out⟩
    | true =>
      have hbd := HBAD.out rfl
      have hte := etext_any x _ _ _ er W2 (HT.out.below HB2.out) HR2.out HFIT.out
      rw [if_pos hbd] at hte
      have HTE := Lib.hid hte
      obtain ⟨j0, j1, j2, j3, j4, j5, j6, j7, j8, j9, j10⟩ := cells11 HY2.out
      clear hbd hte
      go_wp2_with fail
      (with_reducible refine HTE.out.mono ?_)
      rintro e3 w3 ⟨rfl, hb3⟩
      have HB3 := Lib.hid (HB2.out.trans (hb3.mono HB2.out.size))
      clear hb3
      go_wp2
      go_ret
      exact ⟨by first | rfl | simp, HB3.out⟩
structure OutB (W : World) (c : Nat) (o : Ev) (vd vs vm : Value) : Prop where
  row : W.heap[c]? = some (.cells (o.cells vd vs vm) 40 (0, 0))
  rv : Rv W o vd vs vm
  o1 : Off c vd
  o2 : Off c vs
  o3 : Off c vm
theorem OutB.below {w w' : World} {c : Nat} {o : Ev} {vd vs vm : Value} (h : OutB w c o vd vs vm) (hb : Below w.heap.size w w') : OutB w' c o vd vs vm := ⟨row_below h.row hb, h.rv.below hb, h.o1, h.o2, h.o3⟩
theorem OutB.step {W W' : World} {c : Nat} {o' : Ev} {vd vs vm : Value} (hf : Far (fun k => k = c) W W') (hrow : W'.heap[c]? = some (.cells (o'.cells vd vs vm) 40 (0, 0))) (hd : Ints.Reads W vd o'.ru.ds) (hs : Ints.Reads W vs o'.sk) (hm : MReads W vm o'.mv) (o1 : Off c vd) (o2 : Off c vs) (o3 : Off c vm) : OutB W' c o' vd vs vm :=
  ⟨hrow, off_far hf ⟨hd, hs, hm⟩ o1 o2 o3, o1, o2, o3⟩
def OffT (g : Nat) (u1 u2 u3 : Value) : Prop := Off g u1 ∧ Off g u2 ∧ Off g u3
def TakeP (w : World) (c : Nat) (o : Ev) (S : Nat → Prop) (r : Ending) (w' : World) : Prop := r = .returned (.tuple #[]) ∧ (∃ vd vs vm, OutB w' c o vd vs vm ∧ ∀ g, S g → OffT g vd vs vm) ∧ Far (fun k => k = c) w w'
set_option maxRecDepth 100000 in
set_option maxHeartbeats 4000000 in
theorem take_any (f : ByteArray) (e : Ev) (ud us um : Value) (c : Nat) (o : Ev) (vd vs vm : Value) (w : World) (hr : Rv w e ud us um) (p1 : Off c ud) (p2 : Off c us) (p3 : Off c um) (h : OutB w c o vd vs vm) :
    Calls Tryz.prog 191 #[.string f, .agg (e.cells ud us um), .pointer (some ⟨c, 0, none⟩)] w (TakeP w c (takeE f e o) (fun g => OffT g ud us um ∧ OffT g vd vs vm)) := by
  obtain ⟨x1, y1, rfl⟩ := hr.d.shape
  obtain ⟨x2, y2, rfl⟩ := hr.s.shape
  obtain ⟨x3, y3, rfl⟩ := hr.m.shape
  obtain ⟨x4, y4, rfl⟩ := h.rv.d.shape
  obtain ⟨x5, y5, rfl⟩ := h.rv.s.shape
  obtain ⟨x6, y6, rfl⟩ := h.rv.m.shape
  obtain ⟨W, hW⟩ : ∃ W, w.alloc (.cells (e.cells (.slice x1 e.ru.ds.length y1) (.slice x2 e.sk.length y2) (.slice x3 e.mv.length y3)) 40) = W := ⟨_, rfl⟩
  have hB : Below w.heap.size w W := by rw [← hW]; exact (Below.refl _ w).alloc (Nat.le_refl _) _
  have hx : W.heap[w.heap.size]? = some (.cells (e.cells (.slice x1 e.ru.ds.length y1) (.slice x2 e.sk.length y2) (.slice x3 e.mv.length y3)) 40 (0, 0)) := by rw [← hW]; exact heap_new w _
  have hrW := hr.below hB
  have hoW := h.below hB
  have hfa : Far (fun k => k = c) w W := Far.of_below hB
  have HFA := Lib.hid hfa
  have HR := Lib.hid hrW
  have HO := Lib.hid hoW
  have HP := Lib.hid (And.intro p1 (And.intro p2 p3))
  have HW := Lib.hid hW
  obtain ⟨k0, k1, k2, k3, k4, k5, k6, k7, k8, k9, k10⟩ := cells11 hx
  obtain ⟨j0, j1, j2, j3, j4, j5, j6, j7, j8, j9, j10⟩ := frozen11 hoW.row
  obtain ⟨m0, m1, m2, m3, m4, m5, m6, m7, m8, m9, m10⟩ := cells11 hoW.row
  obtain ⟨T, hT⟩ : ∃ T, takeE f e o = T := ⟨_, rfl⟩
  unfold takeE at hT
  rw [show takeE f e o = T from hT]
  have HTT := Lib.hid hT
  clear hW hB hx hrW hoW hr h p1 p2 p3 hfa hT
  go_enter Tryz.func191, Tryz.ntmps191
  go_upto_region 1 with fail
  rw [HW.out]
  by_cases h1 : f.toList = [116, 105, 116, 108, 101]
  · have hTT := HTT.out
    rw [if_pos h1] at hTT
    subst hTT
    clear HTT
    go_wp2
    go_end0
    exact ⟨rfl, ⟨_, _, _, OutB.step ((Far.refl (fun k => k = c) W).set (p := ⟨c, 1, none⟩) rfl _) (row_set HO.out.row 1 _) HO.out.rv.d HO.out.rv.s HO.out.rv.m HO.out.o1 HO.out.o2 HO.out.o3, fun _ h => ⟨h.2.1, h.2.2.1, h.2.2.2⟩⟩, HFA.out.trans ((Far.refl (fun k => k = c) W).set (p := ⟨c, 1, none⟩) rfl _)⟩
  by_cases h2 : f.toList = [115, 116, 97, 114, 116]
  · have hTT := HTT.out
    rw [if_neg h1, if_pos h2] at hTT
    subst hTT
    clear HTT
    go_wp2
    go_end0
    exact ⟨rfl, ⟨_, _, _, OutB.step ((Far.refl (fun k => k = c) W).set (p := ⟨c, 2, none⟩) rfl _) (row_set HO.out.row 2 _) HO.out.rv.d HO.out.rv.s HO.out.rv.m HO.out.o1 HO.out.o2 HO.out.o3, fun _ h => ⟨h.2.1, h.2.2.1, h.2.2.2⟩⟩, HFA.out.trans ((Far.refl (fun k => k = c) W).set (p := ⟨c, 2, none⟩) rfl _)⟩
  by_cases h3 : f.toList = [108, 111, 110, 103]
  · have hTT := HTT.out
    rw [if_neg h1, if_neg h2, if_pos h3] at hTT
    subst hTT
    clear HTT
    go_wp2
    go_end0
    exact ⟨rfl, ⟨_, _, _, OutB.step ((Far.refl (fun k => k = c) W).set (p := ⟨c, 3, none⟩) rfl _) (row_set HO.out.row 3 _) HO.out.rv.d HO.out.rv.s HO.out.rv.m HO.out.o1 HO.out.o2 HO.out.o3, fun _ h => ⟨h.2.1, h.2.2.1, h.2.2.2⟩⟩, HFA.out.trans ((Far.refl (fun k => k = c) W).set (p := ⟨c, 3, none⟩) rfl _)⟩
  by_cases h4 : f.toList = [114, 117, 108, 101]
  · have hTT := HTT.out
    rw [if_neg h1, if_neg h2, if_neg h3, if_pos h4] at hTT
    subst hTT
    clear HTT
    go_wp2
    go_end0
    exact ⟨rfl, ⟨_, _, _, OutB.step ((((((Far.refl (fun k => k = c) W).set (p := ⟨c, 4, none⟩) rfl _).set (p := ⟨c, 5, none⟩) rfl _).set (p := ⟨c, 6, none⟩) rfl _).set (p := ⟨c, 7, none⟩) rfl _).set (p := ⟨c, 8, none⟩) rfl _) (row_set (row_set (row_set (row_set (row_set HO.out.row 4 _) 5 _) 6 _) 7 _) 8 _) HR.out.d HO.out.rv.s HO.out.rv.m HP.out.1 HO.out.o2 HO.out.o3, fun _ h => ⟨h.1.1, h.2.2.1, h.2.2.2⟩⟩, HFA.out.trans ((((((Far.refl (fun k => k = c) W).set (p := ⟨c, 4, none⟩) rfl _).set (p := ⟨c, 5, none⟩) rfl _).set (p := ⟨c, 6, none⟩) rfl _).set (p := ⟨c, 7, none⟩) rfl _).set (p := ⟨c, 8, none⟩) rfl _)⟩
  by_cases h5 : f.toList = [115, 107, 105, 112, 115]
  · have hTT := HTT.out
    rw [if_neg h1, if_neg h2, if_neg h3, if_neg h4, if_pos h5] at hTT
    subst hTT
    clear HTT
    go_wp2
    go_end0
    exact ⟨rfl, ⟨_, _, _, OutB.step ((Far.refl (fun k => k = c) W).set (p := ⟨c, 9, none⟩) rfl _) (row_set HO.out.row 9 _) HO.out.rv.d HR.out.s HO.out.rv.m HO.out.o1 HP.out.2.1 HO.out.o3, fun _ h => ⟨h.2.1, h.1.2.1, h.2.2.2⟩⟩, HFA.out.trans ((Far.refl (fun k => k = c) W).set (p := ⟨c, 9, none⟩) rfl _)⟩
  by_cases h6 : f.toList = [109, 111, 118, 101, 115]
  · have hTT := HTT.out
    rw [if_neg h1, if_neg h2, if_neg h3, if_neg h4, if_neg h5, if_pos h6] at hTT
    subst hTT
    clear HTT
    go_wp2
    go_end0
    exact ⟨rfl, ⟨_, _, _, OutB.step ((Far.refl (fun k => k = c) W).set (p := ⟨c, 10, none⟩) rfl _) (row_set HO.out.row 10 _) HO.out.rv.d HO.out.rv.s HR.out.m HO.out.o1 HO.out.o2 HP.out.2.2, fun _ h => ⟨h.2.1, h.2.2.1, h.1.2.2⟩⟩, HFA.out.trans ((Far.refl (fun k => k = c) W).set (p := ⟨c, 10, none⟩) rfl _)⟩
  have hTT := HTT.out
  rw [if_neg h1, if_neg h2, if_neg h3, if_neg h4, if_neg h5, if_neg h6] at hTT
  subst hTT
  have b1 : (f.toList == [116, 105, 116, 108, 101]) = false := beq_eq_false_iff_ne.2 h1
  have b2 : (f.toList == [115, 116, 97, 114, 116]) = false := beq_eq_false_iff_ne.2 h2
  have b3 : (f.toList == [108, 111, 110, 103]) = false := beq_eq_false_iff_ne.2 h3
  have b4 : (f.toList == [114, 117, 108, 101]) = false := beq_eq_false_iff_ne.2 h4
  have b5 : (f.toList == [115, 107, 105, 112, 115]) = false := beq_eq_false_iff_ne.2 h5
  have b6 : (f.toList == [109, 111, 118, 101, 115]) = false := beq_eq_false_iff_ne.2 h6
  clear HTT h1 h2 h3 h4 h5 h6
  go_wp2
  go_end0
  exact ⟨rfl, ⟨_, _, _, HO.out, fun _ h => h.2⟩, HFA.out⟩
end Mg
end Go.Proofs.YtghkalamlcfnnaaGreatDoor
