/- DfWhole, DfChange, DfApply: texts joined. -/
import Derived.Test.YtghkalamlcfnnaaGreatDoorQDfOne
import Derived.Test.YtghkalamlcfnnaaGreatDoorQC1
section
namespace Go.Proofs.YtghkalamlcfnnaaGreatDoor
open Go Go.RowKit Go.Shelf Lmd
attribute [local go_sem] Oper.semAt_some
namespace Df
open Evt Bk Tp Rul Day Cand Er
structure E9 (w : World) (er : Nat → Addr) : Prop where
  seven : E7 w er
  s4 : Frame.Sent w 4 (tx [110, 111, 110, 101]) (er 4)
  s8 : Frame.Sent w 5 (tx [115, 116, 97, 108, 101]) (er 8)
theorem E9.below {w w' : World} {er : Nat → Addr} (h : E9 w er) (hb : Below w.heap.size w w') : E9 w' er := ⟨h.seven.below hb, h.s4.below hb, h.s8.below hb⟩
theorem cells4 {w : World} {b : Nat} {a0 a1 a2 a3 : Value} {t : TypeId} (h : w.heap[b]? = some (.cells #[a0, a1, a2, a3] t (0, 0))) :
    w.cell? ⟨b, 0, none⟩ = some a0 ∧ w.cell? ⟨b, 1, none⟩ = some a1 ∧ w.cell? ⟨b, 2, none⟩ = some a2 ∧ w.cell? ⟨b, 3, none⟩ = some a3 := by simp [World.cell?, h]
def ChP (w : World) (B b m : Nat) (L : List Ev) (c : Chg) (er : Nat → Addr) (r : Ending) (w' : World) : Prop :=
  r = .returned (errV er (chK c L)) ∧ Book w' B b m (chL c L) ∧ Far (fun k => k = m) w w'
theorem chL_bad {c : Chg} {L : List Ev} {q : Nat} (h : chK c L = q + 1) : chL c L = L := by unfold chL; rw [if_pos (by omega)]
theorem chP_bad {w W : World} {B b m : Nat} {L : List Ev} {c : Chg} {er : Nat → Addr} {q : Nat} (h : chK c L = q + 1) (hk : Book w B b m L) (hb : Below w.heap.size w W) : ChP w B b m L c er (.returned (ev (er q))) W := by
  unfold ChP
  rw [chL_bad h, h]
  exact ⟨rfl, hk.below hb, Far.of_below hb⟩
theorem chK_shape {id o n : ByteArray} {L : List Ev} (h : decide (o = nilB) = decide (n = nilB)) : chK ⟨id, allB, o, n⟩ L = 3 := by
  unfold chK
  dsimp only
  rw [if_pos rfl, if_pos h]
theorem chK_drop {id o : ByteArray} {L : List Ev} (h : o ≠ nilB) : chK ⟨id, allB, o, nilB⟩ L = if hasK id.data.toList L = false then 5 else if mk (textE (foundE id.data.toList L)) ≠ o then 9 else 0 := by
  unfold chK
  dsimp only
  rw [if_pos rfl, if_neg (by rw [decide_eq_false h, decide_eq_true rfl]; simp), if_pos rfl]
theorem chK_put {id n : ByteArray} {L : List Ev} (h : n ≠ nilB) : chK ⟨id, allB, nilB, n⟩ L = if hasK id.data.toList L = true then 6 else if readC n ≠ 0 then readC n else if (readE n).id ≠ id then 4 else putK (readE n) L := by
  unfold chK
  dsimp only
  rw [if_pos rfl, if_neg (by rw [decide_eq_true (rfl : nilB = nilB), decide_eq_false h]; simp), if_neg h]
theorem nil_no {s : ByteArray} (h : s ≠ nilB) : (s.toList == []) = false ∧ s.toList.isEmpty = false := by
  have h1 : s.toList ≠ [] := fun e => h (by
    rw [ByteArray.toList_eq] at e
    rw [str_mk s, e]; rfl)
  exact ⟨beq_eq_false_iff_ne.2 h1, by simpa using h1⟩
set_option maxRecDepth 100000 in
set_option maxHeartbeats 4000000 in
theorem whole_shape (w : World) (B b m : Nat) (L : List Ev) (id o n : ByteArray) (er : Nat → Addr) (he : E9 w er) (h : Book w B b m L) (hs : decide (o = nilB) = decide (n = nilB)) :
    Calls Tryz.prog 99 #[.pointer (some ⟨b, 0, none⟩), .agg #[.string id, .string allB, .string o, .string n]] w (ChP w B b m L ⟨id, allB, o, n⟩ er) := by
  obtain ⟨W, hW⟩ : ∃ W, w.alloc (.cells #[.string id, .string allB, .string o, .string n] 55) = W := ⟨_, rfl⟩
  have hB : Below w.heap.size w W := by rw [← hW]; exact (Below.refl _ w).alloc (Nat.le_refl _) _
  have hx : W.heap[w.heap.size]? = some (.cells #[.string id, .string allB, .string o, .string n] 55) := by rw [← hW]; exact heap_new w _
  have cE := (he.below hB).seven.s2.cell
  have HW := Lib.hid hW
  have HB := Lib.hid hB
  have H := Lib.hid h
  have HK := Lib.hid (chK_shape (id := id) (L := L) hs)
  obtain ⟨k0, k1, k2, k3⟩ := cells4 hx
  clear he h hW hB hx
  by_cases ho : o = nilB
  · have hn : n = nilB := by
      rw [decide_eq_true ho] at hs
      exact of_decide_eq_true hs.symm
    subst ho hn
    unfold nilB at k2 k3 HW
    clear hs
    go_enter Tryz.func99, Tryz.ntmps99
    go_upto_region 1 with fail
    unfold nilB
    rw [HW.out]
    go_wp2
    go_ret
    exact chP_bad HK.out H.out HB.out
  · have hn : n ≠ nilB := fun hn => by
      rw [decide_eq_false ho, decide_eq_true hn] at hs; cases hs
    obtain ⟨o1, o2⟩ := nil_no ho
    obtain ⟨n1, n2⟩ := nil_no hn
    clear hs ho hn
    go_enter Tryz.func99, Tryz.ntmps99
    go_upto_region 1 with fail
    rw [HW.out]
    go_wp2
    go_ret
    exact chP_bad HK.out H.out HB.out
set_option maxRecDepth 100000 in
set_option maxHeartbeats 4000000 in
theorem whole_drop (w : World) (B b m : Nat) (L : List Ev) (id o : ByteArray) (er : Nat → Addr) (htab : Lib.TabIs Tryz.prog w "internal/strconv.uint64pow10" .u64 Lib.pow10Tab) (he : E9 w er) (h : Book w B b m L) (ho : o ≠ nilB) (hid : id.size ≤ 9223372036854775807) :
    Calls Tryz.prog 99 #[.pointer (some ⟨b, 0, none⟩), .agg #[.string id, .string allB, .string o, .string ⟨#[]⟩]] w (ChP w B b m L ⟨id, allB, o, nilB⟩ er) := by
  obtain ⟨W, hW⟩ : ∃ W, w.alloc (.cells #[.string id, .string allB, .string o, .string ⟨#[]⟩] 55) = W := ⟨_, rfl⟩
  have hB : Below w.heap.size w W := by rw [← hW]; exact (Below.refl _ w).alloc (Nat.le_refl _) _
  have hx : W.heap[w.heap.size]? = some (.cells #[.string id, .string allB, .string o, .string ⟨#[]⟩] 55) := by rw [← hW]; exact heap_new w _
  have hg := Bk.get_any W B b m L id (h.below hB) hid
  unfold GotE at hg
  have hfit := foundE_fit h id.data.toList
  have hbad : hasK id.data.toList L = true → badE (foundE id.data.toList L) = 0 := fun hh => h.good _ (foundE_has hh).1
  have hK := chK_drop (id := id) (L := L) ho
  obtain ⟨x, hx'⟩ : ∃ x, foundE id.data.toList L = x := ⟨_, rfl⟩
  obtain ⟨q, hq⟩ : ∃ q, hasK id.data.toList L = q := ⟨_, rfl⟩
  rw [hx', hq] at hg hbad hK
  rw [hx'] at hfit
  have HT := Lib.hid (Tb.mk he.seven htab)
  have HE := Lib.hid he
  have H := Lib.hid h
  have HW := Lib.hid hW
  have HB := Lib.hid hB
  have HX := Lib.hid hx
  have HG := Lib.hid hg
  have HFIT := Lib.hid hfit
  have HBAD := Lib.hid hbad
  have HK := Lib.hid hK
  have HQ := Lib.hid hq
  obtain ⟨k0, k1, k2, k3⟩ := cells4 hx
  obtain ⟨o1, o2⟩ := nil_no ho
  clear htab he h hW hB hx hg hfit hbad hK hx' hq ho
  go_enter Tryz.func99, Tryz.ntmps99
  go_upto_region 1 with fail
  rw [HW.out]
  go_wp2_with fail
  (with_reducible refine HG.out.mono ?_)
  rintro e1 w1 ⟨vd, vs, vm, rfl, hr1, _, _, _, hb1⟩
  obtain ⟨a1, c1, rfl⟩ := hr1.d.shape
  obtain ⟨a2, c2, rfl⟩ := hr1.s.shape
  obtain ⟨a3, c3, rfl⟩ := hr1.m.shape
  have HX1 := Lib.hid (row_below HX.out hb1)
  have HB1 := Lib.hid (HB.out.trans (hb1.mono HB.out.size))
  clear hb1 k0 k1 k2 k3 o1 o2
  go_upto_region 4 with fail
  obtain ⟨W2, hW2⟩ : ∃ W2, w1.alloc (.cells (x.cells (.slice a1 x.ru.ds.length c1) (.slice a2 x.sk.length c2) (.slice a3 x.mv.length c3)) 40) = W2 := ⟨_, rfl⟩
  have hb2 : Below w1.heap.size w1 W2 := by rw [← hW2]; exact (Below.refl _ w1).alloc (Nat.le_refl _) _
  have hy2 : W2.heap[w1.heap.size]? = some (.cells (x.cells (.slice a1 x.ru.ds.length c1) (.slice a2 x.sk.length c2) (.slice a3 x.mv.length c3)) 40) := by rw [← hW2]; exact heap_new w1 _
  have HB2 := Lib.hid (HB1.out.trans (hb2.mono HB1.out.size))
  have HX2 := Lib.hid (row_below HX1.out hb2)
  have HY2 := Lib.hid hy2
  have HR2 := Lib.hid (hr1.below hb2)
  rw [hW2]
  clear hW2 hb2 hy2 hr1
  obtain ⟨k0, k1, k2, k3⟩ := cells4 HX2.out
  cases q with
  | false =>
    have cE := (HE.out.below HB2.out).s4.cell
    go_wp2
    go_ret
    exact chP_bad (q := 4) (by rw [HK.out, if_pos (by first | trivial | rfl)]) H.out HB2.out
  | true =>
    have hbd := HBAD.out rfl
    have hte := fun W (hw : Below W2.heap.size W2 W) => etext_any x _ _ _ er W ((HT.out.below HB2.out).below hw) (HR2.out.below hw) HFIT.out
    simp only [if_pos hbd] at hte
    have hK := HK.out
    rw [if_neg (by simp)] at hK
    obtain ⟨T, hT⟩ : ∃ T, mk (textE x) = T := ⟨_, rfl⟩
    simp only [hT] at hte
    rw [hT] at hK
    have HK2 := Lib.hid hK
    have HTE := Lib.hid hte
    have hacc : Below W2.heap.size W2 W2.drew := Tp.below_drew (Below.refl _ W2)
    obtain ⟨j0, j1, j2, j3, j4, j5, j6, j7, j8, j9, j10⟩ := cells11 HY2.out
    clear hbd hte hT hK
    have hcmp : ∃ z : Bool, (T.toList == o.toList) = z ∧ (z = true ↔ T = o) := ⟨_, rfl, by
      rw [beq_iff_eq, ByteArray.toList_eq, ByteArray.toList_eq]
      exact ⟨fun e => by rw [str_mk T, str_mk o, e], fun e => by rw [e]⟩⟩
    obtain ⟨z, hz, hzo⟩ := hcmp
    have HZ := Lib.hid hzo
    clear hzo
    go_upto_region 7 with fail
    go_cut [31] from 31 (fun s wc => s = .bool (!z) ∧ Below W2.heap.size W2 wc)
    case first =>
      go_region_with (first
        | ((with_reducible refine (HTE.out _ hacc).mono ?_)
           rintro e3 w3 ⟨rfl, hb3⟩
           replace hacc := hacc.trans (hb3.mono hacc.size)
           obtain ⟨u0, u1, u2, u3⟩ := cells4 (row_below HX2.out hacc)
           clear hb3))
      all_goals (
        go_wp2_with fail
        go_meet
        exact ⟨rfl, hacc⟩)
    case rest =>
      obtain ⟨rfl, hbc⟩ := hcut
      have HBC := Lib.hid (HB2.out.trans (hbc.mono HB2.out.size))
      have HXC := Lib.hid (row_below HX2.out hbc)
      clear hbc hacc k0 k1 k2 k3 j0 j1 j2 j3 j4 j5 j6 j7 j8 j9 j10 hz
      cases z with
      | false =>
        have hne : T ≠ o := fun e => by have := HZ.out.2 e; cases this
        have hk9 : chK ⟨id, allB, o, nilB⟩ L = 9 := by rw [HK2.out, if_pos hne]
        have cE := (HE.out.below HBC.out).s8.cell
        have HK9 := Lib.hid hk9
        clear hne hk9
        go_wp2
        go_ret
        exact chP_bad (q := 8) HK9.out H.out HBC.out
      | true =>
        have heq : T = o := HZ.out.1 rfl
        have hk0 : chK ⟨id, allB, o, nilB⟩ L = 0 := by rw [HK2.out, if_neg (fun hn => hn heq)]
        have hdrop := drop_any wc B b m L id er ⟨(HE.out.below HBC.out).s4⟩ (H.out.below HBC.out) hid
        have HD := Lib.hid hdrop
        have HK0 := Lib.hid hk0
        obtain ⟨k0, k1, k2, k3⟩ := cells4 HXC.out
        clear heq hk0 hdrop
        go_wp2_with fail
        (with_reducible refine HD.out.mono ?_)
        rintro e5 w5 ⟨rfl, hbk5, hfar5⟩
        have HBK5 := Lib.hid hbk5
        have HFAR5 := Lib.hid hfar5
        clear hbk5 hfar5 k0 k1 k2 k3
        go_wp2
        go_ret
        unfold ChP
        have hL : chL ⟨id, allB, o, nilB⟩ L = without id.data.toList L := by
          unfold chL
          rw [HK0.out]
          dsimp only
          rw [if_neg (by simp), if_pos rfl, if_pos rfl]
        rw [hL, HK0.out]
        refine ⟨?_, HBK5.out, (Far.of_below HBC.out).trans HFAR5.out⟩
        unfold dropK; rw [HQ.out]; rfl
set_option maxRecDepth 100000 in
set_option maxHeartbeats 4000000 in
theorem whole_put (w : World) (B b m : Nat) (L : List Ev) (id nw : ByteArray) (er : Nat → Addr) (n : Int) (hv : Env w er n) (he : E9 w er) (h : Book w B b m L) (hn : nw ≠ nilB) (hid : id.size ≤ 9223372036854775807) (hns : nw.size ≤ 30000) :
    Calls Tryz.prog 99 #[.pointer (some ⟨b, 0, none⟩), .agg #[.string id, .string allB, .string ⟨#[]⟩, .string nw]] w (ChP w B b m L ⟨id, allB, nilB, nw⟩ er) := by
  obtain ⟨W, hW⟩ : ∃ W, w.alloc (.cells #[.string id, .string allB, .string ⟨#[]⟩, .string nw] 55) = W := ⟨_, rfl⟩
  have hB : Below w.heap.size w W := by rw [← hW]; exact (Below.refl _ w).alloc (Nat.le_refl _) _
  have hx : W.heap[w.heap.size]? = some (.cells #[.string id, .string allB, .string ⟨#[]⟩, .string nw] 55) := by rw [← hW]; exact heap_new w _
  have hg := Bk.get_any W B b m L id (h.below hB) hid
  unfold GotE at hg
  have hK := chK_put (id := id) (L := L) hn
  have hrd := fun W (hw : Below w.heap.size w W) => read_ev nw er n W (hv.below hw) hns
  unfold ReadPost at hrd
  have hfit := readE_fit hns
  obtain ⟨x, hx'⟩ : ∃ x, foundE id.data.toList L = x := ⟨_, rfl⟩
  obtain ⟨q, hq⟩ : ∃ q, hasK id.data.toList L = q := ⟨_, rfl⟩
  obtain ⟨y, hy⟩ : ∃ y, readE nw = y := ⟨_, rfl⟩
  obtain ⟨z, hz⟩ : ∃ z, readC nw = z := ⟨_, rfl⟩
  rw [hx', hq] at hg
  rw [hq, hy, hz] at hK
  simp only [hy, hz] at hrd
  rw [hy] at hfit
  have HV := Lib.hid hv
  have HE := Lib.hid he
  have H := Lib.hid h
  have HW := Lib.hid hW
  have HB := Lib.hid hB
  have HX := Lib.hid hx
  have HG := Lib.hid hg
  have HK := Lib.hid hK
  have HRD := Lib.hid hrd
  have HFIT := Lib.hid hfit
  have HQ := Lib.hid hq
  have HYY := Lib.hid hy
  obtain ⟨k0, k1, k2, k3⟩ := cells4 hx
  obtain ⟨o1, o2⟩ := nil_no hn
  have HO := Lib.hid (And.intro o1 o2)
  have HNN := Lib.hid hn
  clear hv he h hW hB hx hg hK hrd hfit hx' hq hy hz hn
  go_enter Tryz.func99, Tryz.ntmps99
  go_upto_region 1 with fail
  rw [HW.out]
  go_wp2_with fail
  (with_reducible refine HG.out.mono ?_)
  rintro e1 w1 ⟨vd, vs, vm, rfl, hr1, _, _, _, hb1⟩
  obtain ⟨a1, c1, rfl⟩ := hr1.d.shape
  obtain ⟨a2, c2, rfl⟩ := hr1.s.shape
  obtain ⟨a3, c3, rfl⟩ := hr1.m.shape
  have HX1 := Lib.hid (row_below HX.out hb1)
  have HB1 := Lib.hid (HB.out.trans (hb1.mono HB.out.size))
  clear hb1 k0 k1 k2 k3 hr1
  go_upto_region 4 with fail
  obtain ⟨W2, hW2⟩ : ∃ W2, w1.alloc (.cells (x.cells (.slice a1 x.ru.ds.length c1) (.slice a2 x.sk.length c2) (.slice a3 x.mv.length c3)) 40) = W2 := ⟨_, rfl⟩
  have hb2 : Below w1.heap.size w1 W2 := by rw [← hW2]; exact (Below.refl _ w1).alloc (Nat.le_refl _) _
  have HB2 := Lib.hid (HB1.out.trans (hb2.mono HB1.out.size))
  have HX2 := Lib.hid (row_below HX1.out hb2)
  rw [hW2]
  clear hW2 hb2
  obtain ⟨k0, k1, k2, k3⟩ := cells4 HX2.out
  cases q with
  | true =>
    have cE := (HE.out.below HB2.out).seven.s5.cell
    go_wp2
    go_ret
    exact chP_bad (q := 5) (by rw [HK.out, if_pos (by first | trivial | rfl)]) H.out HB2.out
  | false =>
    have hK := HK.out
    rw [if_neg (by simp)] at hK
    have HK2 := Lib.hid hK
    clear hK
    go_wp2_with fail
    (with_reducible refine (HRD.out _ HB2.out).mono ?_)
    rintro e3 w3 ⟨ud, us, um, rfl, hr3, hb3⟩
    obtain ⟨b1, d1, rfl⟩ := hr3.d.shape
    obtain ⟨b2, d2, rfl⟩ := hr3.s.shape
    obtain ⟨b3, d3, rfl⟩ := hr3.m.shape
    have HX3 := Lib.hid (row_below HX2.out hb3)
    have HB3 := Lib.hid (HB2.out.trans (hb3.mono HB2.out.size))
    obtain ⟨W4, hW4⟩ : ∃ W4, w3.alloc (.cells (y.cells (.slice b1 y.ru.ds.length d1) (.slice b2 y.sk.length d2) (.slice b3 y.mv.length d3)) 40) = W4 := ⟨_, rfl⟩
    have hb4 : Below w3.heap.size w3 W4 := by rw [← hW4]; exact (Below.refl _ w3).alloc (Nat.le_refl _) _
    have hy4 : W4.heap[w3.heap.size]? = some (.cells (y.cells (.slice b1 y.ru.ds.length d1) (.slice b2 y.sk.length d2) (.slice b3 y.mv.length d3)) 40) := by rw [← hW4]; exact heap_new w3 _
    have HB4 := Lib.hid (HB3.out.trans (hb4.mono HB3.out.size))
    have HX4 := Lib.hid (row_below HX3.out hb4)
    have HY4 := Lib.hid hy4
    have HR4 := Lib.hid (hr3.below hb4)
    have HW4 := Lib.hid hW4
    clear hb3 k0 k1 k2 k3 hW4 hb4 hy4 hr3
    cases z with
    | succ z =>
      have hkz : chK ⟨id, allB, nilB, nw⟩ L = z + 1 := by rw [HK2.out, if_pos (by simp)]
      have HKZ := Lib.hid hkz
      simp only [errV]
      clear hkz
      go_upto_region 13 with fail
      rw [HW4.out]
      go_wp2
      go_ret
      exact chP_bad (q := z) HKZ.out H.out HB4.out
    | zero =>
      have hK := HK2.out
      rw [if_neg (by simp)] at hK
      have HK3 := Lib.hid hK
      simp only [errV]
      clear hK
      go_upto_region 13 with fail
      rw [HW4.out]
      obtain ⟨k0, k1, k2, k3⟩ := cells4 HX4.out
      obtain ⟨j0, j1, j2, j3, j4, j5, j6, j7, j8, j9, j10⟩ := cells11 HY4.out
      by_cases hi : y.id = id
      · have h2 : (y.id.toList == id.toList) = true := by rw [hi]; exact beq_self_eq_true _
        have hK := HK3.out
        rw [if_neg (fun hne => hne hi)] at hK
        have HK4 := Lib.hid hK
        have hput := put_any W4 B b m L y _ _ _ er ((HE.out.below HB4.out).seven) (H.out.below HB4.out) HR4.out HFIT.out
        unfold PutP at hput
        have HPUT := Lib.hid hput
        clear hK hput hi
        go_wp2_with fail
        (with_reducible refine HPUT.out.mono ?_)
        rintro e5 w5 ⟨rfl, hbk5, hfar5⟩
        have HBK5 := Lib.hid hbk5
        have HFAR5 := Lib.hid hfar5
        clear hbk5 hfar5 k0 k1 k2 k3 j0 j1 j2 j3 j4 j5 j6 j7 j8 j9 j10
        go_wp2
        go_ret
        unfold ChP
        have hL : chL ⟨id, allB, nilB, nw⟩ L = putL y L := by
          unfold chL putL
          rw [HK4.out]
          dsimp only
          rw [if_pos rfl, if_neg HNN.out, HYY.out]
          by_cases h0 : putK y L = 0
          · rw [if_neg (by rw [h0]; simp), if_pos h0]
          · rw [if_pos h0, if_neg h0]
        rw [hL, HK4.out]
        exact ⟨rfl, HBK5.out, (Far.of_below HB4.out).trans HFAR5.out⟩
      · have h2 : (y.id.toList == id.toList) = false := Tx.ba_ne hi
        have hk4 : chK ⟨id, allB, nilB, nw⟩ L = 4 := by rw [HK3.out, if_pos hi]
        have HK4 := Lib.hid hk4
        have cE := (HE.out.below HB4.out).seven.s3.cell
        clear hi hk4
        go_wp2
        go_ret
        exact chP_bad (q := 3) HK4.out H.out HB4.out
theorem whole_any (w : World) (B b m : Nat) (L : List Ev) (c : Chg) (er : Nat → Addr) (n : Int) (hv : Env w er n) (he : E9 w er) (h : Book w B b m L) (hf : c.fi = allB) (hid : c.id.size ≤ 9223372036854775807) (hns : c.new.size ≤ 30000) :
    Calls Tryz.prog 99 #[.pointer (some ⟨b, 0, none⟩), .agg c.cells] w (ChP w B b m L c er) := by
  obtain ⟨id, fi, o, nw⟩ := c
  change fi = allB at hf
  subst hf
  by_cases ho : o = nilB
  · by_cases hn : nw = nilB
    · exact whole_shape w B b m L id o nw er he h (by rw [decide_eq_true ho, decide_eq_true hn])
    · subst ho
      exact whole_put w B b m L id nw er n hv he h hn hid hns
  · by_cases hn : nw = nilB
    · subst hn
      exact whole_drop w B b m L id o er hv.tab he h ho hid
    · exact whole_shape w B b m L id o nw er he h (by rw [decide_eq_false ho, decide_eq_false hn])
end Df
end Go.Proofs.YtghkalamlcfnnaaGreatDoor
end
section
namespace Go.Proofs.YtghkalamlcfnnaaGreatDoor
open Go Go.RowKit Go.Shelf Lmd
attribute [local go_sem] Oper.semAt_some
namespace Df
open Evt Bk Tp Rul Day Cand Er
theorem known_any (W : World) (g : Nat) (f : ByteArray) (h : W.heap[g]? = some (.cells fieldsV 9)) :
    Calls Tryz.prog 100 #[.slice (some ⟨g, 0, none⟩) 6 6, .string f] W fun e w' => e = .returned (.bool (decide (f ∈ fieldL))) ∧ w' = W := by
  refine (Tryz.slices_Contains_string g 0 6 6 fieldL f W (Nat.le_refl _) (by decide) (fun j hj => ?_)).mono fun _ _ ⟨h1, h2⟩ => ⟨?_, h2⟩
  · rw [Nat.zero_add]; exact field_cell h hj
  · rw [h1, show fieldL.take 6 = fieldL from rfl]
    congr 2
    rw [Bool.eq_iff_iff, Lib.containsS_iff, decide_eq_true_eq]
theorem chK_unknown {c : Chg} {L : List Ev} (h1 : c.fi ≠ allB) (h2 : c.fi ∉ fieldL) : chK c L = 4 := by
  unfold chK; rw [if_neg h1, if_pos h2]
theorem chK_field {c : Chg} {L : List Ev} (h1 : c.fi ≠ allB) (h2 : c.fi ∈ fieldL) : chK c L = if hasK c.k L = false then 5 else if getL (foundE c.k L) c.fi ≠ c.old then 9 else if setC (foundE c.k L) c.fi c.new ≠ 0 then setC (foundE c.k L) c.fi c.new else putK (setE (foundE c.k L) c.fi c.new) L := by
  unfold chK; rw [if_neg h1, if_neg (fun h => h h2)]
set_option maxRecDepth 100000 in
set_option maxHeartbeats 8000000 in
theorem field_any (w : World) (B b m : Nat) (L : List Ev) (c : Chg) (er : Nat → Addr) (n : Int) (hv : Env w er n) (he : E9 w er) (h : Book w B b m L) (hf : c.fi ≠ allB) (hid : c.id.size ≤ 9223372036854775807) (hns : c.new.size ≤ 30000) :
    Calls Tryz.prog 60 #[.pointer (some ⟨b, 0, none⟩), .agg c.cells] w (ChP w B b m L c er) := by
  have hK1 := fun h2 => chK_unknown (L := L) hf h2
  have hK2 := fun h2 => chK_field (L := L) hf h2
  have hfit := foundE_fit h c.k
  have hbad : hasK c.k L = true → badE (foundE c.k L) = 0 := fun hh => h.good _ (foundE_has hh).1
  have hgt := fun W (hw : Below w.heap.size w W) => Bk.get_any W B b m L c.id (h.below hw) hid
  unfold GotE at hgt
  have hcl : chK c L = 0 → chL c L = withE (setE (foundE c.k L) c.fi c.new) L := fun h0 => by
    unfold chL; rw [if_neg (by rw [h0]; simp), if_neg hf]
  obtain ⟨id, fi, old, nw⟩ := c
  dsimp only at hf hid hns hfit hbad hgt
  change fi ∉ fieldL → _ at hK1
  change fi ∈ fieldL → chK _ L = if hasK id.data.toList L = false then 5 else if getL (foundE id.data.toList L) fi ≠ old then 9 else if setC (foundE id.data.toList L) fi nw ≠ 0 then setC (foundE id.data.toList L) fi nw else putK (setE (foundE id.data.toList L) fi nw) L at hK2
  change _ → chL _ L = withE (setE (foundE id.data.toList L) fi nw) L at hcl
  obtain ⟨W, hW⟩ : ∃ W, w.alloc (.cells #[.string id, .string fi, .string old, .string nw] 55) = W := ⟨_, rfl⟩
  have hB : Below w.heap.size w W := by rw [← hW]; exact (Below.refl _ w).alloc (Nat.le_refl _) _
  have hx : W.heap[w.heap.size]? = some (.cells #[.string id, .string fi, .string old, .string nw] 55) := by rw [← hW]; exact heap_new w _
  obtain ⟨x, hx'⟩ : ∃ x, foundE id.data.toList L = x := ⟨_, rfl⟩
  obtain ⟨q, hq⟩ : ∃ q, hasK id.data.toList L = q := ⟨_, rfl⟩
  simp only [hx', hq] at hgt
  rw [hx', hq] at hbad hK2
  rw [hx'] at hfit hcl
  have hal : (fi.toList == [97, 108, 108]) = false := by
    rw [beq_eq_false_iff_ne, ByteArray.toList_eq]
    intro e
    exact hf (by rw [str_mk fi, e]; rfl)
  have HV := Lib.hid hv
  have HE := Lib.hid he
  have H := Lib.hid h
  have HW := Lib.hid hW
  have HB := Lib.hid hB
  have HX := Lib.hid hx
  have HG := Lib.hid hgt
  have HK1 := Lib.hid hK1
  have HK2 := Lib.hid hK2
  have HFIT := Lib.hid hfit
  have HBAD := Lib.hid hbad
  have HCL := Lib.hid hcl
  obtain ⟨k0, k1, k2, k3⟩ := cells4 hx
  clear hv he h hW hB hx hgt hK1 hK2 hfit hbad hcl hx' hq hf
  go_enter Tryz.func60, Tryz.ntmps60
  go_upto_region 1 with fail
  rw [HW.out]
  obtain ⟨kn, hkn⟩ : ∃ z, decide (fi ∈ fieldL) = z := ⟨_, rfl⟩
  have hacc : Below W.heap.size W W.drew := Tp.below_drew (Below.refl _ W)
  have HFL := Lib.hid (fun W' => fields_low W')
  have HKA := Lib.hid (fun (W' : World) (g : Nat) (h : W'.heap[g]? = some (.cells fieldsV 9)) => by have := known_any W' g fi h; rw [hkn] at this; exact this)
  have HKN := Lib.hid hkn
  clear hkn
  go_upto_region 3 with fail
  go_cut [19] from 15 (fun s wc => s = .bool (!kn) ∧ Below W.heap.size W wc)
  case first =>
    go_region_with (first
      | ((with_reducible refine (HFL.out _).mono ?_)
         rintro e2 w2 ⟨rfl, hf2, hb2⟩
         replace hacc := hacc.trans (hb2.mono hacc.size)
         obtain ⟨u0, u1, u2, u3⟩ := cells4 (row_below HX.out hacc)
         have HKB := Lib.hid (HKA.out w2 W.heap.size hf2)
         have HKC := Lib.hid (HKA.out w2.drew W.heap.size hf2)
         clear hf2 hb2)
      | ((with_reducible refine HKB.out.mono ?_)
         rintro e3 w3 ⟨rfl, rfl⟩)
      | ((with_reducible refine HKC.out.mono ?_)
         rintro e3 w3 ⟨rfl, rfl⟩))
    all_goals (
      go_wp2_with fail
      go_meet
      exact ⟨rfl, hacc⟩)
  case rest =>
    obtain ⟨rfl, hbc⟩ := hcut
    have HB2 := Lib.hid (HB.out.trans (hbc.mono HB.out.size))
    have HX2 := Lib.hid (row_below HX.out hbc)
    clear hbc hacc k0 k1 k2 k3
    obtain ⟨k0, k1, k2, k3⟩ := cells4 HX2.out
    cases kn with
    | false =>
      have cE := (HE.out.below HB2.out).seven.s3.cell
      go_wp2
      go_ret
      exact chP_bad (q := 3) (HK1.out (of_decide_eq_false HKN.out)) H.out HB2.out
    | true =>
      have hK := HK2.out (of_decide_eq_true HKN.out)
      have HK3 := Lib.hid hK
      clear hK
      go_wp2_with fail
      (with_reducible refine (HG.out _ HB2.out).mono ?_)
      rintro e3 w3 ⟨vd, vs, vm, rfl, hr3, _, _, _, hb3⟩
      obtain ⟨a1, c1, rfl⟩ := hr3.d.shape
      obtain ⟨a2, c2, rfl⟩ := hr3.s.shape
      obtain ⟨a3, c3, rfl⟩ := hr3.m.shape
      have HX3 := Lib.hid (row_below HX2.out hb3)
      have HB3 := Lib.hid (HB2.out.trans (hb3.mono HB2.out.size))
      clear hb3 k0 k1 k2 k3
      go_upto_region 6 with fail
      obtain ⟨W4, hW4⟩ : ∃ W4, w3.alloc (.cells (x.cells (.slice a1 x.ru.ds.length c1) (.slice a2 x.sk.length c2) (.slice a3 x.mv.length c3)) 40) = W4 := ⟨_, rfl⟩
      have hb4 : Below w3.heap.size w3 W4 := by rw [← hW4]; exact (Below.refl _ w3).alloc (Nat.le_refl _) _
      have hy4 : W4.heap[w3.heap.size]? = some (.cells (x.cells (.slice a1 x.ru.ds.length c1) (.slice a2 x.sk.length c2) (.slice a3 x.mv.length c3)) 40) := by rw [← hW4]; exact heap_new w3 _
      have HB4 := Lib.hid (HB3.out.trans (hb4.mono HB3.out.size))
      have HX4 := Lib.hid (row_below HX3.out hb4)
      have HY4 := Lib.hid hy4
      have HR4 := Lib.hid (hr3.below hb4)
      rw [hW4]
      clear hW4 hb4 hy4 hr3
      cases q with
      | false =>
        have cE := (HE.out.below HB4.out).s4.cell
        go_wp2
        go_ret
        exact chP_bad (q := 4) (by rw [HK3.out, if_pos (by first | trivial | rfl)]) H.out HB4.out
      | true =>
        have hK := HK3.out
        rw [if_neg (by simp)] at hK
        have hget := fun W (hw : Below W4.heap.size W4 W) => getF_any x _ _ _ fi er W ((HV.out.below HB4.out).tb.below hw) (HR4.out.below hw) HFIT.out (HBAD.out rfl)
        obtain ⟨T, hT⟩ : ∃ T, getL x fi = T := ⟨_, rfl⟩
        simp only [hT] at hget
        rw [hT] at hK
        have HGET := Lib.hid hget
        have HK4 := Lib.hid hK
        have hacc : Below W4.heap.size W4 W4.drew := Tp.below_drew (Below.refl _ W4)
        obtain ⟨k0, k1, k2, k3⟩ := cells4 HX4.out
        obtain ⟨j0, j1, j2, j3, j4, j5, j6, j7, j8, j9, j10⟩ := cells11 HY4.out
        have hcmp : ∃ z : Bool, (T.toList == old.toList) = z ∧ (z = true ↔ T = old) := ⟨_, rfl, by
          rw [beq_iff_eq, ByteArray.toList_eq, ByteArray.toList_eq]
          exact ⟨fun e => by rw [str_mk T, str_mk old, e], fun e => by rw [e]⟩⟩
        obtain ⟨z, hz, hzo⟩ := hcmp
        have HZ := Lib.hid hzo
        clear hget hT hK hzo
        go_upto_region 8 with fail
        go_cut [32] from 32 (fun s wc => s = .bool (!z) ∧ Below W4.heap.size W4 wc)
        case first =>
          go_region_with (first
            | ((with_reducible refine (HGET.out _ hacc).mono ?_)
               rintro e5 w5 ⟨rfl, hb5⟩
               replace hacc := hacc.trans (hb5.mono hacc.size)
               obtain ⟨u0, u1, u2, u3⟩ := cells4 (row_below HX4.out hacc)
               clear hb5))
          all_goals (
            go_wp2_with fail
            go_meet
            exact ⟨rfl, hacc⟩)
        case rest =>
          obtain ⟨rfl, hbc⟩ := hcut
          have HB5 := Lib.hid (HB4.out.trans (hbc.mono HB4.out.size))
          have HX5 := Lib.hid (row_below HX4.out hbc)
          have HY5 := Lib.hid (row_below HY4.out hbc)
          have HR5 := Lib.hid (HR4.out.below hbc)
          clear hbc hacc k0 k1 k2 k3 j0 j1 j2 j3 j4 j5 j6 j7 j8 j9 j10 hz
          obtain ⟨k0, k1, k2, k3⟩ := cells4 HX5.out
          obtain ⟨j0, j1, j2, j3, j4, j5, j6, j7, j8, j9, j10⟩ := cells11 HY5.out
          cases z with
          | false =>
            have hne : T ≠ old := fun e => by have := HZ.out.2 e; cases this
            have cE := (HE.out.below HB5.out).s8.cell
            have HNE := Lib.hid hne
            clear hne
            go_wp2
            go_ret
            exact chP_bad (q := 8) (by rw [HK4.out, if_pos HNE.out]) H.out HB5.out
          | true =>
            have hK := HK4.out
            rw [if_neg (fun hn => hn (HZ.out.1 rfl))] at hK
            have hset := set_any x _ _ _ fi nw er n wc (HV.out.below HB5.out) HR5.out HFIT.out hns
            unfold SetPost at hset
            have hfit2 := setE_size HFIT.out fi hns
            obtain ⟨y, hy⟩ : ∃ y, setE x fi nw = y := ⟨_, rfl⟩
            obtain ⟨sc, hsc⟩ : ∃ sc, setC x fi nw = sc := ⟨_, rfl⟩
            have hcl := HCL.out
            rw [hy, hsc] at hset hK
            rw [hy] at hfit2 hcl
            have HK5 := Lib.hid hK
            have HSET := Lib.hid hset
            have HFIT2 := Lib.hid hfit2
            have HCL2 := Lib.hid hcl
            clear hK hset hfit2 hy hsc hcl
            go_wp2_with fail
            (with_reducible refine HSET.out.mono ?_)
            rintro e6 w6 ⟨ud, us, um, rfl, hr6, _, hb6⟩
            obtain ⟨b1, d1, rfl⟩ := hr6.d.shape
            obtain ⟨b2, d2, rfl⟩ := hr6.s.shape
            obtain ⟨b3, d3, rfl⟩ := hr6.m.shape
            have HB6 := Lib.hid (HB5.out.trans (hb6.mono HB5.out.size))
            clear hb6 k0 k1 k2 k3 j0 j1 j2 j3 j4 j5 j6 j7 j8 j9 j10
            go_upto_region 11 with fail
            obtain ⟨W7, hW7⟩ : ∃ W7, w6.alloc (.cells (y.cells (.slice b1 y.ru.ds.length d1) (.slice b2 y.sk.length d2) (.slice b3 y.mv.length d3)) 40) = W7 := ⟨_, rfl⟩
            have hb7 : Below w6.heap.size w6 W7 := by rw [← hW7]; exact (Below.refl _ w6).alloc (Nat.le_refl _) _
            have hy7 : W7.heap[w6.heap.size]? = some (.cells (y.cells (.slice b1 y.ru.ds.length d1) (.slice b2 y.sk.length d2) (.slice b3 y.mv.length d3)) 40) := by rw [← hW7]; exact heap_new w6 _
            have HB7 := Lib.hid (HB6.out.trans (hb7.mono HB6.out.size))
            have HR7 := Lib.hid (hr6.below hb7)
            rw [hW7]
            clear hW7 hb7 hr6
            cases sc with
            | succ s =>
              have hks : chK ⟨id, fi, old, nw⟩ L = s + 1 := by rw [HK5.out, if_pos (by simp)]
              have HKS := Lib.hid hks
              simp only [errV]
              clear hks hy7
              go_wp2
              go_ret
              exact chP_bad (q := s) HKS.out H.out HB7.out
            | zero =>
              have hK := HK5.out
              rw [if_neg (by simp)] at hK
              have hput := put_any W7 B b m L y _ _ _ er ((HE.out.below HB7.out).seven) (H.out.below HB7.out) HR7.out HFIT2.out
              unfold PutP at hput
              have HK6 := Lib.hid hK
              have HPUT := Lib.hid hput
              obtain ⟨j0, j1, j2, j3, j4, j5, j6, j7, j8, j9, j10⟩ := cells11 hy7
              simp only [errV]
              clear hK hput hy7
              go_wp2_with fail
              (with_reducible refine HPUT.out.mono ?_)
              rintro e8 w8 ⟨rfl, hbk8, hfar8⟩
              have HBK8 := Lib.hid hbk8
              have HFAR8 := Lib.hid hfar8
              clear hbk8 hfar8 j0 j1 j2 j3 j4 j5 j6 j7 j8 j9 j10
              go_wp2
              go_ret
              unfold ChP
              have hL : chL ⟨id, fi, old, nw⟩ L = putL y L := by
                unfold putL
                by_cases h0 : putK y L = 0
                · rw [if_pos h0]; exact HCL2.out (HK6.out.trans h0)
                · rw [if_neg h0]; unfold chL; rw [if_pos (by rw [HK6.out]; exact h0)]
              rw [hL, HK6.out]
              exact ⟨rfl, HBK8.out, (Far.of_below HB7.out).trans HFAR8.out⟩
set_option maxRecDepth 100000 in
set_option maxHeartbeats 4000000 in
theorem change_any (w : World) (B b m : Nat) (L : List Ev) (c : Chg) (er : Nat → Addr) (n : Int) (hv : Env w er n) (he : E9 w er) (h : Book w B b m L) (hid : c.id.size ≤ 9223372036854775807) (hns : c.new.size ≤ 30000) :
    Calls Tryz.prog 60 #[.pointer (some ⟨b, 0, none⟩), .agg c.cells] w (ChP w B b m L c er) := by
  by_cases hf : c.fi = allB
  · obtain ⟨W, hW⟩ : ∃ W, w.alloc (.cells c.cells 55) = W := ⟨_, rfl⟩
    have hB : Below w.heap.size w W := by rw [← hW]; exact (Below.refl _ w).alloc (Nat.le_refl _) _
    have hx : W.heap[w.heap.size]? = some (.cells c.cells 55) := by rw [← hW]; exact heap_new w _
    have hwh := whole_any W B b m L c er n (hv.below hB) (he.below hB) (h.below hB) hf hid hns
    unfold ChP at hwh ⊢
    obtain ⟨id, fi, old, nw⟩ := c
    change fi = allB at hf
    subst hf
    obtain ⟨K, hK⟩ : ∃ K, chK ⟨id, allB, old, nw⟩ L = K := ⟨_, rfl⟩
    rw [hK] at hwh ⊢
    have HW := Lib.hid hW
    have HB := Lib.hid hB
    have HWH := Lib.hid (show Calls Tryz.prog 99 #[.pointer (some ⟨b, 0, none⟩), .agg #[.string id, .string ⟨#[97, 108, 108]⟩, .string old, .string nw]] W _ from hwh)
    obtain ⟨k0, k1, k2, k3⟩ := cells4 hx
    unfold allB at k1
    clear hW hB hx hwh hK hv he h
    go_enter Tryz.func60, Tryz.ntmps60
    go_upto_region 1 with fail
    rw [HW.out]
    go_wp2_with fail
    (with_reducible refine HWH.out.mono ?_)
    rintro e1 w1 ⟨rfl, hbk, hfar⟩
    have HBK := Lib.hid hbk
    have HFAR := Lib.hid hfar
    clear hbk hfar k0 k1 k2 k3
    go_wp2
    go_ret
    exact ⟨rfl, HBK.out, (Far.of_below HB.out).trans HFAR.out⟩
  · exact field_any w B b m L c er n hv he h hf hid hns
end Df
end Go.Proofs.YtghkalamlcfnnaaGreatDoor
end
section
namespace Go.Proofs.YtghkalamlcfnnaaGreatDoor
open Go Go.RowKit Go.Shelf Lmd
attribute [local go_sem] Oper.semAt_some
namespace Df
open Evt Bk Tp Rul Day Cand Er
def ApP (w : World) (a : List Ev) (cs : List Chg) (er : Nat → Addr) (r : Ending) (w' : World) : Prop :=
  Below w.heap.size w w' ∧ (if (apL 0 a cs).1 = 0 then ∃ B, w.heap.size ≤ B ∧ r = .returned (.tuple #[.pointer (some ⟨B + 1, 0, none⟩), .nilIface]) ∧ Book w' B (B + 1) B (apL 0 a cs).2.2
    else ∃ f, r = .returned (.tuple #[.pointer none, .iface 110 (.pointer (some ⟨f, 0, none⟩))]) ∧ w'.heap[f]? = some (.cells #[.int .i64 ((apL 0 a cs).2.1 : Nat), errV er (apL 0 a cs).1] 112 (0, 0)))
structure ApAt (w : World) (a : List Ev) (cs : List Chg) (B k : Nat) (L : List Ev) (W : World) : Prop where
  rel : apL 0 a cs = apL k L (cs.drop k)
  book : Book W B (B + 1) B L
  low : Below w.heap.size w W
theorem ap_none {w W : World} {a L : List Ev} {cs : List Chg} {er : Nat → Addr} {q k f : Nat} (h : apL 0 a cs = (q + 1, k, L)) (hb : Below w.heap.size w W) (hx : W.heap[f]? = some (.cells #[.int .i64 (k : Int), errV er (q + 1)] 112 (0, 0))) :
    ApP w a cs er (.returned (.tuple #[.pointer none, .iface 110 (.pointer (some ⟨f, 0, none⟩))])) W := by
  refine ⟨hb, ?_⟩
  rw [h, if_neg (by simp)]
  exact ⟨f, rfl, hx⟩
set_option maxRecDepth 100000 in
set_option maxHeartbeats 8000000 in
theorem apply_any (w : World) (B0 : Nat) (p : Option Addr) (a : List Ev) (cs : List Chg) (v : Value) (er : Nat → Addr) (n0 : Int) (hv : Env w er n0) (he : E9 w er) (ha : BookO w B0 p a) (hc : CReads w v cs) (hcl : cs.length ≤ 100000)
    (hcs : ∀ c ∈ cs, c.id.size ≤ 9223372036854775807 ∧ c.new.size ≤ 30000) :
    Calls Tryz.prog 23 #[.pointer p, v] w (ApP w a cs er) := by
  obtain ⟨va, vc, rfl⟩ := hc.shape
  obtain ⟨n, hn⟩ : ∃ n, cs.length = n := ⟨_, rfl⟩
  rw [hn] at hc hcl ⊢
  have HV := Lib.hid hv
  have HE := Lib.hid he
  have HC := Lib.hid hc
  have HCS := Lib.hid hcs
  have HN := Lib.hid hn
  have HNEW := Lib.hid (new_any w)
  have HA := Lib.hid ha
  clear hv he hc hcs hn ha
  go_enter Tryz.func23, Tryz.ntmps23
  go_wp2_with fail
  (with_reducible refine HNEW.out.mono ?_)
  rintro e1 w1 ⟨rfl, hbk1, hb1⟩
  have HBK1 := Lib.hid hbk1
  have HB1 := Lib.hid hb1
  clear hbk1 hb1
  go_upto_if 12 with fail
  go_cut [6] from 6 (fun s6 wc => ∃ B, w.heap.size ≤ B ∧ s6 = .pointer (some ⟨B + 1, 0, none⟩) ∧ Book wc B (B + 1) B a ∧ Below w.heap.size w wc)
  case first =>
    rcases HA.out with ⟨rfl, rfl⟩ | ⟨b, m, rfl, hk⟩
    · go_wp2_with fail
      go_meet
      exact ⟨w.heap.size, Nat.le_refl _, rfl, HBK1.out, HB1.out⟩
    · have HCP := Lib.hid (copy_any w1 B0 b m a (hk.below HB1.out))
      clear hk
      go_wp2_with fail
      (with_reducible refine HCP.out.mono ?_)
      rintro e2 w2 ⟨rfl, hbk2, hb2⟩
      have HBK2 := Lib.hid hbk2
      have HB2 := Lib.hid hb2
      clear hbk2 hb2
      go_wp2_with fail
      go_meet
      exact ⟨w1.heap.size, HB1.out.size, rfl, HBK2.out, HB1.out.trans (HB2.out.mono HB1.out.size)⟩
  case rest =>
    obtain ⟨B, hB, rfl, hbk, hlow⟩ := hcut
    have HBK := Lib.hid hbk
    have HLOW := Lib.hid hlow
    have hBs := hbk.ltm
    clear hbk hlow HA HNEW
    go_wp2_with fail
    go_loopw [7, 8, 9, 17] (fun _ _ _ i wr => ∃ (k : Nat) (L : List Ev), k ≤ n ∧ i = .int .i64 (k : Int) ∧ ApAt w a cs B k L wr) (fun _ _ _ i _ => n - (intOf i).toNat)
    case atStart => exact ⟨0, a, Nat.zero_le _, rfl, rfl, HBK.out, HLOW.out⟩
    case round =>
      obtain ⟨k, L, hk, rfl, hat⟩ := hrel
      have HAT := Lib.hid hat
      clear hat
      by_cases hlt : k < n
      · have hlc : k < cs.length := by rw [HN.out]; exact hlt
        have hdr := elc_drop hlc
        have hrel := HAT.out.rel
        rw [hdr] at hrel
        obtain ⟨hid, hns⟩ := HCS.out _ (elc_mem hlc)
        obtain ⟨-, b0, off, ea, hcc⟩ := (HC.out.below HAT.out.low).at (by intro h; rw [h] at hlc; exact absurd hlc (Nat.not_lt_zero _))
        subst ea
        obtain ⟨c0, c1, c2, c3⟩ := hcc k hlc
        obtain ⟨c, hcx⟩ : ∃ c, elc cs k = c := ⟨_, rfl⟩
        rw [hcx] at hrel hid hns c0 c1 c2 c3
        obtain ⟨W2, hW2⟩ : ∃ W2, wr.alloc (.cells c.cells 55) = W2 := ⟨_, rfl⟩
        have hb2 : Below wr.heap.size wr W2 := by rw [← hW2]; exact (Below.refl _ wr).alloc (Nat.le_refl _) _
        have hx2 : W2.heap[wr.heap.size]? = some (.cells c.cells 55) := by rw [← hW2]; exact heap_new wr _
        have hlow2 := HAT.out.low.trans (hb2.mono HAT.out.low.size)
        have hch := change_any W2 B (B + 1) B L c er n0 (HV.out.below hlow2) (HE.out.below hlow2) (HAT.out.book.below hb2) hid hns
        unfold ChP at hch
        obtain ⟨q, hq⟩ : ∃ q, chK c L = q := ⟨_, rfl⟩
        rw [hq] at hch
        have HREL := Lib.hid hrel
        have HQ := Lib.hid hq
        have HCH := Lib.hid hch
        have HLOW2 := Lib.hid hlow2
        have HW2 := Lib.hid hW2
        have hk1 : k ≤ 100000 := by omega
        obtain ⟨k0, k1, k2, k3⟩ := cells4 hx2
        obtain ⟨id, fi, old, nw⟩ := c
        dsimp only at c0 c1 c2 c3
        clear hdr hrel hcc hcx hb2 hlow2 hch hq hid hns hW2 hx2
        go_upto_region 7 with fail
        rw [HW2.out]
        clear c0 c1 c2 c3
        go_wp2_with fail
        (with_reducible refine HCH.out.mono ?_)
        rintro e3 w3 ⟨rfl, hbk3, hfar3⟩
        have HBK3 := Lib.hid hbk3
        have HLOW3 := Lib.hid (HLOW2.out.trans (hfar3.below (fun _ h => by omega) HLOW2.out.size))
        clear hbk3 hfar3 k0 k1 k2 k3
        cases q with
        | succ q =>
          have hr : apL 0 a cs = (q + 1, k, L) := by
            rw [HREL.out]; unfold apL; rw [HQ.out, if_pos (by simp)]
          have HR := Lib.hid hr
          simp only [errV]
          clear hr
          go_wp2
          go_ret2
          exact ap_none HR.out (HLOW3.out.alloc HLOW3.out.size _) (heap_new w3 _)
        | zero =>
          simp only [errV]
          go_wp2_with fail
          go_roundw
          case rel =>
            refine ⟨k + 1, chL ⟨id, fi, old, nw⟩ L, by omega, by go_num, ?_, HBK3.out, HLOW3.out⟩
            rw [HREL.out]
            show (if chK _ L ≠ 0 then _ else _) = _
            rw [HQ.out, if_neg (by simp)]
          case measure => simp [intOf]; omega
      · obtain rfl : k = n := by omega
        go_wp2
        go_ret2
        refine ⟨HAT.out.low, ?_⟩
        have hr := HAT.out.rel
        rw [List.drop_eq_nil_of_le (by rw [HN.out]; exact Nat.le_refl _)] at hr
        change _ = (0, k, L) at hr
        rw [hr, if_pos rfl]
        exact ⟨B, hB, rfl, HAT.out.book⟩
end Df
end Go.Proofs.YtghkalamlcfnnaaGreatDoor
end
