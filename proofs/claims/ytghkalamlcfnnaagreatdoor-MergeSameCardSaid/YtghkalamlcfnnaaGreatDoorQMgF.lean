/- package merge: field. -/
import Derived.Test.YtghkalamlcfnnaaGreatDoorQMgC
import Derived.Test.YtghkalamlcfnnaaGreatDoorQMgE
import Derived.Test.YtghkalamlcfnnaaGreatDoorQDfOne
import Derived.BigQuiet
import Derived.Deep.RegionHeld3
import Derived.Deep.CutRange
import Derived.Deep.DeepCutAuto
namespace Go.Proofs.YtghkalamlcfnnaaGreatDoor
open Go Go.RowKit Go.Shelf Lmd
attribute [local go_sem] Oper.semAt_some
namespace Mg
open Evt Bk Df Rul Day Cand Er Tp
theorem good_lists {e : Ev} (h : badE e = 0) : e.sk.length ≤ 20 ∧ e.mv.length ≤ 20 ∧ (froms e.mv).Nodup ∧ (∀ m ∈ e.mv, InD m.1 ∧ InD m.2) ∧ (∀ d ∈ e.sk, 0 ≤ d) ∧ ∀ d ∈ froms e.mv, 0 ≤ d := by
  obtain ⟨_, _, _, _, _, hl⟩ := badE_zero h
  obtain ⟨h1, h2, _, h4, h5, h6, _⟩ := badL_zero hl
  have hr : ∀ {d : Int}, rightB d = true → 0 ≤ d ∧ d ≤ 73048 := fun {d} h => by simpa [rightB, inB] using h
  have hm : ∀ m ∈ e.mv, rightB m.1 = true ∧ rightB m.2 = true := fun m hm => by
    have := List.all_eq_true.1 h6 m hm
    rwa [Bool.and_eq_true] at this
  refine ⟨h1, h2, (rise_pairwise h4).imp fun {a b} (h : a < b) (e : a = b) => by omega, fun m hmm => ?_, fun d hd => (hr (List.all_eq_true.1 h5 d hd)).1, fun d hd => ?_⟩
  · have a := hr (hm m hmm).1
    have b := hr (hm m hmm).2
    exact ⟨⟨by omega, by omega⟩, ⟨by omega, by omega⟩⟩
  · obtain ⟨m, hmm, rfl⟩ := List.mem_map.1 hd
    exact (hr (hm m hmm).1).1
def FieldP (w : World) (c : Nat) (o : Ev) (b : Bool) (S : Nat → Prop) (r : Ending) (w' : World) : Prop := r = .returned (.bool b) ∧ (∃ vd vs vm, OutB w' c o vd vs vm ∧ ∀ g, S g → OffT g vd vs vm) ∧ Far (fun k => k = c) w w'
theorem fld_keep {x y z : Ev} {f : ByteArray} (o : Ev) (h1 : (pk x y z f).2 = true) (h2 : (pk x y z f).1 = getL y f) : fld x y z f o = (o, true) := by unfold fld; rw [if_pos h1, if_pos h2]
theorem fld_take {x y z : Ev} {f : ByteArray} (o : Ev) (h1 : (pk x y z f).2 = true) (h2 : (pk x y z f).1 ≠ getL y f) : fld x y z f o = (takeE f z o, true) := by unfold fld; rw [if_pos h1, if_neg h2]
theorem fld_skips {x y z : Ev} {f : ByteArray} (o : Ev) (h1 : (pk x y z f).2 = false) (h2 : f = fSkips) : fld x y z f o = ({ o with sk := skM x.sk y.sk z.sk }, true) := by unfold fld; rw [if_neg (by rw [h1]; simp), if_pos h2]
theorem fld_moves {x y z : Ev} {f : ByteArray} (o : Ev) (h1 : (pk x y z f).2 = false) (h2 : f = fMoves) : fld x y z f o = ({ o with mv := (mvM x.mv y.mv z.mv).1 }, (mvM x.mv y.mv z.mv).2) := by
  unfold fld
  rw [if_neg (by rw [h1]; simp), if_neg (by rw [h2]; intro e; have := congrArg ByteArray.toList e; rw [tlM, tlK] at this; exact absurd this (by decide)), if_pos h2]
theorem fld_none {x y z : Ev} {f : ByteArray} (o : Ev) (h1 : (pk x y z f).2 = false) (h2 : f ≠ fSkips) (h3 : f ≠ fMoves) : fld x y z f o = (o, false) := by unfold fld; rw [if_neg (by rw [h1]; simp), if_neg h2, if_neg h3]
set_option maxRecDepth 100000 in
set_option maxHeartbeats 16000000 in
theorem field_any (f : ByteArray) (ex ey ez : Ev) (xd xs xm yd ys ym zd zs zm : Value) (c : Nat) (o : Ev) (vd vs vm : Value) (er : Nat → Addr) (w : World) (hT : Tb w er) (hx : Rv w ex xd xs xm) (hy : Rv w ey yd ys ym) (hz : Rv w ez zd zs zm)
    (sx : Size ex) (sy : Size ey) (sz : Size ez) (gx : badE ex = 0) (gy : badE ey = 0) (gz : badE ez = 0) (p1 : Off c zd) (p2 : Off c zs) (p3 : Off c zm) (h : OutB w c o vd vs vm) (hc : c < w.heap.size) :
    Calls Tryz.prog 134 #[.string f, .agg (ex.cells xd xs xm), .agg (ey.cells yd ys ym), .agg (ez.cells zd zs zm), .pointer (some ⟨c, 0, none⟩)] w (FieldP w c (fld ex ey ez f o).1 (fld ex ey ez f o).2 (fun g => g < w.heap.size ∧ OffT g zd zs zm ∧ OffT g vd vs vm)) := by
  obtain ⟨xa, xb, rfl⟩ := hx.d.shape
  obtain ⟨xc, xd, rfl⟩ := hx.s.shape
  obtain ⟨xe, xf, rfl⟩ := hx.m.shape
  obtain ⟨ya, yb, rfl⟩ := hy.d.shape
  obtain ⟨yc, yd, rfl⟩ := hy.s.shape
  obtain ⟨ye, yf, rfl⟩ := hy.m.shape
  obtain ⟨za, zb, rfl⟩ := hz.d.shape
  obtain ⟨zc, zd, rfl⟩ := hz.s.shape
  obtain ⟨ze, zf, rfl⟩ := hz.m.shape
  obtain ⟨oa, ob, rfl⟩ := h.rv.d.shape
  obtain ⟨oc, od, rfl⟩ := h.rv.s.shape
  obtain ⟨oe, of', rfl⟩ := h.rv.m.shape
  obtain ⟨p, hp⟩ : ∃ p, w.heap.size = p := ⟨_, rfl⟩
  obtain ⟨W, hW⟩ : ∃ W, ((w.alloc (.cells (ex.cells (.slice xa ex.ru.ds.length xb) (.slice xc ex.sk.length xd) (.slice xe ex.mv.length xf)) 40)).alloc (.cells (ey.cells (.slice ya ey.ru.ds.length yb) (.slice yc ey.sk.length yd) (.slice ye ey.mv.length yf)) 40)).alloc (.cells (ez.cells (.slice za ez.ru.ds.length zb) (.slice zc ez.sk.length zd) (.slice ze ez.mv.length zf)) 40) = W := ⟨_, rfl⟩
  have hB : Below w.heap.size w W := by rw [← hW]; exact (((Below.refl _ w).alloc (Nat.le_refl _) _).alloc (by simp) _).alloc (by simp; omega) _
  have r0 : W.heap[p]? = some (.cells (ex.cells (.slice xa ex.ru.ds.length xb) (.slice xc ex.sk.length xd) (.slice xe ex.mv.length xf)) 40) := by rw [← hW, ← hp]; exact (Below.heap_alloc _ _ _ (by simp; omega)).trans ((Below.heap_alloc _ _ _ (by simp)).trans (heap_new w _))
  have r1 : W.heap[p + 1]? = some (.cells (ey.cells (.slice ya ey.ru.ds.length yb) (.slice yc ey.sk.length yd) (.slice ye ey.mv.length yf)) 40) := by
    rw [← hW, ← hp]
    refine (Below.heap_alloc _ _ _ (by simp)).trans ?_
    have h := heap_new (w.alloc (.cells (ex.cells (.slice xa ex.ru.ds.length xb) (.slice xc ex.sk.length xd) (.slice xe ex.mv.length xf)) 40)) (.cells (ey.cells (.slice ya ey.ru.ds.length yb) (.slice yc ey.sk.length yd) (.slice ye ey.mv.length yf)) 40)
    rwa [World.size_alloc] at h
  have r2 : W.heap[p + 2]? = some (.cells (ez.cells (.slice za ez.ru.ds.length zb) (.slice zc ez.sk.length zd) (.slice ze ez.mv.length zf)) 40) := by
    rw [← hW, ← hp]
    have h := heap_new ((w.alloc (.cells (ex.cells (.slice xa ex.ru.ds.length xb) (.slice xc ex.sk.length xd) (.slice xe ex.mv.length xf)) 40)).alloc (.cells (ey.cells (.slice ya ey.ru.ds.length yb) (.slice yc ey.sk.length yd) (.slice ye ey.mv.length yf)) 40)) (.cells (ez.cells (.slice za ez.ru.ds.length zb) (.slice zc ez.sk.length zd) (.slice ze ez.mv.length zf)) 40)
    rwa [World.size_alloc, World.size_alloc] at h
  have hg1 := fun V (hv : Below W.heap.size W V) => getF_any ex _ _ _ f er V ((hT.below hB).below hv) ((hx.below hB).below hv) sx gx
  have hg2 := fun V (hv : Below W.heap.size W V) => getF_any ey _ _ _ f er V ((hT.below hB).below hv) ((hy.below hB).below hv) sy gy
  have hg3 := fun V (hv : Below W.heap.size W V) => getF_any ez _ _ _ f er V ((hT.below hB).below hv) ((hz.below hB).below hv) sz gz
  have hpkd : pk ex ey ez f = pickG (getL ex f) (getL ey f) (getL ez f) := rfl
  have hf1 := fld_keep (x := ex) (y := ey) (z := ez) (f := f) o
  have hf2 := fld_take (x := ex) (y := ey) (z := ez) (f := f) o
  have hf3 := fld_skips (x := ex) (y := ey) (z := ez) (f := f) o
  have hf4 := fld_moves (x := ex) (y := ey) (z := ez) (f := f) o
  have hf5 := fld_none (x := ex) (y := ey) (z := ez) (f := f) o
  obtain ⟨tx, htx⟩ : ∃ t, getL ex f = t := ⟨_, rfl⟩
  obtain ⟨ty, hty⟩ : ∃ t, getL ey f = t := ⟨_, rfl⟩
  obtain ⟨tz, htz⟩ : ∃ t, getL ez f = t := ⟨_, rfl⟩
  simp only [htx] at hg1 hpkd
  simp only [hty] at hg2 hpkd hf1 hf2
  simp only [htz] at hg3 hpkd
  have hpick := fun V => pickS_any tx ty tz V
  rw [← hpkd] at hpick
  obtain ⟨⟨s, is⟩, hsi⟩ : ∃ q, pk ex ey ez f = q := ⟨_, rfl⟩
  rw [hsi] at hpick
  simp only [hsi] at hf1 hf2 hf3 hf4 hf5
  obtain ⟨R, hR⟩ : ∃ R, fld ex ey ez f o = R := ⟨_, rfl⟩
  rw [hR] at hf1 hf2 hf3 hf4 hf5 ⊢
  have HG1 := Lib.hid hg1
  have HG2 := Lib.hid hg2
  have HG3 := Lib.hid hg3
  have HPK := Lib.hid hpick
  have HF1 := Lib.hid hf1
  have HF2 := Lib.hid hf2
  have HF3 := Lib.hid hf3
  have HF4 := Lib.hid hf4
  have HF5 := Lib.hid hf5
  have HGl1 := Lib.hid (good_lists gx)
  have HGl2 := Lib.hid (good_lists gy)
  have HGl3 := Lib.hid (good_lists gz)
  have HX := Lib.hid (hx.below hB)
  have HY := Lib.hid (hy.below hB)
  have HZ := Lib.hid (hz.below hB)
  have HO := Lib.hid (h.below hB)
  have HB := Lib.hid hB
  have HR0 := Lib.hid r0
  have HR1 := Lib.hid r1
  have HR2 := Lib.hid r2
  have HPO := Lib.hid (And.intro p1 (And.intro p2 p3))
  have HW := Lib.hid hW
  have HP := Lib.hid hp
  have HC := Lib.hid (Nat.lt_of_lt_of_le hc hB.size)
  have hs := fun V (hv : Below W.heap.size W V) => (show V.cell? ⟨p, 0, none⟩ = some (.string ex.id) ∧ V.cell? ⟨p, 1, none⟩ = some (.string ex.ti) ∧ V.cell? ⟨p, 2, none⟩ = some (.int .i64 ex.st) ∧ V.cell? ⟨p, 3, none⟩ = some (.int .i64 ex.lg) ∧ V.cell? ⟨p, 4, none⟩ = some (.string ex.ru.fq) ∧ V.cell? ⟨p, 5, none⟩ = some (.int .i64 ex.ru.ev) ∧ V.cell? ⟨p, 6, none⟩ = some (.slice xa ex.ru.ds.length xb) ∧ V.cell? ⟨p, 7, none⟩ = some (.int .i64 ex.ru.ct) ∧ V.cell? ⟨p, 8, none⟩ = some (.int .i64 ex.ru.un) ∧ V.cell? ⟨p, 9, none⟩ = some (.slice xc ex.sk.length xd) ∧ V.cell? ⟨p, 10, none⟩ = some (.slice xe ex.mv.length xf) ∧ V.cell? ⟨p + 1, 0, none⟩ = some (.string ey.id) ∧ V.cell? ⟨p + 1, 1, none⟩ = some (.string ey.ti) ∧ V.cell? ⟨p + 1, 2, none⟩ = some (.int .i64 ey.st) ∧ V.cell? ⟨p + 1, 3, none⟩ = some (.int .i64 ey.lg) ∧ V.cell? ⟨p + 1, 4, none⟩ = some (.string ey.ru.fq) ∧ V.cell? ⟨p + 1, 5, none⟩ = some (.int .i64 ey.ru.ev) ∧ V.cell? ⟨p + 1, 6, none⟩ = some (.slice ya ey.ru.ds.length yb) ∧ V.cell? ⟨p + 1, 7, none⟩ = some (.int .i64 ey.ru.ct) ∧ V.cell? ⟨p + 1, 8, none⟩ = some (.int .i64 ey.ru.un) ∧ V.cell? ⟨p + 1, 9, none⟩ = some (.slice yc ey.sk.length yd) ∧ V.cell? ⟨p + 1, 10, none⟩ = some (.slice ye ey.mv.length yf) ∧ V.cell? ⟨p + 2, 0, none⟩ = some (.string ez.id) ∧ V.cell? ⟨p + 2, 1, none⟩ = some (.string ez.ti) ∧ V.cell? ⟨p + 2, 2, none⟩ = some (.int .i64 ez.st) ∧ V.cell? ⟨p + 2, 3, none⟩ = some (.int .i64 ez.lg) ∧ V.cell? ⟨p + 2, 4, none⟩ = some (.string ez.ru.fq) ∧ V.cell? ⟨p + 2, 5, none⟩ = some (.int .i64 ez.ru.ev) ∧ V.cell? ⟨p + 2, 6, none⟩ = some (.slice za ez.ru.ds.length zb) ∧ V.cell? ⟨p + 2, 7, none⟩ = some (.int .i64 ez.ru.ct) ∧ V.cell? ⟨p + 2, 8, none⟩ = some (.int .i64 ez.ru.un) ∧ V.cell? ⟨p + 2, 9, none⟩ = some (.slice zc ez.sk.length zd) ∧ V.cell? ⟨p + 2, 10, none⟩ = some (.slice ze ez.mv.length zf) from by
    obtain ⟨a0, a1, a2, a3, a4, a5, a6, a7, a8, a9, a10⟩ := cells11 (row_below r0 hv)
    obtain ⟨b0, b1, b2, b3, b4, b5, b6, b7, b8, b9, b10⟩ := cells11 (row_below r1 hv)
    obtain ⟨c0, c1, c2, c3, c4, c5, c6, c7, c8, c9, c10⟩ := cells11 (row_below r2 hv)
    exact ⟨a0, a1, a2, a3, a4, a5, a6, a7, a8, a9, a10, b0, b1, b2, b3, b4, b5, b6, b7, b8, b9, b10, c0, c1, c2, c3, c4, c5, c6, c7, c8, c9, c10⟩)
  have HS := Lib.hid hs
  clear hW hB r0 r1 r2 hg1 hg2 hg3 hpkd hf1 hf2 hf3 hf4 hf5 htx hty htz hpick hsi hR hx hy hz h sx sy sz gx gy gz p1 p2 p3 hT hs hp hc
  go_enter Tryz.func134, Tryz.ntmps134
  go_upto_region 1 with fail
  rw [HW.out, HP.out]
  have hacc : Below W.heap.size W W.drew := Tp.below_drew (Below.refl _ W)
  go_cut [11, 12] from 15 (fun s11 s12 wc => s11 = .string s ∧ s12 = .bool is ∧ Below W.heap.size W wc)
  case first =>
    go_region_held3 (fun W => W.cell? ⟨p, 0, none⟩ = some (.string ex.id) ∧ W.cell? ⟨p, 1, none⟩ = some (.string ex.ti) ∧ W.cell? ⟨p, 2, none⟩ = some (.int .i64 ex.st) ∧ W.cell? ⟨p, 3, none⟩ = some (.int .i64 ex.lg) ∧ W.cell? ⟨p, 4, none⟩ = some (.string ex.ru.fq) ∧ W.cell? ⟨p, 5, none⟩ = some (.int .i64 ex.ru.ev) ∧ W.cell? ⟨p, 6, none⟩ = some (.slice xa ex.ru.ds.length xb) ∧ W.cell? ⟨p, 7, none⟩ = some (.int .i64 ex.ru.ct) ∧ W.cell? ⟨p, 8, none⟩ = some (.int .i64 ex.ru.un) ∧ W.cell? ⟨p, 9, none⟩ = some (.slice xc ex.sk.length xd) ∧ W.cell? ⟨p, 10, none⟩ = some (.slice xe ex.mv.length xf) ∧ W.cell? ⟨p + 1, 0, none⟩ = some (.string ey.id) ∧ W.cell? ⟨p + 1, 1, none⟩ = some (.string ey.ti) ∧ W.cell? ⟨p + 1, 2, none⟩ = some (.int .i64 ey.st) ∧ W.cell? ⟨p + 1, 3, none⟩ = some (.int .i64 ey.lg) ∧ W.cell? ⟨p + 1, 4, none⟩ = some (.string ey.ru.fq) ∧ W.cell? ⟨p + 1, 5, none⟩ = some (.int .i64 ey.ru.ev) ∧ W.cell? ⟨p + 1, 6, none⟩ = some (.slice ya ey.ru.ds.length yb) ∧ W.cell? ⟨p + 1, 7, none⟩ = some (.int .i64 ey.ru.ct) ∧ W.cell? ⟨p + 1, 8, none⟩ = some (.int .i64 ey.ru.un) ∧ W.cell? ⟨p + 1, 9, none⟩ = some (.slice yc ey.sk.length yd) ∧ W.cell? ⟨p + 1, 10, none⟩ = some (.slice ye ey.mv.length yf) ∧ W.cell? ⟨p + 2, 0, none⟩ = some (.string ez.id) ∧ W.cell? ⟨p + 2, 1, none⟩ = some (.string ez.ti) ∧ W.cell? ⟨p + 2, 2, none⟩ = some (.int .i64 ez.st) ∧ W.cell? ⟨p + 2, 3, none⟩ = some (.int .i64 ez.lg) ∧ W.cell? ⟨p + 2, 4, none⟩ = some (.string ez.ru.fq) ∧ W.cell? ⟨p + 2, 5, none⟩ = some (.int .i64 ez.ru.ev) ∧ W.cell? ⟨p + 2, 6, none⟩ = some (.slice za ez.ru.ds.length zb) ∧ W.cell? ⟨p + 2, 7, none⟩ = some (.int .i64 ez.ru.ct) ∧ W.cell? ⟨p + 2, 8, none⟩ = some (.int .i64 ez.ru.un) ∧ W.cell? ⟨p + 2, 9, none⟩ = some (.slice zc ez.sk.length zd) ∧ W.cell? ⟨p + 2, 10, none⟩ = some (.slice ze ez.mv.length zf))
      (with_reducible exact HS.out _ hacc)
      (first
        | ((with_reducible refine (HG1.out _ hacc).mono ?_)
           rintro e1 w1 ⟨rfl, hb1⟩
           replace hacc := hacc.trans (hb1.mono hacc.size))
        | ((with_reducible refine (HG2.out _ hacc).mono ?_)
           rintro e2 w2 ⟨rfl, hb2⟩
           replace hacc := hacc.trans (hb2.mono hacc.size))
        | ((with_reducible refine (HG3.out _ hacc).mono ?_)
           rintro e3 w3 ⟨rfl, hb3⟩
           replace hacc := hacc.trans (hb3.mono hacc.size))
        | ((with_reducible refine (HPK.out _).mono ?_)
           rintro e4 w4 ⟨rfl, rfl⟩))
    all_goals clear hb1 hb2 hb3
    all_goals go_wp2_with fail
    all_goals go_meet
    all_goals exact ⟨rfl, rfl, hacc⟩
  case rest =>
    obtain ⟨wd, hwd⟩ : ∃ x, x = wc := ⟨_, rfl⟩
    subst hwd
    obtain ⟨rfl, rfl, hbd⟩ := hcut
    have HBD := Lib.hid hbd
    have HO2 := Lib.hid (HO.out.below hbd)
    clear hacc hbd HPK HG1 HG3
    cases is with
    | true =>
      by_cases he : s = ty
      · have h2 : (s.toList == ty.toList) = true := by rw [he]; exact beq_self_eq_true _
        have hR := HF1.out rfl he
        have HRR := Lib.hid hR
        obtain ⟨b0, b1, b2, b3, b4, b5, b6, b7, b8, b9, b10⟩ := cells11 (row_below HR1.out HBD.out)
        clear he hR
        go_wp2_with fail
        (with_reducible refine (HG2.out _ HBD.out).mono ?_)
        rintro e5 w5 ⟨rfl, hb5⟩
        have HB5 := Lib.hid hb5
        clear hb5
        go_wp2
        go_ret
        refine ⟨by rw [HRR.out]; rfl, ?_, Far.of_below (HB.out.trans ((HBD.out.trans (HB5.out.mono HBD.out.size)).mono HB.out.size))⟩
        rw [HRR.out]; exact ⟨_, _, _, HO2.out.below HB5.out, fun _ h => h.2.2⟩
      · have h2 : (s.toList == ty.toList) = false := Tx.ba_ne he
        have hR := HF2.out rfl he
        have HRR := Lib.hid hR
        obtain ⟨b0, b1, b2, b3, b4, b5, b6, b7, b8, b9, b10⟩ := cells11 (row_below HR1.out HBD.out)
        clear he hR
        go_wp2_with fail
        (with_reducible refine (HG2.out _ HBD.out).mono ?_)
        rintro e5 w5 ⟨rfl, hb5⟩
        have HB5 := Lib.hid (HBD.out.trans (hb5.mono HBD.out.size))
        have HO3 := Lib.hid (HO2.out.below hb5)
        have HTK := Lib.hid (take_any f ez _ _ _ c o _ _ _ w5 (HZ.out.below HB5.out) HPO.out.1 HPO.out.2.1 HPO.out.2.2 HO3.out)
        unfold TakeP at HTK
        clear hb5 b0 b1 b2 b3 b4 b5 b6 b7 b8 b9 b10
        obtain ⟨c0, c1, c2, c3, c4, c5, c6, c7, c8, c9, c10⟩ := cells11 (row_below HR2.out HB5.out)
        go_wp2_with fail
        (with_reducible refine HTK.out.mono ?_)
        rintro e6 w6 ⟨rfl, ho6, hf6⟩
        have HO6 := Lib.hid ho6
        have HF6 := Lib.hid hf6
        clear ho6 hf6
        go_wp2
        go_ret
        refine ⟨by rw [HRR.out]; rfl, ?_, (Far.of_below (HB.out.trans (HB5.out.mono HB.out.size))).trans HF6.out⟩
        rw [HRR.out]
        obtain ⟨q1, q2, q3, q4, q5⟩ := HO6.out
        exact ⟨q1, q2, q3, q4, fun g h => q5 g ⟨h.2.1, h.2.2⟩⟩
    | false =>
      have hal := Nat.lt_of_lt_of_le HC.out HBD.out.size
      have HAL := Lib.hid hal
      clear hal
      by_cases fs : f = fSkips
      · have b1 : (f.toList == [115, 107, 105, 112, 115]) = true := by rw [fs, tlK]; rfl
        have hR := HF3.out rfl fs
        have HRR := Lib.hid hR
        have HSK := Lib.hid (skips_any _ _ _ ex.sk ey.sk ez.sk wd (HX.out.below HBD.out).s (HY.out.below HBD.out).s (HZ.out.below HBD.out).s (by have := HGl1.out.1; omega) (by have := HGl2.out.1; omega) (by have := HGl3.out.1; omega))
        obtain ⟨a0, a1, a2, a3, a4, a5, a6, a7, a8, a9, a10⟩ := cells11 (row_below HR0.out HBD.out)
        obtain ⟨b0, b1, b2, b3, b4, b5, b6, b7, b8, b9, b10⟩ := cells11 (row_below HR1.out HBD.out)
        obtain ⟨c0, c1, c2, c3, c4, c5, c6, c7, c8, c9, c10⟩ := cells11 (row_below HR2.out HBD.out)
        clear fs hR
        go_wp2_with fail
        (with_reducible refine HSK.out.mono ?_)
        rintro e6 w6 ⟨v6, rfl, hown6, hb6⟩
        obtain ⟨qa, qc, rfl⟩ := own_at hown6
        have HO6 := Lib.hid (HO2.out.below hb6)
        have HR6 := Lib.hid (reads_own hown6)
        have HOF := Lib.hid (off_from (own_from hown6) HAL.out)
        have HOG := Lib.hid (fun (g : Nat) (hg : g < wd.heap.size) => off_from (own_from hown6) hg)
        have HB6 := Lib.hid (HBD.out.trans (hb6.mono HBD.out.size))
        clear hown6 hb6 a0 a1 a2 a3 a4 a5 a6 a7 a8 a9 a10 b0 b1 b2 b3 b4 b5 b6 b7 b8 b9 b10 c0 c1 c2 c3 c4 c5 c6 c7 c8 c9 c10
        obtain ⟨j0, j1, j2, j3, j4, j5, j6, j7, j8, j9, j10⟩ := frozen11 HO6.out.row
        obtain ⟨m0, m1, m2, m3, m4, m5, m6, m7, m8, m9, m10⟩ := cells11 HO6.out.row
        go_wp2
        go_ret
        refine ⟨by rw [HRR.out]; rfl, ?_, (Far.of_below (HB.out.trans (HB6.out.mono HB.out.size))).trans ((Far.refl (fun k => k = c) w6).set (p := ⟨c, 9, none⟩) rfl _)⟩
        rw [HRR.out]
        exact ⟨_, _, _, OutB.step ((Far.refl (fun k => k = c) w6).set (p := ⟨c, 9, none⟩) rfl _) (row_set HO6.out.row 9 _) HO6.out.rv.d HR6.out HO6.out.rv.m HO6.out.o1 HOF.out HO6.out.o3, fun g h => ⟨h.2.2.1, HOG.out g (Nat.lt_of_lt_of_le h.1 (Nat.le_trans HB.out.size HBD.out.size)), h.2.2.2.2⟩⟩
      · have b1 : (f.toList == [115, 107, 105, 112, 115]) = false := by
          rw [beq_eq_false_iff_ne, ← tlK]
          intro e
          rw [ByteArray.toList_eq, ByteArray.toList_eq] at e
          exact fs (by rw [str_mk f, str_mk fSkips, e])
        by_cases fm : f = fMoves
        · have b2 : (f.toList == [109, 111, 118, 101, 115]) = true := by rw [fm, tlM]; rfl
          have hR := HF4.out rfl fm
          have HRR := Lib.hid hR
          have HMV := Lib.hid (moves_any _ _ _ ex.mv ey.mv ez.mv wd (HX.out.below HBD.out).m (HY.out.below HBD.out).m (HZ.out.below HBD.out).m HGl1.out.2.2.1 HGl2.out.2.2.1 HGl3.out.2.2.1 HGl1.out.2.2.2.1 HGl2.out.2.2.2.1 HGl3.out.2.2.2.1 (by have := HGl1.out.2.1; omega) (by have := HGl2.out.2.1; omega) (by have := HGl3.out.2.1; omega))
          unfold MvP at HMV
          obtain ⟨a0, a1, a2, a3, a4, a5, a6, a7, a8, a9, a10⟩ := cells11 (row_below HR0.out HBD.out)
          obtain ⟨b0, b1, b2, b3, b4, b5, b6, b7, b8, b9, b10⟩ := cells11 (row_below HR1.out HBD.out)
          obtain ⟨c0, c1, c2, c3, c4, c5, c6, c7, c8, c9, c10⟩ := cells11 (row_below HR2.out HBD.out)
          clear fs fm hR
          go_wp2_with fail
          (with_reducible refine HMV.out.mono ?_)
          rintro e6 w6 ⟨v6, rfl, hrd6, hfr6, hb6⟩
          obtain ⟨qa, qc, rfl⟩ := hrd6.shape
          have HO6 := Lib.hid (HO2.out.below hb6)
          have HR6 := Lib.hid hrd6
          have HOF := Lib.hid (off_from hfr6 HAL.out)
          have HOG := Lib.hid (fun (g : Nat) (hg : g < wd.heap.size) => off_from hfr6 hg)
          have HB6 := Lib.hid (HBD.out.trans (hb6.mono HBD.out.size))
          clear hrd6 hfr6 hb6 a0 a1 a2 a3 a4 a5 a6 a7 a8 a9 a10 b0 b1 b2 b3 b4 b5 b6 b7 b8 b9 b10 c0 c1 c2 c3 c4 c5 c6 c7 c8 c9 c10
          obtain ⟨j0, j1, j2, j3, j4, j5, j6, j7, j8, j9, j10⟩ := frozen11 HO6.out.row
          obtain ⟨m0, m1, m2, m3, m4, m5, m6, m7, m8, m9, m10⟩ := cells11 HO6.out.row
          go_wp2
          go_ret
          refine ⟨by rw [HRR.out]; rfl, ?_, (Far.of_below (HB.out.trans (HB6.out.mono HB.out.size))).trans ((Far.refl (fun k => k = c) w6).set (p := ⟨c, 10, none⟩) rfl _)⟩
          rw [HRR.out]
          exact ⟨_, _, _, OutB.step ((Far.refl (fun k => k = c) w6).set (p := ⟨c, 10, none⟩) rfl _) (row_set HO6.out.row 10 _) HO6.out.rv.d HO6.out.rv.s HR6.out HO6.out.o1 HO6.out.o2 HOF.out, fun g h => ⟨h.2.2.1, h.2.2.2.1, HOG.out g (Nat.lt_of_lt_of_le h.1 (Nat.le_trans HB.out.size HBD.out.size))⟩⟩
        · have b2 : (f.toList == [109, 111, 118, 101, 115]) = false := by
            rw [beq_eq_false_iff_ne, ← tlM]
            intro e
            rw [ByteArray.toList_eq, ByteArray.toList_eq] at e
            exact fm (by rw [str_mk f, str_mk fMoves, e])
          have hR := HF5.out rfl fs fm
          have HRR := Lib.hid hR
          clear fs fm hR
          go_wp2
          go_ret
          refine ⟨by rw [HRR.out]; rfl, ?_, Far.of_below (HB.out.trans (HBD.out.mono HB.out.size))⟩
          rw [HRR.out]; exact ⟨_, _, _, HO2.out, fun _ h => h.2.2⟩
end Mg
end Go.Proofs.YtghkalamlcfnnaaGreatDoor
