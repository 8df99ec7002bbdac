/- package merge: fields. -/
import Derived.Test.YtghkalamlcfnnaaGreatDoorQMgF
import Derived.Test.YtghkalamlcfnnaaGreatDoorQA16
import Derived.Lib.SliceRun
namespace Go.Proofs.YtghkalamlcfnnaaGreatDoor
open Go Go.RowKit Go.Shelf Lmd
attribute [local go_sem] Oper.semAt_some
namespace Mg
open Evt Bk Df Rul Day Cand Er Tp
theorem flds_snoc (x y z : Ev) (f : ByteArray) : ∀ (t : List ByteArray) (o : Ev) (bad : List ByteArray), flds x y z (t ++ [f]) o bad = ((fld x y z f (flds x y z t o bad).1).1, if (fld x y z f (flds x y z t o bad).1).2 = true then (flds x y z t o bad).2 else (flds x y z t o bad).2 ++ [f])
  | [], _, _ => rfl
  | g :: t, o, bad => by
    show flds x y z (t ++ [f]) _ _ = _
    rw [flds_snoc x y z f t]; rfl
theorem flds_few (x y z : Ev) : ∀ (t : List ByteArray) (o : Ev) (bad : List ByteArray), (flds x y z t o bad).2.length ≤ t.length + bad.length
  | [], o, bad => by simp [flds]
  | f :: t, o, bad => by
    unfold flds
    refine Nat.le_trans (flds_few x y z t _ _) ?_
    split <;> simp <;> omega
theorem sk_len (x y z : List Int) : (skM x y z).length ≤ x.length + y.length + z.length := by
  have := Lmd.Cpt.len_sub (sk_rise x y z) (fun d hd => (sk_mem.1 hd).1)
  simp only [List.length_append] at this
  omega
theorem mv_len (x y z : List (Int × Int)) : (mvM x y z).1.length ≤ x.length + y.length + z.length := by
  have h1 := mvK_len x y z (Lmd.Cpt.uniq (froms x ++ froms y ++ froms z)) []
  have h2 := Lmd.Cpt.len_sub (Lmd.Cpt.uniq_rise (froms x ++ froms y ++ froms z)) (fun d hd => (Lmd.Cpt.uniq_mem _ d).1 hd)
  simp only [List.length_append, froms, List.length_map, List.length_nil, Nat.add_zero] at h1 h2
  have : (mvM x y z).1.length = (mvK x y z (Lmd.Cpt.uniq (froms x ++ froms y ++ froms z)) []).1.length := rfl
  simp only [froms] at this
  omega
theorem mix_size {x y z : Ev} (gx : badE x = 0) (gy : badE y = 0) (gz : badE z = 0) (sy : Size y) (sz : Size z) : Size (mixE x y z) := by
  obtain ⟨x1, x2, _⟩ := good_lists gx
  obtain ⟨y1, y2, _⟩ := good_lists gy
  obtain ⟨z1, z2, _⟩ := good_lists gz
  have hk := sk_len x.sk y.sk z.sk
  have hm := mv_len x.mv y.mv z.mv
  have hs : ∀ f, (src x y z f).ti.size ≤ 9223372036854775807 ∧ (src x y z f).ru.ds.length < 50000 ∧ (src x y z f).sk.length ≤ 1000 ∧ (src x y z f).mv.length ≤ 1000 := fun f => by
    unfold src
    repeat' split
    · exact ⟨sy.ti, sy.ds, by omega, by omega⟩
    · exact ⟨sz.ti, sz.ds, by omega, by omega⟩
    · exact ⟨sy.ti, sy.ds, by show (skM x.sk y.sk z.sk).length ≤ 1000; omega, by show y.mv.length ≤ 1000; omega⟩
    · exact ⟨sy.ti, sy.ds, by show y.sk.length ≤ 1000; omega, by show (mvM x.mv y.mv z.mv).1.length ≤ 1000; omega⟩
    · exact ⟨sy.ti, sy.ds, by omega, by omega⟩
  unfold mixE
  rw [flds_all]
  dsimp only
  rw [fold_all]
  exact ⟨sy.id, (hs _).1, (hs _).2.1, Nat.le_trans (hs _).2.2.1 (by omega), Nat.le_trans (hs _).2.2.2 (by omega)⟩
theorem res_fl {W : World} {b : Nat} {a0 a1 a2 a3 a4 a5 a6 a7 a8 a9 a10 er : Value} {tmps : Array Value} (h : W.heap[b]? = some (.cells #[a0, a1, a2, a3, a4, a5, a6, a7, a8, a9, a10] 40 (0, 0))) (h2 : tmps.getD 8 undef = .pointer (some ⟨b, 0, none⟩)) (h3 : tmps.getD 9 undef = er) :
    (results Tryz.f82 tmps).run Tryz.prog W = .ok (.tuple #[.agg #[a0, a1, a2, a3, a4, a5, a6, a7, a8, a9, a10], er]) W := by
  obtain ⟨q0, q1, q2, q3, q4, q5, q6, q7, q8, q9, q10⟩ := cells11 h
  have h2' : tmps[8]?.getD undef = .pointer (some ⟨b, 0, none⟩) := by simpa using h2
  have h3' : tmps[9]?.getD undef = er := by simpa using h3
  simp [results, Tryz.f82, go_sem, h2', h3', q0, q1, q2, q3, q4, q5, q6, q7, q8, q9, q10]
def FieldsP (w : World) (id : ByteArray) (m : Ev) (bs : List ByteArray) (r : Ending) (w' : World) : Prop :=
  ∃ vd vs vm v, r = .returned (.tuple #[.agg (m.cells vd vs vm), v]) ∧ Rv w' m vd vs vm ∧ XReads w' v (bs.map fun f => (id, f)) ∧ (bs = [] ↔ v = .slice none 0 0) ∧ Below w.heap.size w w'
theorem far_grown {c : Nat} {w w' : World} (h : Far (fun k => k = c) w w') : w.grownBy w' (some c) := ⟨h.os, h.tape, h.output, h.size, fun k hk hne => h.block k hk (fun e => hne (by rw [e]))⟩
structure Tri (W : World) (p c : Nat) (e : Ev) (u1 u2 u3 : Value) : Prop where
  row : W.heap[p]? = some (.cells (e.cells u1 u2 u3) 40 (0, 0))
  rv : Rv W e u1 u2 u3
  o1 : Off c u1
  o2 : Off c u2
  o3 : Off c u3
theorem Tri.far {W W' : World} {p c : Nat} {e : Ev} {u1 u2 u3 : Value} (h : Tri W p c e u1 u2 u3) (hf : Far (fun k => k = c) W W') (hp : p ≠ c) : Tri W' p c e u1 u2 u3 :=
  ⟨(hf.block p (Array.getElem?_eq_some_iff.1 h.row).1 hp).trans h.row, off_far hf h.rv h.o1 h.o2 h.o3, h.o1, h.o2, h.o3⟩
theorem Tri.below {W W' : World} {p c : Nat} {e : Ev} {u1 u2 u3 : Value} (h : Tri W p c e u1 u2 u3) (hb : Below W.heap.size W W') : Tri W' p c e u1 u2 u3 :=
  ⟨row_below h.row hb, h.rv.below hb, h.o1, h.o2, h.o3⟩
theorem Tri.grown {W W' : World} {p c : Nat} {e : Ev} {u1 u2 u3 : Value} {ob : Option Nat} (h : Tri W p c e u1 u2 u3) (hg : W.grownBy W' ob) (hp : ob ≠ some p) (ho : ∀ g, ob = some g → OffT g u1 u2 u3) : Tri W' p c e u1 u2 u3 := by
  refine ⟨(hg.block p (Array.getElem?_eq_some_iff.1 h.row).1 (fun e => hp e.symm)).trans h.row, ?_, h.o1, h.o2, h.o3⟩
  cases ob with
  | none => exact h.rv.below ⟨hg.os, hg.tape, hg.output, hg.size, fun k hk => hg.block k hk (by simp)⟩
  | some g => exact off_far ⟨hg.os, hg.tape, hg.output, hg.size, fun k hk hne => hg.block k hk (fun e => hne (by injection e))⟩ h.rv (ho g rfl).1 (ho g rfl).2.1 (ho g rfl).2.2
theorem OutB.grown {W W' : World} {c : Nat} {o : Ev} {u1 u2 u3 : Value} {ob : Option Nat} (h : OutB W c o u1 u2 u3) (hg : W.grownBy W' ob) (hp : ob ≠ some c) (ho : ∀ g, ob = some g → OffT g u1 u2 u3) : OutB W' c o u1 u2 u3 := by
  obtain ⟨q1, q2, q3, q4, q5⟩ := Tri.grown ⟨h.row, h.rv, h.o1, h.o2, h.o3⟩ hg hp ho
  exact ⟨q1, q2, q3, q4, q5⟩
theorem offT_new {W : World} {e : Ev} {u1 u2 u3 : Value} (h : Rv W e u1 u2 u3) {g : Nat} (hg : W.heap.size ≤ g) : OffT g u1 u2 u3 := ⟨off_reads h.d hg, off_reads h.s hg, off_mreads h.m hg⟩
theorem own_farc {c base n size : Nat} {e : TypeId} {v : Value} {xs : List Value} {w w' : World} (h : w.ownsRow base e size v n xs) (hf : Far (fun k => k = c) w w') (hc : c < base) : w'.ownsRow base e size v n xs :=
  h.kept (far_grown hf) (by
    cases hv : v.ownBlock with
    | none => exact .inl rfl
    | some k => exact .inr (fun e' => by have := Evt.own_ge h hv; injection e' with e'; omega))
structure FlAt (w8 W0 : World) (p c pf c1 c2 c3 : Nat) (x y z : Ev) (id : ByteArray) (o : Ev) (bs : List ByteArray) (x1 x2 x3 y1 y2 y3 z1 z2 z3 u1 u2 u3 v : Value) (W : World) : Prop where
  t1 : Tri W c1 c x x1 x2 x3
  t2 : Tri W c2 c y y1 y2 y3
  t3 : Tri W c3 c z z1 z2 z3
  out : OutB W c o u1 u2 u3
  fl : W.heap[pf]? = some (.cells fieldsV 9)
  own : W.ownsRow w8.heap.size 52 2 v bs.length (cellsX (bs.map fun f => (id, f)))
  sz : w8.heap.size ≤ W.heap.size
  lowW : Below W0.heap.size W0 W
  og : ∀ g, v.ownBlock = some g → OffT g x1 x2 x3 ∧ OffT g y1 y2 y3 ∧ OffT g z1 z2 z3 ∧ OffT g u1 u2 u3
  op : OffT p z1 z2 z3 ∧ OffT p u1 u2 u3
set_option maxRecDepth 100000 in
set_option maxHeartbeats 16000000 in
theorem fields_any (w : World) (B1 b1 m1 B2 b2 m2 B3 b3 m3 : Nat) (L1 L2 L3 : List Ev) (id : ByteArray) (er : Nat → Addr) (hT : Tb w er) (h1 : Book w B1 b1 m1 L1) (h2 : Book w B2 b2 m2 L2) (h3 : Book w B3 b3 m3 L3) (hid : id.size ≤ 9223372036854775807)
    (k1 : hasK id.data.toList L1 = true) (k2 : hasK id.data.toList L2 = true) (k3 : hasK id.data.toList L3 = true) :
    Calls Tryz.prog 82 #[.string id, .pointer (some ⟨b1, 0, none⟩), .pointer (some ⟨b2, 0, none⟩), .pointer (some ⟨b3, 0, none⟩)] w (FieldsP w id (mixE (foundE id.data.toList L1) (foundE id.data.toList L2) (foundE id.data.toList L3)) (mixB (foundE id.data.toList L1) (foundE id.data.toList L2) (foundE id.data.toList L3))) := by
  have g1 := h1.good _ (foundE_has k1).1
  have g2 := h2.good _ (foundE_has k2).1
  have g3 := h3.good _ (foundE_has k3).1
  have s1 := h1.fit _ (foundE_has k1).1
  have s2 := h2.fit _ (foundE_has k2).1
  have s3 := h3.fit _ (foundE_has k3).1
  obtain ⟨p, hp⟩ : ∃ p, w.heap.size = p := ⟨_, rfl⟩
  obtain ⟨W, hW⟩ : ∃ W, w.alloc (.cells zeroV 40) = W := ⟨_, rfl⟩
  have hB : Below w.heap.size w W := by rw [← hW]; exact (Below.refl _ w).alloc (Nat.le_refl _) _
  have hx : W.heap[p]? = some (.cells zeroV 40) := by rw [← hW, ← hp]; exact heap_new w _
  have hq1 := fun V (hv : Below W.heap.size W V) => Bk.get_any V B1 b1 m1 L1 id ((h1.below hB).below hv) hid
  have hq2 := fun V (hv : Below W.heap.size W V) => Bk.get_any V B2 b2 m2 L2 id ((h2.below hB).below hv) hid
  have hq3 := fun V (hv : Below W.heap.size W V) => Bk.get_any V B3 b3 m3 L3 id ((h3.below hB).below hv) hid
  unfold GotE at hq1 hq2 hq3
  simp only [k1] at hq1
  simp only [k2] at hq2
  simp only [k3] at hq3
  obtain ⟨x, hx1⟩ : ∃ x, foundE id.data.toList L1 = x := ⟨_, rfl⟩
  obtain ⟨y, hy1⟩ : ∃ x, foundE id.data.toList L2 = x := ⟨_, rfl⟩
  obtain ⟨z, hz1⟩ : ∃ x, foundE id.data.toList L3 = x := ⟨_, rfl⟩
  simp only [hx1] at hq1
  simp only [hy1] at hq2
  simp only [hz1] at hq3
  rw [hx1] at g1 s1
  rw [hy1] at g2 s2
  rw [hz1] at g3 s3
  rw [hx1, hy1, hz1]
  have HT := Lib.hid (hT.below hB)
  have HQ1 := Lib.hid hq1
  have HQ2 := Lib.hid hq2
  have HQ3 := Lib.hid hq3
  have HG := Lib.hid (And.intro g1 (And.intro g2 g3))
  have HSZ := Lib.hid (And.intro s1 (And.intro s2 s3))
  have HMS := Lib.hid (mix_size g1 g2 g3 s2 s3)
  have HW := Lib.hid hW
  have HP := Lib.hid hp
  have HB := Lib.hid hB
  have HX := Lib.hid hx
  clear hT h1 h2 h3 k1 k2 k3 g1 g2 g3 s1 s2 s3 hq1 hq2 hq3 hx1 hy1 hz1 hW hp hB hx hid
  go_enter Tryz.func82, Tryz.ntmps82
  go_upto_region 1 with fail
  rw [HW.out, HP.out]
  go_wp2_with fail
  (with_reducible refine (HQ1.out _ (Below.refl _ _)).mono ?_)
  rintro e1 w1 ⟨xd, xs, xm, rfl, hr1, _, _, _, hb1⟩
  obtain ⟨xa, xb, rfl⟩ := hr1.d.shape
  obtain ⟨xc, xe, rfl⟩ := hr1.s.shape
  obtain ⟨xf, xg, rfl⟩ := hr1.m.shape
  go_upto_region 2 with fail
  generalize hW2 : w1.alloc _ = W2
  have hb2 : Below w1.heap.size w1 W2 := by rw [← hW2]; exact (Below.refl _ w1).alloc (Nat.le_refl _) _
  have hy2 : W2.heap[w1.heap.size]? = some (.cells (x.cells (.slice xa x.ru.ds.length xb) (.slice xc x.sk.length xe) (.slice xf x.mv.length xg)) 40 (0, 0)) := by rw [← hW2]; exact heap_new w1 _
  obtain ⟨c1, hc1⟩ : ∃ c, w1.heap.size = c := ⟨_, rfl⟩
  rw [hc1] at hy2 ⊢
  have HB2 := Lib.hid (hb1.trans (hb2.mono hb1.size))
  have HR1 := Lib.hid (hr1.below hb2)
  have HC1 := Lib.hid hc1
  have HX1 := Lib.hid hy2
  have hlt1 : c1 < W2.heap.size := (Array.getElem?_eq_some_iff.1 hy2).1
  have HLT1 := Lib.hid hlt1
  clear hW2 hb2 hy2 hr1 hb1 hc1 hlt1
  go_wp2_with fail
  (with_reducible refine (HQ2.out _ HB2.out).mono ?_)
  rintro e3 w3 ⟨yd, ys, ym, rfl, hr3, q1, q2, q3, hb3⟩
  have hpy : p < W2.heap.size := Nat.lt_of_lt_of_le (Array.getElem?_eq_some_iff.1 HX.out).1 HB2.out.size
  have hoy : OffT p yd ys ym := ⟨off_from q1 hpy, off_from q2 hpy, off_from q3 hpy⟩
  clear q1 q2 q3 hpy
  obtain ⟨ya, yb, rfl⟩ := hr3.d.shape
  obtain ⟨yc, ye, rfl⟩ := hr3.s.shape
  obtain ⟨yf, yg, rfl⟩ := hr3.m.shape
  go_upto_region 3 with fail
  generalize hW4 : w3.alloc _ = W4
  have hb4 : Below w3.heap.size w3 W4 := by rw [← hW4]; exact (Below.refl _ w3).alloc (Nat.le_refl _) _
  have hy4 : W4.heap[w3.heap.size]? = some (.cells (y.cells (.slice ya y.ru.ds.length yb) (.slice yc y.sk.length ye) (.slice yf y.mv.length yg)) 40 (0, 0)) := by rw [← hW4]; exact heap_new w3 _
  obtain ⟨c2, hc2⟩ : ∃ c, w3.heap.size = c := ⟨_, rfl⟩
  have hb34 := hb3.trans (hb4.mono hb3.size)
  rw [hc2] at hy4 ⊢
  have HB4 := Lib.hid (HB2.out.trans (hb34.mono HB2.out.size))
  have HR1' := Lib.hid (HR1.out.below hb34)
  have HX1' := Lib.hid (row_below HX1.out hb34)
  have HR2 := Lib.hid (hr3.below hb4)
  have HX2 := Lib.hid hy4
  have hlt2 : c2 < W4.heap.size := (Array.getElem?_eq_some_iff.1 hy4).1
  have HLT2 := Lib.hid (And.intro (Nat.lt_of_lt_of_le HLT1.out (by rw [← hc2]; exact hb3.size) : c1 < c2) hlt2)
  have HOY := Lib.hid hoy
  clear hW4 hb4 hy4 hr3 hb3 hc2 hb34 hlt2 hoy
  go_wp2_with fail
  (with_reducible refine (HQ3.out _ HB4.out).mono ?_)
  rintro e5 w5 ⟨zd, zs, zm, rfl, hr5, q1, q2, q3, hb5⟩
  have hpz : p < W4.heap.size := Nat.lt_of_lt_of_le (Array.getElem?_eq_some_iff.1 HX.out).1 HB4.out.size
  have hoz : OffT p zd zs zm := ⟨off_from q1 hpz, off_from q2 hpz, off_from q3 hpz⟩
  clear q1 q2 q3 hpz
  obtain ⟨za, zb, rfl⟩ := hr5.d.shape
  obtain ⟨zc, ze, rfl⟩ := hr5.s.shape
  obtain ⟨zf, zg, rfl⟩ := hr5.m.shape
  go_upto_region 4 with fail
  generalize hW6 : w5.alloc _ = W6
  have hb6 : Below w5.heap.size w5 W6 := by rw [← hW6]; exact (Below.refl _ w5).alloc (Nat.le_refl _) _
  have hy6 : W6.heap[w5.heap.size]? = some (.cells (z.cells (.slice za z.ru.ds.length zb) (.slice zc z.sk.length ze) (.slice zf z.mv.length zg)) 40 (0, 0)) := by rw [← hW6]; exact heap_new w5 _
  obtain ⟨c3, hc3⟩ : ∃ c, w5.heap.size = c := ⟨_, rfl⟩
  have hb56 := hb5.trans (hb6.mono hb5.size)
  rw [hc3] at hy6 ⊢
  have HB6 := Lib.hid (HB4.out.trans (hb56.mono HB4.out.size))
  have HR1b := Lib.hid (HR1'.out.below hb56)
  have HX1b := Lib.hid (row_below HX1'.out hb56)
  have HR2' := Lib.hid (HR2.out.below hb56)
  have HX2' := Lib.hid (row_below HX2.out hb56)
  have HR3 := Lib.hid (hr5.below hb6)
  have HX3 := Lib.hid hy6
  have hlt3 : c3 < W6.heap.size := (Array.getElem?_eq_some_iff.1 hy6).1
  have HLT3 := Lib.hid (And.intro (Nat.lt_of_lt_of_le HLT2.out.2 (by rw [← hc3]; exact hb5.size) : c2 < c3) hlt3)
  have HOZ := Lib.hid hoz
  clear hW6 hb6 hy6 hr5 hb5 hc3 hb56 hlt3 hoz
  obtain ⟨j0, j1, j2, j3, j4, j5, j6, j7, j8, j9, j10⟩ := cells11 HX2'.out
  go_upto_region 5 with fail
  generalize hW7 : W6.alloc _ = W7
  have hb7 : Below W6.heap.size W6 W7 := by rw [← hW7]; exact (Below.refl _ W6).alloc (Nat.le_refl _) _
  have hy7 : W7.heap[W6.heap.size]? = some (.cells (y.cells (.slice ya y.ru.ds.length yb) (.slice yc y.sk.length ye) (.slice yf y.mv.length yg)) 40 (0, 0)) := by rw [← hW7]; exact heap_new W6 _
  obtain ⟨c, hc⟩ : ∃ c, W6.heap.size = c := ⟨_, rfl⟩
  rw [hc] at hy7 ⊢
  have HT1 := Lib.hid (show Tri W7 c1 c x _ _ _ from ⟨row_below HX1b.out hb7, HR1b.out.below hb7, off_reads HR1b.out.d (by omega), off_reads HR1b.out.s (by omega), off_mreads HR1b.out.m (by omega)⟩)
  have HT2 := Lib.hid (show Tri W7 c2 c y _ _ _ from ⟨row_below HX2'.out hb7, HR2'.out.below hb7, off_reads HR2'.out.d (by omega), off_reads HR2'.out.s (by omega), off_mreads HR2'.out.m (by omega)⟩)
  have HT3 := Lib.hid (show Tri W7 c3 c z _ _ _ from ⟨row_below HX3.out hb7, HR3.out.below hb7, off_reads HR3.out.d (by omega), off_reads HR3.out.s (by omega), off_mreads HR3.out.m (by omega)⟩)
  have HOUT := Lib.hid (show OutB W7 c y _ _ _ from ⟨hy7, HR2'.out.below hb7, off_reads HR2'.out.d (by omega), off_reads HR2'.out.s (by omega), off_mreads HR2'.out.m (by omega)⟩)
  have HB7 := Lib.hid (HB6.out.trans (hb7.mono HB6.out.size))
  have hcl : c < W7.heap.size := (Array.getElem?_eq_some_iff.1 hy7).1
  have HNE := Lib.hid (show c1 ≠ c ∧ c2 ≠ c ∧ c3 ≠ c ∧ W.heap.size ≤ c from by
    have a1 := HLT2.out.1
    have a2 := HLT3.out.1
    have a3 := HLT3.out.2
    have a4 := HB6.out.size
    omega)
  have HCL := Lib.hid hcl
  clear hW7 hb7 hy7 hc hcl j0 j1 j2 j3 j4 j5 j6 j7 j8 j9 j10 HR1b HR2' HR3 HX1b HX2' HX3 HQ1 HQ2 HQ3 HR1 HR1' HR2 HX1 HX1' HX2
  have hfl := fields_low W7
  have HFL := Lib.hid hfl
  obtain ⟨W8, hW8, hW8b⟩ : ∃ w8 : World, True ∧ True := ⟨W7, trivial, trivial⟩
  clear hfl hW8 hW8b W8
  go_wp2_with fail
  (with_reducible refine HFL.out.mono ?_)
  rintro e8 w8 ⟨rfl, hf8, hb8⟩
  obtain ⟨pf, hpf⟩ : ∃ q, W7.heap.size = q := ⟨_, rfl⟩
  have hcp : c < pf := by rw [← hpf]; exact HCL.out
  rw [hpf] at hf8 ⊢
  have HF8 := Lib.hid hf8
  have HU1 := Lib.hid (HT1.out.below hb8)
  have HU2 := Lib.hid (HT2.out.below hb8)
  have HU3 := Lib.hid (HT3.out.below hb8)
  have HOU := Lib.hid (HOUT.out.below hb8)
  have HB8 := Lib.hid (HB7.out.trans (hb8.mono HB7.out.size))
  have hs8 : pf < w8.heap.size := (Array.getElem?_eq_some_iff.1 hf8).1
  have HPF := Lib.hid (And.intro hcp hs8)
  clear hf8 hb8 hcp hs8 hpf HT1 HT2 HT3 HOUT HFL HCL
  go_wp2_with fail
  go_loopw [17, 19, 41] (fun v17 _ i wr => ∃ (k m : Nat) (a7 : Option Addr) (c7 : Nat) (u1 u2 u3 : Value), k ≤ 6 ∧ i = .int .i64 (k : Int) ∧ m = (flds x y z (fieldL.take k) y []).2.length ∧ v17 = .slice a7 m c7 ∧ ((flds x y z (fieldL.take k) y []).2 = [] → a7 = none ∧ c7 = 0) ∧ FlAt w8 W p c pf c1 c2 c3 x y z id (flds x y z (fieldL.take k) y []).1 (flds x y z (fieldL.take k) y []).2 (.slice xa x.ru.ds.length xb) (.slice xc x.sk.length xe) (.slice xf x.mv.length xg) (.slice ya y.ru.ds.length yb) (.slice yc y.sk.length ye) (.slice yf y.mv.length yg) (.slice za z.ru.ds.length zb) (.slice zc z.sk.length ze) (.slice zf z.mv.length zg) u1 u2 u3 (.slice a7 m c7) wr) (fun _ _ i _ => 6 - (intOf i).toNat)
  case atStart => exact ⟨0, 0, none, 0, _, _, _, Nat.zero_le _, rfl, rfl, rfl, fun _ => ⟨rfl, rfl⟩, HU1.out, HU2.out, HU3.out, HOU.out, HF8.out, ⟨rfl, .inl ⟨rfl, rfl⟩⟩, Nat.le_refl _, HB8.out, fun g hg => by simp [Value.ownBlock] at hg, HOZ.out, HOY.out⟩
  case round =>
    obtain ⟨k, m, a7, c7, u1, u2, u3, hk, rfl, hm, rfl, hnil, hat⟩ := hrel
    have HAT := Lib.hid hat
    have HM := Lib.hid hm
    have HNIL := Lib.hid hnil
    have hm6 : m ≤ k := by
      rw [hm]
      have h1 := flds_few x y z (fieldL.take k) y []
      have h2 := List.length_take_le k fieldL
      simp only [List.length_nil] at h1; omega
    clear hm hnil hat
    by_cases hlt : k < 6
    · have f1 := field_cell HAT.out.fl hlt
      have htk : fieldL.take (k + 1) = fieldL.take k ++ [fieldL.getD k ByteArray.empty] := by
        rw [List.take_succ_eq_append_getElem (show k < fieldL.length from hlt), List.getD_eq_getElem?_getD, List.getElem?_eq_getElem (show k < fieldL.length from hlt)]; rfl
      obtain ⟨f, hf⟩ : ∃ f, fieldL.getD k ByteArray.empty = f := ⟨_, rfl⟩
      rw [hf] at f1 htk
      have hst : flds x y z (fieldL.take (k + 1)) y [] = ((fld x y z f (flds x y z (fieldL.take k) y []).1).1, if (fld x y z f (flds x y z (fieldL.take k) y []).1).2 = true then (flds x y z (fieldL.take k) y []).2 else (flds x y z (fieldL.take k) y []).2 ++ [f]) := by rw [htk, flds_snoc]
      obtain ⟨ob, hob⟩ : ∃ q, flds x y z (fieldL.take k) y [] = q := ⟨_, rfl⟩
      obtain ⟨o, bs⟩ := ob
      rw [hob] at HAT HM HNIL hst
      dsimp only at HAT HM HNIL hst
      have hfd := field_any f x y z _ _ _ _ _ _ _ _ _ c o u1 u2 u3 er wr (HT.out.below HAT.out.lowW) HAT.out.t1.rv HAT.out.t2.rv HAT.out.t3.rv HSZ.out.1 HSZ.out.2.1 HSZ.out.2.2 HG.out.1 HG.out.2.1 HG.out.2.2 HAT.out.t3.o1 HAT.out.t3.o2 HAT.out.t3.o3 HAT.out.out (by have := HPF.out; have := HAT.out.sz; omega)
      unfold FieldP at hfd
      obtain ⟨R, hR⟩ : ∃ R, fld x y z f o = R := ⟨_, rfl⟩
      obtain ⟨o', is⟩ := R
      rw [hR] at hfd hst
      dsimp only at hfd hst
      have HFD := Lib.hid hfd
      have HST := Lib.hid hst
      obtain ⟨d0, d1, d2, d3, d4, d5, d6, d7, d8, d9, d10⟩ := cells11 HAT.out.t1.row
      obtain ⟨j0, j1, j2, j3, j4, j5, j6, j7, j8, j9, j10⟩ := cells11 HAT.out.t2.row
      obtain ⟨m0, n1, n2, n3, n4, n5, n6, n7, n8, n9, n10⟩ := cells11 HAT.out.t3.row
      clear hf htk hst hob hfd hR
      go_wp2_with fail
      (with_reducible refine HFD.out.mono ?_)
      rintro e9 w9 ⟨rfl, ⟨t1, t2, t3, ho9, hS9⟩, hfar⟩
      have hne := HNE.out
      have hpc := HPF.out
      have hat9 : FlAt w8 W p c pf c1 c2 c3 x y z id o' bs _ _ _ _ _ _ _ _ _ t1 t2 t3 (.slice a7 m c7) w9 :=
        ⟨HAT.out.t1.far hfar hne.1, HAT.out.t2.far hfar hne.2.1, HAT.out.t3.far hfar hne.2.2.1, ho9, (hfar.block pf (by have := HAT.out.sz; omega) (by omega)).trans HAT.out.fl, own_farc HAT.out.own hfar (by omega), Nat.le_trans HAT.out.sz hfar.size, HAT.out.lowW.trans (hfar.below (fun _ h => by rw [h]; exact hne.2.2.2) HAT.out.lowW.size),
          fun g hg => ⟨(HAT.out.og g hg).1, (HAT.out.og g hg).2.1, (HAT.out.og g hg).2.2.1, hS9 g ⟨(HAT.out.own.lt g hg).2, (HAT.out.og g hg).2.2.1, (HAT.out.og g hg).2.2.2⟩⟩, HAT.out.op.1, hS9 p ⟨by have := HAT.out.lowW.size; have := (Array.getElem?_eq_some_iff.1 HX.out).1; omega, HAT.out.op.1, HAT.out.op.2⟩⟩
      have HAT9 := Lib.hid hat9
      clear ho9 hfar hne hpc hat9 hS9 f1 d0 d1 d2 d3 d4 d5 d6 d7 d8 d9 d10 j0 j1 j2 j3 j4 j5 j6 j7 j8 j9 j10 m0 n1 n2 n3 n4 n5 n6 n7 n8 n9 n10
      cases is with
      | true =>
        go_wp2_with fail
        go_roundw
        case rel =>
          have h := HST.out
          first
            | rw [if_pos rfl] at h
            | rw [if_pos trivial] at h
          refine ⟨k + 1, m, a7, c7, t1, t2, t3, by omega, by go_num, ?_, rfl, ?_, ?_⟩
          · rw [h]; exact HM.out
          · rw [h]; exact HNIL.out
          · rw [h]; exact HAT9.out
        case measure => simp [intOf]; omega
      | false =>
        have hls := HAT9.out.sz
        have hbl : bs.length ≤ 3000000 := by rw [← HM.out]; omega
        have HBL := Lib.hid hbl
        clear hbl
        go_wp2_with (
          at_builtin
          refine append_clp rfl (.tmp 51) (.tmp 55) rfl w8.heap.size (.slice a7 m c7) (bs.map fun f => (id, f)) rfl (by rw [List.length_map]; exact HAT9.out.own.alloc _) w9.heap.size (id, f) rfl (at2_box (heap_new w9 _)) (by rw [List.length_map]; exact HBL.out) (Nat.le_trans hls (by simp)) ?_
          intro a9 c9 w10 hown9 hb9 hg9 hl9
          rw [List.length_map, ← HM.out]
          rw [List.length_map] at hown9
          have HO9 := Lib.hid hown9
          have HG9 := Lib.hid hg9
          rw [List.length_map, ← HM.out] at hl9
          have HL9 := Lib.hid hl9
          clear hown9 hb9 hg9 hl9)
        go_roundw
        case rel =>
          have h := HST.out
          rw [if_neg (by simp)] at h
          refine ⟨k + 1, m + 1, a9, c9, t1, t2, t3, by omega, by go_num, ?_, rfl, ?_, ?_⟩
          · rw [h]; dsimp only; rw [List.length_append, ← HM.out]; rfl
          · rw [h]; dsimp only; intro e; simp at e
          · rw [h]
            dsimp only
            have hal : Below w9.heap.size w9 (w9.alloc (.cells #[.string id, .string f] 52)) := (Below.refl _ _).alloc (Nat.le_refl _) _
            have hg := HG9.out
            have hob : ∀ g, (Value.slice a7 m c7).ownBlock = some g → w8.heap.size ≤ g := fun g hg => (HAT9.out.own.lt g hg).1
            have hog := HAT9.out.og
            have hpc := HPF.out
            have hnb : ∀ q, q < w8.heap.size → (Value.slice a7 m c7).ownBlock ≠ some q := fun q hq e => by have := hob q e; omega
            have lt1 := (Array.getElem?_eq_some_iff.1 HU1.out.row).1
            have lt2 := (Array.getElem?_eq_some_iff.1 HU2.out.row).1
            have lt3 := (Array.getElem?_eq_some_iff.1 HU3.out.row).1
            have g1 := (HAT9.out.t1.below hal).grown hg (hnb _ lt1) (fun g e => (hog g e).1)
            have g2 := (HAT9.out.t2.below hal).grown hg (hnb _ lt2) (fun g e => (hog g e).2.1)
            have g3 := (HAT9.out.t3.below hal).grown hg (hnb _ lt3) (fun g e => (hog g e).2.2.1)
            have g4 := (HAT9.out.out.below hal).grown hg (hnb _ (by omega)) (fun g e => (hog g e).2.2.2)
            have hsz : w8.heap.size ≤ w10.heap.size := Nat.le_trans hls (Nat.le_trans hal.size hg.size)
            refine ⟨g1, g2, g3, g4, (hg.block pf (by simp; omega) (fun e => hnb pf (by omega) e.symm)).trans (row_below HAT9.out.fl hal), ?_, hsz, ?_, ?_, HAT9.out.op⟩
            · rw [List.map_append]
              have h := HO9.out
              rw [List.length_append, List.length_map, ← HM.out] at h
              rw [List.length_append, ← HM.out]
              exact h
            · exact (HAT9.out.lowW.trans (hal.mono HAT9.out.lowW.size)).grown hg (Nat.le_trans HAT9.out.lowW.size hal.size) (fun g e => Nat.le_trans HB8.out.size (hob g e))
            · intro g e
              rcases HL9.out with h | h
              · exact hog g (h.symm.trans e)
              · rw [h] at e
                injection e with e
                subst e
                exact ⟨offT_new HAT9.out.t1.rv hal.size, offT_new HAT9.out.t2.rv hal.size, offT_new HAT9.out.t3.rv hal.size, offT_new HAT9.out.out.rv hal.size⟩
        case measure => simp [intOf]; omega
    · obtain rfl : k = 6 := by omega
      have hall : fieldL.take 6 = fieldL := rfl
      rw [hall] at HAT HM HNIL
      obtain ⟨ob, hob⟩ : ∃ q, flds x y z fieldL y [] = q := ⟨_, rfl⟩
      obtain ⟨o, bs⟩ := ob
      have hmx : mixE x y z = o := by unfold mixE; rw [hob]
      have hmb : mixB x y z = if bs = [] ∧ badE o ≠ 0 then [allB] else bs := by unfold mixB; rw [hmx, hob]
      rw [hob] at HAT HM HNIL
      dsimp only at HAT HM HNIL
      have hms := HMS.out
      rw [hmx] at hms
      have HMB := Lib.hid hmb
      have HMS2 := Lib.hid hms
      obtain ⟨v1, e1, rfl⟩ := HAT.out.out.rv.d.shape
      obtain ⟨v2, e2, rfl⟩ := HAT.out.out.rv.s.shape
      obtain ⟨v3, e3, rfl⟩ := HAT.out.out.rv.m.shape
      have hfin : ∀ (W' : World) (v : Value) (cl : List ByteArray), Below wr.heap.size wr W' → XReads (put11 W' p (.string o.id) (.string o.ti) (.int .i64 o.st) (.int .i64 o.lg) (.string o.ru.fq) (.int .i64 o.ru.ev) (.slice v1 o.ru.ds.length e1) (.int .i64 o.ru.ct) (.int .i64 o.ru.un) (.slice v2 o.sk.length e2) (.slice v3 o.mv.length e3)) v (cl.map fun f => (id, f)) → (cl = [] ↔ v = .slice none 0 0) → mixB x y z = cl →
          FieldsP w id (mixE x y z) (mixB x y z) (.returned (.tuple #[.agg (o.cells (.slice v1 o.ru.ds.length e1) (.slice v2 o.sk.length e2) (.slice v3 o.mv.length e3)), v])) (put11 W' p (.string o.id) (.string o.ti) (.int .i64 o.st) (.int .i64 o.lg) (.string o.ru.fq) (.int .i64 o.ru.ev) (.slice v1 o.ru.ds.length e1) (.int .i64 o.ru.ct) (.int .i64 o.ru.un) (.slice v2 o.sk.length e2) (.slice v3 o.mv.length e3)) := by
        intro W' v cl hw hx hn hm
        rw [hm, hmx]
        have hon := put11_only W' p (.string o.id) (.string o.ti) (.int .i64 o.st) (.int .i64 o.lg) (.string o.ru.fq) (.int .i64 o.ru.ev) (.slice v1 o.ru.ds.length e1) (.int .i64 o.ru.ct) (.int .i64 o.ru.un) (.slice v2 o.sk.length e2) (.slice v3 o.mv.length e3)
        exact ⟨_, _, _, v, rfl, hon.rv (HAT.out.out.rv.below hw) HAT.out.op.2.1 HAT.out.op.2.2.1 HAT.out.op.2.2.2, hx, hn, (HB.out.trans (HAT.out.lowW.mono HB.out.size)).trans ((hw.mono (Nat.le_trans HB.out.size HAT.out.lowW.size)).trans (hon.below (by rw [HP.out]; exact Nat.le_refl _)))⟩
      have HFIN := Lib.hid hfin
      have hpw : p < wr.heap.size := Nat.lt_of_lt_of_le (Array.getElem?_eq_some_iff.1 HX.out).1 HAT.out.lowW.size
      have HPW := Lib.hid hpw
      have hxp := row_below HX.out HAT.out.lowW
      have HXP := Lib.hid hxp
      obtain ⟨d0, d1, d2, d3, d4, d5, d6, d7, d8, d9, d10⟩ := cells11 HAT.out.out.row
      have hu : ∀ (w : World) (a : Option Addr) (n c n' c' : Nat), (binOp .eql 30 (.slice a n c) (.slice none n' c')).run Tryz.prog w = .ok (.bool a.isNone) w := fun w a n c n' c' => Lib.run_eql_slice_nil w _ _ a n c n' c' Tryz.underlying30
      by_cases hb : bs = []
      · obtain ⟨rfl, rfl⟩ := HNIL.out hb
        have hm0 : m = 0 := by rw [HM.out, hb]; rfl
        subst hm0
        have HBS := Lib.hid hb
        have HCK := Lib.hid (check_any o _ _ _ er wr (HT.out.below HAT.out.lowW).errs HAT.out.out.rv HMS2.out)
        obtain ⟨q, hq⟩ : ∃ q, badE o = q := ⟨_, rfl⟩
        rw [hq] at HCK
        have HQ := Lib.hid hq
        clear hb hfin hpw hxp hmx hmb hms hob hall hq
        go_wp2_with fail
        (with_reducible refine HCK.out.mono ?_)
        rintro e9 w9 ⟨rfl, hb9⟩
        have HB9 := Lib.hid hb9
        clear d0 d1 d2 d3 d4 d5 d6 d7 d8 d9 d10
        obtain ⟨d0, d1, d2, d3, d4, d5, d6, d7, d8, d9, d10⟩ := cells11 (row_below HAT.out.out.row hb9)
        cases q with
        | zero =>
          have hx9 := row_below HXP.out hb9
          obtain ⟨j0, j1, j2, j3, j4, j5, j6, j7, j8, j9, j10⟩ := frozen11 hx9
          obtain ⟨m0, n1, n2, n3, n4, n5, n6, n7, n8, n9, n10⟩ := cells11 hx9
          have HX9 := Lib.hid hx9
          clear hx9 hb9
          simp only [errV]
          go_wp2
          refine bodyPost_ret (res_fl (put11_row HX9.out) rfl rfl) rfl ?_
          exact HFIN.out w9 _ [] HB9.out (.inl ⟨rfl, rfl⟩) (by simp) (by rw [HMB.out, if_neg (by rw [HQ.out]; simp), HBS.out])
        | succ q =>
          have hal9 : Below w9.heap.size w9 (w9.alloc (.cells #[.string id, .string ⟨#[97, 108, 108]⟩] 52)) := (Below.refl _ _).alloc (Nat.le_refl _) _
          have hx9 := row_below (row_below HXP.out hb9) hal9
          clear d0 d1 d2 d3 d4 d5 d6 d7 d8 d9 d10
          obtain ⟨e0', e1', e2', e3', e4', e5', e6', e7', e8', e9', e10'⟩ := cells11 (row_below HAT.out.out.row hb9)
          obtain ⟨d0, d1, d2, d3, d4, d5, d6, d7, d8, d9, d10⟩ := cells11 (row_below (row_below HAT.out.out.row hb9) hal9)
          obtain ⟨j0, j1, j2, j3, j4, j5, j6, j7, j8, j9, j10⟩ := frozen11 hx9
          obtain ⟨m0, n1, n2, n3, n4, n5, n6, n7, n8, n9, n10⟩ := cells11 hx9
          have HX9 := Lib.hid hx9
          clear hx9 hb9 hal9
          simp only [errV]
          go_wp2
          refine bodyPost_ret (res_fl (put11_row HX9.out) rfl rfl) rfl ?_
          refine HFIN.out (w9.alloc (.cells #[.string id, .string ⟨#[97, 108, 108]⟩] 52)) _ [allB] (HB9.out.alloc HB9.out.size _) (.inr ⟨w9.heap.size, 0, 1, rfl, fun j hj => ?_⟩) (by simp) (by rw [HMB.out, if_pos ⟨HBS.out, by rw [HQ.out]; simp⟩])
          obtain rfl : j = 0 := by simpa using hj
          refine at2_box (t := 52) (x := id) (y := allB) ?_
          rw [(put11_only ..).block _ (by have := HPW.out; have := HB9.out.size; omega)]
          exact heap_new w9 _
      · have hmp : 0 < m := by rw [HM.out]; exact List.length_pos_iff.2 hb
        obtain ⟨g, cap, cur, ev, hge, hrg, h4, h5, h6, h7⟩ := (HAT.out.own.2).resolve_left (by rintro ⟨_, h⟩; exact hb (List.length_eq_zero_iff.1 h))
        have HOWN := Lib.hid HAT.out.own
        injection ev with ev1 ev2 ev3
        subst ev1 ev3
        have HGE := Lib.hid hge
        have HBS := Lib.hid hb
        have hnn : bs.length = m := HM.out.symm
        have HNN := Lib.hid hnn
        obtain ⟨j0, j1, j2, j3, j4, j5, j6, j7, j8, j9, j10⟩ := frozen11 hxp
        obtain ⟨m0, n1, n2, n3, n4, n5, n6, n7, n8, n9, n10⟩ := cells11 hxp
        clear hb hfin hpw hxp hmx hmb hms hob hall hge hrg h4 h5 h6 h7 ev2 hnn hmp
        go_wp2
        refine bodyPost_ret (res_fl (put11_row HXP.out) rfl rfl) rfl ?_
        refine HFIN.out wr (.slice (some ⟨g, 0, none⟩) m _) bs (Below.refl _ _) ?_ ⟨fun h => absurd h HBS.out, fun h => by injection h with h; cases h⟩ (by rw [HMB.out, if_neg (fun h => HBS.out h.1)])
        exact xreads_own (own_farc HOWN.out (put11_only ..).far (show p < w8.heap.size by have := HB8.out.size; have := (Array.getElem?_eq_some_iff.1 HX.out).1; omega)) (by rw [List.length_map])
end Mg
end Go.Proofs.YtghkalamlcfnnaaGreatDoor
