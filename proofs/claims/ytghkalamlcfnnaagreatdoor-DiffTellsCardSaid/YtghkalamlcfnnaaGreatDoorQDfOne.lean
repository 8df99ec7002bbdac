/- package diff: get, one. -/
import Derived.Test.YtghkalamlcfnnaaGreatDoorQC2
import Derived.Test.YtghkalamlcfnnaaGreatDoorQC1
import Derived.BigQuiet
namespace Go.Proofs.YtghkalamlcfnnaaGreatDoor
open Go Go.RowKit Go.Shelf Lmd
attribute [local go_sem] Oper.semAt_some
namespace Df
open Evt Bk Tp Rul Day Cand Er
theorem res_dget {W : World} {b : Nat} {a0 a1 a2 a3 a4 a5 a6 a7 a8 a9 a10 er : Value} {tmps : Array Value} (h : W.heap[b]? = some (.cells #[a0, a1, a2, a3, a4, a5, a6, a7, a8, a9, a10] 40 (0, 0))) (h2 : tmps.getD 4 undef = .pointer (some ⟨b, 0, none⟩)) (h3 : tmps.getD 5 undef = er) :
    (results Tryz.f92 tmps).run Tryz.prog W = .ok (.tuple #[.agg #[a0, a1, a2, a3, a4, a5, a6, a7, a8, a9, a10], er]) W := by
  obtain ⟨q0, q1, q2, q3, q4, q5, q6, q7, q8, q9, q10⟩ := cells11 h
  have h2' : tmps[4]?.getD undef = .pointer (some ⟨b, 0, none⟩) := by simpa using h2
  have h3' : tmps[5]?.getD undef = er := by simpa using h3
  simp [results, Tryz.f92, go_sem, h2', h3', q0, q1, q2, q3, q4, q5, q6, q7, q8, q9, q10]
set_option maxRecDepth 100000 in
set_option maxHeartbeats 4000000 in
theorem dget_any (w : World) (B : Nat) (p : Option Addr) (L : List Ev) (s : ByteArray) (h : BookO w B p L) (hs : s.size ≤ 9223372036854775807) :
    Calls Tryz.prog 92 #[.pointer p, .string s] w (GotE w s.data.toList L) := by
  obtain ⟨W, hW⟩ : ∃ W, w.alloc (.cells zeroV 40) = W := ⟨_, rfl⟩
  have hB : Below w.heap.size w W := by rw [← hW]; exact (Below.refl _ w).alloc (Nat.le_refl _) _
  have hx : W.heap[w.heap.size]? = some (.cells zeroV 40) := by rw [← hW]; exact heap_new w _
  have HW := Lib.hid hW
  have HB := Lib.hid hB
  have HX := Lib.hid hx
  rcases h with ⟨rfl, rfl⟩ | ⟨b, m, rfl, h⟩
  · obtain ⟨j0, j1, j2, j3, j4, j5, j6, j7, j8, j9, j10⟩ := cells11 hx
    obtain ⟨z0, z1, z2, z3, z4, z5, z6, z7, z8, z9, z10⟩ := frozen11 hx
    clear hW hB hx
    go_enter Tryz.func92, Tryz.ntmps92
    go_upto_region 1 with fail
    rw [HW.out]
    go_wp2
    refine bodyPost_ret (res_dget (put11_row HX.out) rfl rfl) rfl ?_
    refine ⟨.slice none 0 0, .slice none 0 0, .slice none 0 0, ?_, ?_, ?_, ?_, ?_, HB.out.trans ((put11_only ..).below (Nat.le_refl _))⟩
    · rfl
    · rw [foundE_none (by rfl)]; exact Bk.zero_rv _
    · intro g e; cases e
    · intro g e; cases e
    · intro g e; cases e
  · have hg := fun W' (hw : Below w.heap.size w W') => Bk.get_any W' B b m L s (h.below hw) hs
    unfold GotE at hg ⊢
    obtain ⟨e, he⟩ : ∃ e, foundE s.data.toList L = e := ⟨_, rfl⟩
    obtain ⟨is, his⟩ : ∃ is, hasK s.data.toList L = is := ⟨_, rfl⟩
    rw [he, his] at hg ⊢
    have HG := Lib.hid (hg W hB)
    clear hW hB hx hg h he his
    go_enter Tryz.func92, Tryz.ntmps92
    go_upto_region 1 with fail
    rw [HW.out]
    go_wp2_with fail
    (with_reducible refine HG.out.mono ?_)
    rintro e1 w1 ⟨vd1, vs1, vm1, rfl, hr1, f1, f2, f3, hb1⟩
    obtain ⟨b1, d1, rfl⟩ := hr1.d.shape
    obtain ⟨b2, d2, rfl⟩ := hr1.s.shape
    obtain ⟨b3, d3, rfl⟩ := hr1.m.shape
    have hx1 := row_below HX.out hb1
    have HX1 := Lib.hid hx1
    have HR1 := Lib.hid hr1
    have HF := Lib.hid (And.intro f1 (And.intro f2 f3))
    have hlt : w.heap.size < W.heap.size := (Array.getElem?_eq_some_iff.1 HX.out).1
    have HB3 := Lib.hid (HB.out.trans (hb1.mono (by omega)))
    clear hr1 f1 f2 f3 hb1
    obtain ⟨y0, y1, y2, y3, y4, y5, y6, y7, y8, y9, y10⟩ := cells11 hx1
    obtain ⟨z0, z1, z2, z3, z4, z5, z6, z7, z8, z9, z10⟩ := frozen11 hx1
    clear hx1
    go_wp2
    refine bodyPost_ret (res_dget (put11_row HX1.out) rfl rfl) rfl ?_
    obtain ⟨f1, f2, f3⟩ := HF.out
    exact ⟨_, _, _, rfl, (put11_only ..).rv HR1.out (off_from f1 (by omega)) (off_from f2 (by omega)) (off_from f3 (by omega)), f1.mono (by omega), f2.mono (by omega), f3.mono (by omega), HB3.out.trans ((put11_only ..).below (Nat.le_refl _))⟩
theorem own_built4 (w : World) (c : Chg) : (w.alloc (.cells c.cells 55)).ownsRow w.heap.size 55 4 (.slice (some ⟨w.heap.size, 0, none⟩) 1 1) 1 (cellsC [c]) :=
  ⟨rfl, .inr ⟨w.heap.size, 1, c.cells, rfl, Nat.le_refl _, heap_new w _, Nat.le_refl _, by simp [maxLen], rfl, rfl⟩⟩
theorem own_later4 {w w' : World} {base n : Nat} {v : Value} {xs : List Value} (h : w.ownsRow base 55 4 v n xs) (hb : Below w.heap.size w w') : w'.ownsRow base 55 4 v n xs := by
  refine ⟨h.1, ?_⟩
  rcases h.2 with h0 | ⟨g, cap, cur, e, hg, hgg, rest⟩
  · exact .inl h0
  · exact .inr ⟨g, cap, cur, e, hg, row_below' hgg hb, rest⟩
theorem own4_base {w : World} {base b2 n : Nat} {v : Value} {xs : List Value} (h : w.ownsRow base 55 4 v n xs) (hb : b2 ≤ base) : w.ownsRow b2 55 4 v n xs := by
  refine ⟨h.1, ?_⟩
  rcases h.2 with h0 | ⟨g, cap, cur, e, hg, rest⟩
  · exact .inl h0
  · exact .inr ⟨g, cap, cur, e, Nat.le_trans hb hg, rest⟩
def selC (gx gy : ByteArray → ByteArray) (id : ByteArray) (k : Nat) : List Chg := ((fieldL.take k).filter fun f => decide (gx f ≠ gy f)).map fun f => ⟨id, f, gx f, gy f⟩
theorem selC_step (gx gy : ByteArray → ByteArray) (id : ByteArray) {k : Nat} (hk : k < 6) : selC gx gy id (k + 1) = selC gx gy id k ++ (if gx (fAt k) = gy (fAt k) then [] else [⟨id, fAt k, gx (fAt k), gy (fAt k)⟩]) := by
  have h1 : fieldL.take (k + 1) = fieldL.take k ++ [fAt k] := by
    have hl : k < fieldL.length := hk
    rw [List.take_succ_eq_append_getElem hl]
    congr 2
    show _ = fieldL.getD k ByteArray.empty
    rw [List.getD_eq_getElem?_getD, List.getElem?_eq_getElem hl]; rfl
  unfold selC
  rw [h1, List.filter_append, List.map_append, List.filter_cons]
  by_cases h : gx (fAt k) = gy (fAt k)
  · rw [if_pos h, if_neg (by simpa using h)]; simp
  · rw [if_neg h, if_pos (by simpa using h)]; simp
theorem selC_len (gx gy : ByteArray → ByteArray) (id : ByteArray) (k : Nat) (hk : k ≤ 6) : (selC gx gy id k).length ≤ 6 := by
  unfold selC
  rw [List.length_map]
  refine Nat.le_trans (List.length_filter_le _ _) ?_
  rw [List.length_take]; omega
def OneP (w : World) (id : ByteArray) (a b : List Ev) (r : Ending) (w' : World) : Prop :=
  ∃ v, r = .returned v ∧ w'.ownsRow w.heap.size 55 4 v (difF fieldL a b id).length (cellsC (difF fieldL a b id)) ∧ Below w.heap.size w w'
theorem fit_or {w : World} {B : Nat} {p : Option Addr} {L : List Ev} (h : BookO w B p L) (k : List UInt8) : Size (foundE k L) := by
  cases hh : hasK k L with
  | true => exact h.fit _ (foundE_has hh).1
  | false => rw [foundE_none hh]; exact ⟨by decide, by decide, by decide, by decide, by decide⟩
theorem getF_any (e : Ev) (vd vs vm : Value) (f : ByteArray) (er : Nat → Addr) (w : World) (hT : Tb w er) (hr : Rv w e vd vs vm) (hz : Size e) (hbad : badE e = 0) :
    Calls Tryz.prog 94 #[.agg (e.cells vd vs vm), .string f] w fun r w' => r = .returned (.string (getL e f)) ∧ Below w.heap.size w w' :=
  Evt.get_any e vd vs vm f er w hT hr hz (by have := (badE_zero hbad).2.2.2.1; omega) (by have := (badE_zero hbad).2.2.2.1; omega) (movesC hT hr.m (etextW_le hbad))
set_option maxRecDepth 100000 in
set_option maxHeartbeats 8000000 in
theorem one_any (w : World) (B B' : Nat) (p p' : Option Addr) (a b : List Ev) (id : ByteArray) (er : Nat → Addr) (hT : Tb w er) (ha : BookO w B p a) (hb : BookO w B' p' b) (hid : id.size ≤ 9223372036854775807) (hin : hasK id.data.toList a = true ∨ hasK id.data.toList b = true) :
    Calls Tryz.prog 56 #[.string id, .pointer p, .pointer p'] w (OneP w id a b) := by
  have hga := dget_any w B p a id ha hid
  have hgb := fun W (hw : Below w.heap.size w W) => dget_any W B' p' b id (hb.below hw) hid
  unfold GotE at hga hgb
  have hzx := fit_or ha id.data.toList
  have hzy := fit_or hb id.data.toList
  have hbx : hasK id.data.toList a = true → badE (foundE id.data.toList a) = 0 := fun h => ha.good _ (foundE_has h).1
  have hby : hasK id.data.toList b = true → badE (foundE id.data.toList b) = 0 := fun h => hb.good _ (foundE_has h).1
  have hd : difF fieldL a b id = if hasK id.data.toList a = false then [⟨id, allB, nilB, mk (textE (foundE id.data.toList b))⟩] else if hasK id.data.toList b = false then [⟨id, allB, mk (textE (foundE id.data.toList a)), nilB⟩] else selC (getL (foundE id.data.toList a)) (getL (foundE id.data.toList b)) id 6 := rfl
  unfold OneP
  obtain ⟨x, hx⟩ : ∃ x, foundE id.data.toList a = x := ⟨_, rfl⟩
  obtain ⟨y, hy⟩ : ∃ y, foundE id.data.toList b = y := ⟨_, rfl⟩
  obtain ⟨q1, hq1⟩ : ∃ q, hasK id.data.toList a = q := ⟨_, rfl⟩
  obtain ⟨q2, hq2⟩ : ∃ q, hasK id.data.toList b = q := ⟨_, rfl⟩
  rw [hx, hq1] at hga hbx
  rw [hx] at hzx
  simp only [hy, hq2] at hgb hby
  rw [hy] at hzy
  rw [hq1, hq2] at hin
  rw [hx, hy, hq1, hq2] at hd
  obtain ⟨D, hD⟩ : ∃ D, difF fieldL a b id = D := ⟨_, rfl⟩
  rw [hD] at hd ⊢
  have hd1 : q1 = false → D = [⟨id, allB, nilB, mk (textE y)⟩] := fun h => by rw [hd, if_pos h]
  have hd2 : q1 = true → q2 = false → D = [⟨id, allB, mk (textE x), nilB⟩] := fun h h2 => by rw [hd, if_neg (by rw [h]; simp), if_pos h2]
  have hd3 : q1 = true → q2 = true → D = selC (getL x) (getL y) id 6 := fun h h2 => by rw [hd, if_neg (by rw [h]; simp), if_neg (by rw [h2]; simp)]
  have HD1 := Lib.hid hd1
  have HD2 := Lib.hid hd2
  have HD3 := Lib.hid hd3
  have HT := Lib.hid hT
  have HGA := Lib.hid hga
  have HGB := Lib.hid hgb
  have HZX := Lib.hid hzx
  have HZY := Lib.hid hzy
  have HBX := Lib.hid hbx
  have HBY := Lib.hid hby
  have HIN := Lib.hid hin
  clear hT ha hb hga hgb hzx hzy hbx hby hd hx hy hq1 hq2 hin hD hd1 hd2 hd3
  go_enter Tryz.func56, Tryz.ntmps56
  go_wp2_with fail
  (with_reducible refine HGA.out.mono ?_)
  rintro e1 w1 ⟨xd, xs, xm, rfl, hr1, _, _, _, hb1⟩
  obtain ⟨b1, d1, rfl⟩ := hr1.d.shape
  obtain ⟨b2, d2, rfl⟩ := hr1.s.shape
  obtain ⟨b3, d3, rfl⟩ := hr1.m.shape
  go_upto_region 2 with fail
  obtain ⟨W1, hW1⟩ : ∃ W1, w1.alloc (.cells (x.cells (.slice b1 x.ru.ds.length d1) (.slice b2 x.sk.length d2) (.slice b3 x.mv.length d3)) 40) = W1 := ⟨_, rfl⟩
  have hbw1 : Below w1.heap.size w1 W1 := by rw [← hW1]; exact (Below.refl _ w1).alloc (Nat.le_refl _) _
  have hx1 : W1.heap[w1.heap.size]? = some (.cells (x.cells (.slice b1 x.ru.ds.length d1) (.slice b2 x.sk.length d2) (.slice b3 x.mv.length d3)) 40) := by rw [← hW1]; exact heap_new w1 _
  have HB1 := Lib.hid (hb1.trans (hbw1.mono hb1.size))
  have HR1 := Lib.hid (hr1.below hbw1)
  have HX1 := Lib.hid hx1
  rw [hW1]
  clear hb1 hr1 hbw1 hx1 hW1
  go_wp2_with fail
  (with_reducible refine (HGB.out _ HB1.out).mono ?_)
  rintro e2 w2 ⟨yd, ys, ym, rfl, hr2, _, _, _, hb2⟩
  obtain ⟨c1, f1, rfl⟩ := hr2.d.shape
  obtain ⟨c2, f2, rfl⟩ := hr2.s.shape
  obtain ⟨c3, f3, rfl⟩ := hr2.m.shape
  go_upto_region 3 with fail
  obtain ⟨W2, hW2⟩ : ∃ W2, w2.alloc (.cells (y.cells (.slice c1 y.ru.ds.length f1) (.slice c2 y.sk.length f2) (.slice c3 y.mv.length f3)) 40) = W2 := ⟨_, rfl⟩
  have hbw2 : Below w2.heap.size w2 W2 := by rw [← hW2]; exact (Below.refl _ w2).alloc (Nat.le_refl _) _
  have hy2 : W2.heap[w2.heap.size]? = some (.cells (y.cells (.slice c1 y.ru.ds.length f1) (.slice c2 y.sk.length f2) (.slice c3 y.mv.length f3)) 40) := by rw [← hW2]; exact heap_new w2 _
  have hba := hb2.trans (hbw2.mono hb2.size)
  have HB2 := Lib.hid (HB1.out.trans (hba.mono HB1.out.size))
  have HRX := Lib.hid (HR1.out.below hba)
  have HRY := Lib.hid (hr2.below hbw2)
  have HX := Lib.hid (row_below HX1.out hba)
  have HY := Lib.hid hy2
  rw [hW2]
  clear hb2 hr2 hbw2 hy2 hW2 hba
  cases q1 with
  | false =>
    have hq2 : q2 = true := HIN.out.resolve_left (by simp)
    have HDX := Lib.hid (HD1.out rfl)
    have hbad := HBY.out hq2
    have hte := etext_any y _ _ _ er W2 (HT.out.below HB2.out) HRY.out HZY.out
    rw [if_pos hbad] at hte
    obtain ⟨k0, k1, k2, k3, k4, k5, k6, k7, k8, k9, k10⟩ := cells11 HY.out
    have HTE := Lib.hid hte
    obtain ⟨TE, hTE⟩ : ∃ T, mk (textE y) = T := ⟨_, rfl⟩
    rw [hTE] at HTE
    have HEQ := Lib.hid hTE
    clear hbad hte hTE
    go_wp2_with fail
    (with_reducible refine HTE.out.mono ?_)
    rintro e3 w3 ⟨rfl, hb3⟩
    have HB3 := Lib.hid (HB2.out.trans (hb3.mono HB2.out.size))
    clear hb3 k0 k1 k2 k3 k4 k5 k6 k7 k8 k9 k10
    go_wp2
    go_ret
    refine ⟨_, rfl, ?_, HB3.out.alloc HB3.out.size _⟩
    rw [HDX.out, HEQ.out]
    exact own4_base (own_built4 w3 ⟨id, allB, nilB, TE⟩) HB3.out.size
  | true =>
    cases q2 with
    | false =>
      have HDX := Lib.hid (HD2.out rfl rfl)
      have hbad := HBX.out rfl
      have hte := etext_any x _ _ _ er W2 (HT.out.below HB2.out) HRX.out HZX.out
      rw [if_pos hbad] at hte
      obtain ⟨k0, k1, k2, k3, k4, k5, k6, k7, k8, k9, k10⟩ := cells11 HX.out
      have HTE := Lib.hid hte
      obtain ⟨TE, hTE⟩ : ∃ T, mk (textE x) = T := ⟨_, rfl⟩
      rw [hTE] at HTE
      have HEQ := Lib.hid hTE
      clear hbad hte hTE
      go_wp2_with fail
      (with_reducible refine HTE.out.mono ?_)
      rintro e3 w3 ⟨rfl, hb3⟩
      have HB3 := Lib.hid (HB2.out.trans (hb3.mono HB2.out.size))
      clear hb3 k0 k1 k2 k3 k4 k5 k6 k7 k8 k9 k10
      go_wp2
      go_ret
      refine ⟨_, rfl, ?_, HB3.out.alloc HB3.out.size _⟩
      rw [HDX.out, HEQ.out]
      exact own4_base (own_built4 w3 ⟨id, allB, TE, nilB⟩) HB3.out.size
    | true =>
      have hD3 := HD3.out rfl rfl
      have hgx := fun (f : ByteArray) W (hw : Below W2.heap.size W2 W) => getF_any x _ _ _ f er W ((HT.out.below HB2.out).below hw) (HRX.out.below hw) HZX.out (HBX.out rfl)
      have hgy := fun (f : ByteArray) W (hw : Below W2.heap.size W2 W) => getF_any y _ _ _ f er W ((HT.out.below HB2.out).below hw) (HRY.out.below hw) HZY.out (HBY.out rfl)
      obtain ⟨gx, hgx'⟩ : ∃ g, getL x = g := ⟨_, rfl⟩
      obtain ⟨gy, hgy'⟩ : ∃ g, getL y = g := ⟨_, rfl⟩
      simp only [hgx'] at hgx
      simp only [hgy'] at hgy
      rw [hgx', hgy'] at hD3
      have HDX := Lib.hid hD3
      have HGX := Lib.hid hgx
      have HGY := Lib.hid hgy
      have HFL := Lib.hid (fields_low W2)
      clear hgx hgy hgx' hgy' hD3
      go_wp2_with fail
      (with_reducible refine HFL.out.mono ?_)
      rintro e3 w3 ⟨rfl, hf3, hb3⟩
      have HF3 := Lib.hid hf3
      have HB3 := Lib.hid hb3
      have hs3 : W2.heap.size < w3.heap.size := (Array.getElem?_eq_some_iff.1 hf3).1
      clear hf3 hb3
      go_wp2_with fail
      go_loopw [11, 13, 14, 15, 46] (fun v11 _ _ _ i wr => ∃ (k : Nat) (n : Nat) (a9 : Option Addr) (c9 : Nat), k ≤ 6 ∧ i = .int .i64 (k : Int) ∧ n = (selC gx gy id k).length ∧ v11 = .slice a9 n c9 ∧ wr.ownsRow w3.heap.size 55 4 (.slice a9 n c9) (selC gx gy id k).length (cellsC (selC gx gy id k)) ∧ Below w3.heap.size w3 wr) (fun _ _ _ _ i _ => 6 - (intOf i).toNat)
      case atStart => exact ⟨0, 0, none, 0, Nat.zero_le _, rfl, rfl, rfl, ⟨rfl, .inl ⟨rfl, rfl⟩⟩, Below.refl _ _⟩
      case round =>
        obtain ⟨k, n, a9, c9, hk, rfl, hn, rfl, hown, hbr⟩ := hrel
        have hnl : n ≤ 6 := by rw [hn]; exact selC_len gx gy id k hk
        have HN := Lib.hid hn
        have HOWN := Lib.hid hown
        have HBR := Lib.hid hbr
        clear hn hown hbr
        by_cases hlt : k < 6
        · have c1 := field_cell (row_below' HF3.out HBR.out) hlt
          have hst := selC_step gx gy id hlt
          obtain ⟨f, hf⟩ : ∃ f, fAt k = f := ⟨_, rfl⟩
          have hf2 : fieldL.getD k ByteArray.empty = f := hf
          rw [hf2] at c1
          rw [hf] at hst
          have hbr2 : Below W2.heap.size W2 wr := HB3.out.trans (HBR.out.mono HB3.out.size)
          have HBR2 := Lib.hid hbr2
          have hX := row_below HX.out hbr2
          have hY := row_below HY.out hbr2
          obtain ⟨k0, k1, k2, k3, k4, k5, k6, k7, k8, k9, k10⟩ := cells11 hX
          obtain ⟨j0, j1, j2, j3, j4, j5, j6, j7, j8, j9, j10⟩ := cells11 hY
          obtain ⟨S, hS⟩ : ∃ S, gx f = S := ⟨_, rfl⟩
          obtain ⟨T, hT⟩ : ∃ T, gy f = T := ⟨_, rfl⟩
          rw [hS, hT] at hst
          have hgx := fun W hw => HGX.out f W hw
          have hgy := fun W hw => HGY.out f W hw
          rw [hS] at hgx
          rw [hT] at hgy
          have HGX' := Lib.hid hgx
          have HGY' := Lib.hid hgy
          have HST := Lib.hid hst
          have hacc : Below W2.heap.size W2 wr.drew := Tp.below_drew hbr2
          clear hbr2 hX hY hS hT hst hf hf2 hgx hgy
          go_upto_region 11 with fail
          go_cut [14, 15] from 47 to 66 (fun s14 s15 wc => s14 = .string S ∧ s15 = .string T ∧ Below wr.heap.size wr wc)
          case first =>
            have hst0 : Below wr.heap.size wr wr.drew := Tp.below_drew (Below.refl _ wr)
            go_region_with (first
              | ((with_reducible refine (HGX'.out _ hacc).mono ?_)
                 rintro e4 w4 ⟨rfl, hb4⟩
                 replace hacc := hacc.trans (hb4.mono hacc.size)
                 replace hst0 := hst0.trans (hb4.mono hst0.size)
                 obtain ⟨u0, u1, u2, u3, u4, u5, u6, u7, u8, u9, u10⟩ := cells11 (row_below HX.out hacc)
                 obtain ⟨v0, v1, v2, v3, v4, v5, v6, v7, v8, v9, v10⟩ := cells11 (row_below HY.out hacc)
                 clear hb4)
              | ((with_reducible refine (HGY'.out _ hacc).mono ?_)
                 rintro e4 w4 ⟨rfl, hb4⟩
                 replace hacc := hacc.trans (hb4.mono hacc.size)
                 replace hst0 := hst0.trans (hb4.mono hst0.size)
                 obtain ⟨u0, u1, u2, u3, u4, u5, u6, u7, u8, u9, u10⟩ := cells11 (row_below HX.out hacc)
                 obtain ⟨v0, v1, v2, v3, v4, v5, v6, v7, v8, v9, v10⟩ := cells11 (row_below HY.out hacc)
                 clear hb4))
            all_goals (
              go_wp2_with fail
              go_meet
              exact ⟨rfl, rfl, hst0⟩)
          case rest =>
            obtain ⟨rfl, rfl, hbc⟩ := hcut
            have HBC := Lib.hid hbc
            clear hbc hacc k0 k1 k2 k3 k4 k5 k6 k7 k8 k9 k10 j0 j1 j2 j3 j4 j5 j6 j7 j8 j9 j10
            by_cases he : S = T
            · have h2 : (S.toList == T.toList) = true := by rw [he]; exact beq_self_eq_true _
              have HE := Lib.hid he
              clear he
              go_wp2_with fail
              go_roundw
              case rel =>
                refine ⟨k + 1, n, a9, c9, by omega, by go_num, ?_, rfl, ?_, HBR.out.trans (HBC.out.mono HBR.out.size)⟩
                · rw [HST.out, if_pos HE.out, List.append_nil]; exact HN.out
                · rw [HST.out, if_pos HE.out, List.append_nil]; exact own_later4 HOWN.out HBC.out
              case measure => simp [intOf]; omega
            · have h2 : (S.toList == T.toList) = false := Tx.ba_ne he
              have HE := Lib.hid he
              have hcs := HBC.out.size
              have hbs := HBR.out.size
              clear he
              go_wp2_with (at_builtin
                           refine append_ch rfl (.tmp 59) (.tmp 65) rfl w3.heap.size (.slice a9 n c9) (selC gx gy id k) rfl ((own_later4 HOWN.out HBC.out).alloc _) wc.heap.size ⟨id, f, S, T⟩ rfl (at4_box (heap_new wc _)) (by rw [← HN.out]; omega) (by simp; omega) ?_
                           intro a8 c8 w8 hown8 hb8
                           rw [← HN.out]
                           have HO8 := Lib.hid hown8
                           have HB8 := Lib.hid hb8
                           clear hown8 hb8)
              go_roundw
              case rel =>
                have hl8 : (selC gx gy id (k + 1)).length = n + 1 := by rw [HST.out, if_neg HE.out, List.length_append, ← HN.out]; rfl
                refine ⟨k + 1, n + 1, a8, c8, by omega, by go_num, hl8.symm, rfl, ?_, ?_⟩
                · rw [HST.out, if_neg HE.out]
                  have h9 := HO8.out
                  rw [← HN.out] at h9
                  exact h9
                · exact (((HBR.out.trans (HBC.out.mono HBR.out.size)).alloc (by omega) _)).trans HB8.out
              case measure => simp [intOf]; omega
        · obtain rfl : k = 6 := by omega
          go_wp2
          go_ret
          refine ⟨_, rfl, by rw [HDX.out]; exact own4_base HOWN.out (by have := HB2.out.size; omega), ?_⟩
          exact (HB2.out.trans (HB3.out.mono HB2.out.size)).trans (HBR.out.mono (by have := HB2.out.size; omega))
end Df
end Go.Proofs.YtghkalamlcfnnaaGreatDoor
