/- BkOf, BkRPut, BkOfW, BkLong, Texts: texts joined. -/
import Derived.Test.YtghkalamlcfnnaaGreatDoorQBkBook
import Derived.Test.YtghkalamlcfnnaaGreatDoorQBkRef
import Derived.Deep.CutRange
import Derived.Test.YtghkalamlcfnnaaGreatDoorQA6
import Derived.Test.YtghkalamlcfnnaaGreatDoorQRuleText
import Derived.Deep.QuietTactic
import Derived.BigQuiet
import Derived.Laws.AppendOwnNone
import Derived.OwnWalk
section
namespace Go.Proofs.YtghkalamlcfnnaaGreatDoor
open Go Go.RowKit Go.Shelf Lmd
attribute [local go_sem] Oper.semAt_some
namespace Bk
open Evt Tp Rul Day Cand Er
def BoxS (w : World) (k : Nat) : Prop := ∃ a n c t, w.heap[k]? = some (.cells #[.slice a n c] t)
theorem box_cell {w : World} {k o : Nat} {v : Value} (h : BoxS w k) (hc : w.cell? ⟨k, o, none⟩ = some v) : ∃ a n c, v = .slice a n c := by
  obtain ⟨a, n, c, t, he⟩ := h
  simp only [World.cell?, he] at hc
  cases o with
  | zero => simp at hc; exact ⟨a, n, c, hc.symm⟩
  | succ o => simp at hc
theorem off_box {w : World} {k : Nat} {v : Value} {xs : List Int} (hk : BoxS w k) (hr : Ints.Reads w v xs) : Off k v := by
  rintro g o n c rfl hn e
  subst e
  rcases hr with ⟨_, a, c', e⟩ | ⟨b, off, c', e, hc⟩
  · cases e; exact hn rfl
  · cases e
    obtain ⟨_, _, _, h⟩ := box_cell hk (hc 0 (by omega))
    cases h
theorem off_boxm {w : World} {k : Nat} {v : Value} {xs : List (Int × Int)} (hk : BoxS w k) (hr : MReads w v xs) : Off k v := by
  rintro g o n c rfl hn e
  subst e
  rcases hr with ⟨_, a, c', e⟩ | ⟨b, off, c', e, hc⟩
  · cases e; exact hn rfl
  · cases e
    obtain ⟨_, _, _, h⟩ := box_cell hk (hc 0 (by omega)).1
    cases h
theorem rv_box {w w' : World} {k : Nat} {e : Ev} {vd vs vm : Value} (hk : BoxS w k) (hf : Far (fun j => j = k) w w') (h : Rv w e vd vs vm) : Rv w' e vd vs vm :=
  off_far hf h (off_box hk h.d) (off_box hk h.s) (off_boxm hk h.m)
theorem Book.boxS {w w' : World} {B b m k : Nat} {L : List Ev} (h : Book w B b m L) (hk : BoxS w k) (hf : Far (fun j => j = k) w w') : Book w' B b m L := by
  have hb : b ≠ k := by
    rintro rfl
    obtain ⟨_, _, _, e⟩ := box_cell hk (cell1 h.box)
    cases e
  have hm : m ≠ k := by
    rintro rfl
    obtain ⟨es, clock, he⟩ := h.isMap
    obtain ⟨a, n, c, t, hk⟩ := hk
    rw [he] at hk; cases hk
  refine ⟨?_, h.lo, h.lom, ?_, h.asc, h.good, h.fit, h.few⟩
  · rw [hf.block b (Array.getElem?_eq_some_iff.1 h.box).1 hb]; exact h.box
  · obtain ⟨D, h1, h2⟩ := h.map
    refine ⟨D, h1.kept (row := some k) ⟨hf.os, hf.tape, hf.output, hf.size, fun j hj hne => hf.block j hj (fun e => hne (by rw [e]))⟩ (by simpa using hm), h2.has, fun e he => ?_, h2.size⟩
    obtain ⟨vd, vs, vm, r1, r2, r3⟩ := h2.ev e he
    exact ⟨vd, vs, vm, r1, rv_box hk hf r2, r3⟩
theorem EReads.boxS {w w' : World} {k : Nat} {v : Value} {xs : List EvV} (h : EReads w v xs) (hk : BoxS w k) (hf : Far (fun j => j = k) w w') : EReads w' v xs := by
  rcases h with h | ⟨b, off, c, rfl, hc⟩
  · exact .inl h
  · refine .inr ⟨b, off, c, rfl, fun j hj => ?_⟩
    obtain ⟨h1, h2⟩ := hc j hj
    have hb : b ≠ k := by
      rintro rfl
      obtain ⟨_, _, _, e⟩ := box_cell hk h1.k0
      cases e
    refine ⟨?_, rv_box hk hf h2⟩
    exact ⟨far_cell hf h1.k0 hb, far_cell hf h1.k1 hb, far_cell hf h1.k2 hb, far_cell hf h1.k3 hb, far_cell hf h1.k4 hb, far_cell hf h1.k5 hb, far_cell hf h1.k6 hb, far_cell hf h1.k7 hb, far_cell hf h1.k8 hb, far_cell hf h1.k9 hb, far_cell hf h1.k10 hb⟩
theorem far_set (w : World) (k : Nat) (u : Value) : Far (fun j => j = k) w (w.setCell ⟨k, 0, none⟩ u) := (Far.refl (fun j => j = k) w).set (p := ⟨k, 0, none⟩) rfl u
def bookL (l : List Ev) : List Ev := l.foldl (fun L e => putL e L) []
theorem bookL_snoc (l : List Ev) (e : Ev) : bookL (l ++ [e]) = putL e (bookL l) := by simp [bookL, List.foldl_append]
end Bk
end Go.Proofs.YtghkalamlcfnnaaGreatDoor
end
section
namespace Go.Proofs.YtghkalamlcfnnaaGreatDoor
open Go Go.RowKit Go.Shelf Lmd
attribute [local go_sem] Oper.semAt_some
namespace Bk
open Evt Tp Rul Day Cand Er
theorem res_rput {W : World} {b : Nat} {v er : Value} {tmps : Array Value} (h : W.heap[b]? = some (.cells #[v] 27 (0, 0))) (h2 : tmps.getD 4 undef = .pointer (some ⟨b, 0, none⟩)) (h3 : tmps.getD 5 undef = er) :
    (results Tryz.f36 tmps).run Tryz.prog W = .ok (.tuple #[.agg #[v], er]) W := by
  have q0 := cell1 h
  have h2' : tmps[4]?.getD undef = .pointer (some ⟨b, 0, none⟩) := by simpa using h2
  have h3' : tmps[5]?.getD undef = er := by simpa using h3
  simp [results, Tryz.f36, go_sem, h2', h3', q0]
def putV (y : EvV) (xs : List EvV) : List EvV := if putK y.e (xs.map (·.e)) = 0 then gput1 keyV y (gwithout keyV (keyV y) xs) else xs
theorem putV_map (y : EvV) (xs : List EvV) : (putV y xs).map (·.e) = putL y.e (xs.map (·.e)) := by
  unfold putV putL
  split
  · rw [gput1_map keyV (·.e) (fun _ => rfl), gwithout_map keyV (·.e) (fun _ => rfl)]; rfl
  · rfl
def RPut (w : World) (y : EvV) (xs : List EvV) (r : Ending) (w' : World) : Prop :=
  ∃ v', r = .returned (.tuple #[.agg #[v'], .int .i64 (putK y.e (xs.map (·.e)) : Nat)]) ∧ EReads w' v' (putV y xs) ∧ Below w.heap.size w w'
set_option maxRecDepth 100000 in
set_option maxHeartbeats 8000000 in
theorem rput_any (xs : List EvV) (v : Value) (y : EvV) (w : World) (hr : EReads w v xs) (hy : y.rv w) (hz : Size y.e) (hl : xs.length ≤ 1000) :
    Calls Tryz.prog 36 #[.agg #[v], .agg y.cells] w (RPut w y xs) := by
  obtain ⟨e, vd, vs, vm⟩ := y
  change Rv w e vd vs vm at hy
  change Size e at hz
  unfold RPut
  obtain ⟨a6, c6', rfl⟩ := hy.d.shape
  obtain ⟨a9, c9', rfl⟩ := hy.s.shape
  obtain ⟨a10, c10', rfl⟩ := hy.m.shape
  obtain ⟨xa, xc, rfl⟩ := hr.shape
  obtain ⟨n, hn⟩ : ∃ n, xs.length = n := ⟨_, rfl⟩
  rw [hn] at hr hl ⊢
  obtain ⟨W, hW⟩ : ∃ W, ((w.alloc (.cells #[.slice xa n xc] 27)).alloc (.cells (e.cells (.slice a6 e.ru.ds.length c6') (.slice a9 e.sk.length c9') (.slice a10 e.mv.length c10')) 40)).alloc (.cells #[.slice none 0 0] 27) = W := ⟨_, rfl⟩
  have hB : Below w.heap.size w W := by rw [← hW]; exact (((Below.refl _ w).alloc (Nat.le_refl _) _).alloc (by simp) _).alloc (by simp; omega) _
  have hx0 : W.heap[w.heap.size]? = some (.cells #[.slice xa n xc] 27) := by
    rw [← hW]; exact (Below.heap_alloc _ _ _ (by simp; omega)).trans ((Below.heap_alloc _ _ _ (by simp)).trans (heap_new w _))
  have hx1 : W.heap[w.heap.size + 1]? = some (.cells (e.cells (.slice a6 e.ru.ds.length c6') (.slice a9 e.sk.length c9') (.slice a10 e.mv.length c10')) 40) := by
    rw [← hW]
    refine (Below.heap_alloc _ _ _ (by simp)).trans ?_
    have h := heap_new (w.alloc (.cells #[.slice xa n xc] 27)) (.cells (e.cells (.slice a6 e.ru.ds.length c6') (.slice a9 e.sk.length c9') (.slice a10 e.mv.length c10')) 40)
    rwa [World.size_alloc] at h
  have hx2 : W.heap[w.heap.size + 2]? = some (.cells #[.slice none 0 0] 27) := by
    rw [← hW]
    have h := heap_new ((w.alloc (.cells #[.slice xa n xc] 27)).alloc (.cells (e.cells (.slice a6 e.ru.ds.length c6') (.slice a9 e.sk.length c9') (.slice a10 e.mv.length c10')) 40)) (.cells #[.slice none 0 0] 27)
    rwa [World.size_alloc, World.size_alloc] at h
  have hee := eventError_any e _ _ _ W (hy.below hB) hz
  obtain ⟨q, hq⟩ : ∃ q, badE e = q := ⟨_, rfl⟩
  rw [hq] at hee
  have HR := Lib.hid hr
  have HRY := Lib.hid hy
  have HW := Lib.hid hW
  have HB := Lib.hid hB
  have HN := Lib.hid hn
  have HX0 := Lib.hid hx0
  have HX1 := Lib.hid hx1
  have HX2 := Lib.hid hx2
  have HEE := Lib.hid hee
  have HQ := Lib.hid hq
  obtain ⟨j0, j1, j2, j3, j4, j5, j6, j7, j8, j9, j10⟩ := cells11 hx1
  clear hr hy hW hB hx0 hx1 hx2 hee hq hn hz
  go_enter Tryz.func36, Tryz.ntmps36
  go_upto_region 1 with fail
  rw [HW.out]
  go_wp2_with fail
  (with_reducible refine HEE.out.mono ?_)
  rintro e1 w1 ⟨rfl, hb1⟩
  have k1 := cell1 (row_below HX0.out hb1)
  have hx1 := row_below HX1.out hb1
  have hz1 := row_below HX2.out hb1
  have HB1 := Lib.hid (HB.out.trans (hb1.mono HB.out.size))
  have HZ1 := Lib.hid hz1
  have HY1 := Lib.hid hx1
  have hbw : w.heap.size + 2 < w1.heap.size := (Array.getElem?_eq_some_iff.1 hz1).1
  obtain ⟨z0, z1⟩ := cell1r hz1
  clear hb1 j0 j1 j2 j3 j4 j5 j6 j7 j8 j9 j10 hz1
  have hend : ∀ u, Below w.heap.size w (w1.setCell ⟨w.heap.size + 2, 0, none⟩ u) := fun u => HB1.out.setCell (p := ⟨w.heap.size + 2, 0, none⟩) (by show w.heap.size ≤ w.heap.size + 2; omega) u
  have HEND := Lib.hid hend
  clear hend
  by_cases hq0 : 0 < q
  · have HK := Lib.hid (putK_bad (e := e) (L := xs.map (·.e)) (q := q - 1) (by rw [HQ.out]; omega))
    have hlt : (0 : Int) < (q : Int) := by omega
    clear hx1
    go_wp2
    refine bodyPost_ret (res_rput (row_set HZ1.out 0 (.slice xa n xc)) rfl rfl) rfl ?_
    have hqq : q - 1 + 1 = q := by omega
    rw [hqq] at HK
    refine ⟨.slice xa n xc, by rw [HK.out.1]; rfl, ?_, HEND.out _⟩
    unfold putV
    rw [show putK (EvV.mk e _ _ _).e _ = q from HK.out.1, if_neg (by omega)]
    exact HR.out.below (HEND.out _)
  · obtain rfl : q = 0 := by omega
    clear hq0
    obtain ⟨j0, j1, j2, j3, j4, j5, j6, j7, j8, j9, j10⟩ := cells11 hx1
    have hfi := rfind_any xs (.slice xa n xc) e.id w1 (HR.out.below HB1.out) (by rw [HN.out]; exact hl)
    have HFI := Lib.hid hfi
    clear hx1 hfi
    go_upto_region 4 with fail
    go_cut [23] from 13 (fun s wc => s = .bool (!hasK (key e) (xs.map (·.e)) && decide ((60 : Int) ≤ (n : Int))) ∧ Below w1.heap.size w1 wc)
    case first =>
      go_wp2_with fail
      (with_reducible refine HFI.out.mono ?_)
      rintro e2 w2 ⟨z, rfl, hfa, hb2⟩
      have hh := hfa.has
      have k2 := cell_later hb2 k1
      change hasK (key e) (xs.map (·.e)) = _ at hh
      have HH := Lib.hid hh
      have HB2 := Lib.hid hb2
      clear hfa hb2 hh
      by_cases hz0 : 0 ≤ z
      · have hz2 : ¬ z < 0 := by omega
        have HZ0 := Lib.hid hz0
        go_wp2_with fail
        go_meet
        exact ⟨by rw [HH.out, decide_eq_true (show 0 ≤ z by have := HZ0.out; omega)]; rfl, HB2.out⟩
      · have hz2 : z < 0 := by omega
        have HZ0 := Lib.hid hz0
        by_cases hf : (60 : Int) ≤ (n : Int)
        · have HF := Lib.hid hf
          go_wp2_with fail
          go_meet
          exact ⟨by rw [HH.out, decide_eq_false (show ¬ 0 ≤ z by have := HZ0.out; omega), decide_eq_true (show (60 : Int) ≤ (n : Int) by have := HF.out; omega)]; rfl, HB2.out⟩
        · have HF := Lib.hid hf
          go_wp2_with fail
          go_meet
          exact ⟨by rw [HH.out, decide_eq_false (show ¬ 0 ≤ z by have := HZ0.out; omega), decide_eq_false (show ¬ (60 : Int) ≤ (n : Int) by have := HF.out; omega)]; rfl, HB2.out⟩
    case rest =>
      obtain ⟨rfl, hbc⟩ := hcut
      have k2 := cell_later hbc k1
      have hzc := row_below HZ1.out hbc
      have HZC := Lib.hid hzc
      have hyc := row_below HY1.out hbc
      obtain ⟨y0, y1⟩ := cell1r hzc
      have HBC := Lib.hid (HB1.out.trans (hbc.mono HB1.out.size))
      have hcl := hbc.size
      have hend : ∀ u, Below w.heap.size w (wc.setCell ⟨w.heap.size + 2, 0, none⟩ u) := fun u => HBC.out.setCell (p := ⟨w.heap.size + 2, 0, none⟩) (by show w.heap.size ≤ w.heap.size + 2; omega) u
      have HEND2 := Lib.hid hend
      clear hend hbc hzc k1 z0 z1 j0 j1 j2 j3 j4 j5 j6 j7 j8 j9 j10
      obtain ⟨q2, hq2⟩ : ∃ q2, (!hasK (key e) (xs.map (·.e)) && decide ((60 : Int) ≤ (n : Int))) = q2 := ⟨_, rfl⟩
      rw [hq2]
      cases q2 with
      | true =>
        rw [Bool.and_eq_true, decide_eq_true_eq, Bool.not_eq_true'] at hq2
        have HK := Lib.hid (putK_full (e := e) (L := xs.map (·.e)) HQ.out hq2.1 (by rw [List.length_map, HN.out]; omega))
        clear hq2 hyc
        go_wp2
        refine bodyPost_ret (res_rput (row_set HZC.out 0 (.slice xa n xc)) rfl rfl) rfl ?_
        refine ⟨.slice xa n xc, by rw [HK.out.1]; rfl, ?_, HEND2.out _⟩
        unfold putV
        rw [show putK (EvV.mk e _ _ _).e _ = 7 from HK.out.1, if_neg (by omega)]
        exact HR.out.below (HEND2.out _)
      | false =>
        have HK := Lib.hid (putK_good (e := e) (L := xs.map (·.e)) HQ.out (by
          cases hh : hasK (key e) (xs.map (·.e)) with
          | true => exact .inl rfl
          | false =>
            right
            rw [hh, Bool.not_false, Bool.true_and, decide_eq_false_iff_not] at hq2
            rw [List.length_map, HN.out]; omega))
        obtain ⟨j0, j1, j2, j3, j4, j5, j6, j7, j8, j9, j10⟩ := cells11 hyc
        have hwi := rwith_any xs (.slice xa n xc) ⟨e, .slice a6 e.ru.ds.length c6', .slice a9 e.sk.length c9', .slice a10 e.mv.length c10'⟩ wc (HR.out.below HBC.out) (HRY.out.below HBC.out) (by rw [HN.out]; exact hl)
        have HWI := Lib.hid hwi
        clear hq2 hyc hwi
        go_wp2_with fail
        (with_reducible refine HWI.out.mono ?_)
        rintro e3 w3 ⟨v3, rfl, hr3, hb3⟩
        obtain ⟨a3, c3, rfl⟩ := hr3.shape
        have hz3 := row_below HZC.out hb3
        obtain ⟨x0, x1⟩ := cell1r hz3
        have HZ3 := Lib.hid hz3
        have HR3 := Lib.hid hr3
        have HB3 := Lib.hid (HBC.out.trans (hb3.mono HBC.out.size))
        clear hr3 hb3 hz3 k2 y0 y1 j0 j1 j2 j3 j4 j5 j6 j7 j8 j9 j10
        go_wp2
        refine bodyPost_ret (res_rput (row_set HZ3.out 0 _) rfl rfl) rfl ?_
        refine ⟨.slice a3 _ c3, by rw [HK.out.1]; rfl, ?_, ?_⟩
        · unfold putV
          rw [show putK (EvV.mk e _ _ _).e _ = 0 from HK.out.1, if_pos rfl]
          exact HR3.out.boxS ⟨_, _, _, _, HZ3.out⟩ (far_set w3 (w.heap.size + 2) _)
        · exact HB3.out.setCell (p := ⟨w.heap.size + 2, 0, none⟩) (by show w.heap.size ≤ w.heap.size + 2; omega) _
end Bk
end Go.Proofs.YtghkalamlcfnnaaGreatDoor
end
section
namespace Go.Proofs.YtghkalamlcfnnaaGreatDoor
open Go Go.RowKit Go.Shelf Lmd
attribute [local go_sem] Oper.semAt_some
namespace Bk
open Evt Tp Rul Day Cand Er
theorem res_of {W : World} {b : Nat} {v p : Value} {tmps : Array Value} (h : W.heap[b]? = some (.cells #[v] 27 (0, 0))) (h2 : tmps.getD 3 undef = .pointer (some ⟨b, 0, none⟩)) (h3 : tmps.getD 2 undef = p) :
    (results Tryz.f10 tmps).run Tryz.prog W = .ok (.tuple #[p, .agg #[v]]) W := by
  have q0 := cell1 h
  have h2' : tmps[3]?.getD undef = .pointer (some ⟨b, 0, none⟩) := by simpa using h2
  have h3' : tmps[2]?.getD undef = p := by simpa using h3
  simp [results, Tryz.f10, go_sem, h2', h3', q0]
structure Both (w W : World) (p : Nat) (L : List Ev) (v : Value) (ys : List EvV) : Prop where
  low : Below w.heap.size w W
  book : Book W p (p + 1) p L
  model : EReads W v ys
  same : ys.map (·.e) = L
def OfP (w : World) (xs : List EvV) (r : Ending) (w' : World) : Prop :=
  ∃ v ys, r = .returned (.tuple #[.pointer (some ⟨w.heap.size + 2, 0, none⟩), .agg #[v]]) ∧ Both w w' (w.heap.size + 1) (bookL (xs.map (·.e))) v ys
set_option maxRecDepth 100000 in
set_option maxHeartbeats 8000000 in
theorem bookOf_any (xs : List EvV) (v : Value) (er : Nat → Addr) (w : World) (he : E7 w er) (hr : EReads w v xs) (hz : ∀ x ∈ xs, Size x.e) (hl : xs.length ≤ 1000) :
    Calls Tryz.prog 10 #[v] w (OfP w xs) := by
  obtain ⟨a, cap, rfl⟩ := hr.shape
  obtain ⟨n, hn⟩ : ∃ n, xs.length = n := ⟨_, rfl⟩
  rw [hn] at hr hl ⊢
  unfold OfP
  obtain ⟨W, hW⟩ : ∃ W, w.alloc (.cells #[.slice none 0 0] 27) = W := ⟨_, rfl⟩
  have hB : Below w.heap.size w W := by rw [← hW]; exact (Below.refl _ w).alloc (Nat.le_refl _) _
  have hx : W.heap[w.heap.size]? = some (.cells #[.slice none 0 0] 27) := by rw [← hW]; exact heap_new w _
  have hsz : W.heap.size = w.heap.size + 1 := by rw [← hW]; simp
  have hnew := new_any W
  rw [hsz] at hnew
  have HR := Lib.hid hr
  have HW := Lib.hid hW
  have HB := Lib.hid hB
  have HN := Lib.hid hn
  have HX := Lib.hid hx
  have HE := Lib.hid he
  have HZ := Lib.hid hz
  have HNEW := Lib.hid hnew
  have HSZ := Lib.hid hsz
  clear hr hW hB hn hx he hz hnew hsz
  go_enter Tryz.func10, Tryz.ntmps10
  go_upto_region 1 with fail
  rw [HW.out]
  go_wp2_with fail
  (with_reducible refine HNEW.out.mono ?_)
  rintro e1 w1 ⟨rfl, hbk, hb1⟩
  go_upto_region 3 with fail
  obtain ⟨W2, hW2⟩ : ∃ W2, w1.alloc (.cells #[.slice none 0 0] 27) = W2 := ⟨_, rfl⟩
  have hb2 : Below w1.heap.size w1 W2 := by rw [← hW2]; exact (Below.refl _ w1).alloc (Nat.le_refl _) _
  have hx2 : W2.heap[w1.heap.size]? = some (.cells #[.slice none 0 0] 27) := by rw [← hW2]; exact heap_new w1 _
  rw [hW2]
  have hs1 : w.heap.size + 1 ≤ w1.heap.size := by have h1 := hb1.size; have h2 := HSZ.out; omega
  have hs1' : w.heap.size + 2 < w1.heap.size := (Array.getElem?_eq_some_iff.1 hbk.box).1
  have hlow : Below w.heap.size w W2 := (HB.out.trans (hb1.mono (by omega))).trans (hb2.mono (by omega))
  have hres := row_below (row_below HX.out (by rw [HSZ.out]; exact hb1)) hb2
  have HBK := Lib.hid (show Both w W2 (w.heap.size + 1) [] (.slice none 0 0) [] from ⟨hlow, hbk.below hb2, .inl ⟨rfl, _, _, rfl⟩, rfl⟩)
  obtain ⟨p, hp⟩ : ∃ p, w1.heap.size = p := ⟨_, rfl⟩
  rw [hp] at hx2 hs1' ⊢
  have HX2 := Lib.hid hx2
  have HRES := Lib.hid hres
  clear hW2 hb2 hx2 hb1 hbk hlow hres hp hs1
  go_wp2_with fail
  go_loopw [6, 7, 8] (fun i _ _ wr => ∃ (k : Nat) (v : Value) (ys : List EvV), k ≤ n ∧ i = .int .i64 (k : Int) ∧ Both w wr (w.heap.size + 1) (bookL ((xs.take k).map (·.e))) v ys ∧ wr.heap[p]? = some (.cells #[v] 27) ∧ wr.heap[w.heap.size]? = some (.cells #[.slice none 0 0] 27)) (fun i _ _ _ => n - (intOf i).toNat)
  case atStart => exact ⟨0, _, [], Nat.zero_le _, rfl, HBK.out, HX2.out, HRES.out⟩
  case round =>
    obtain ⟨k, v, ys, hk, rfl, hbo, hbx, hre⟩ := hrel
    obtain ⟨va, vc, rfl⟩ := hbo.model.shape
    have HBO := Lib.hid hbo
    have HBX := Lib.hid hbx
    have HRE := Lib.hid hre
    have hrr := HR.out.below hbo.low
    clear hbo hbx hre
    by_cases hlt : k < n
    · have htk : xs.take (k + 1) = xs.take k ++ [el xs k] := el_take_succ (by rw [HN.out]; exact hlt)
      have hzx := HZ.out _ (el_mem (xs := xs) (i := k) (by rw [HN.out]; exact hlt))
      obtain ⟨-, b, o, ha, hc⟩ := hrr.at (by intro h; have := HN.out; rw [h] at this; simp at this; omega)
      subst ha
      obtain ⟨⟨c0, c1', c2, c3', c4, c5, c6, c7, c8, c9, c10⟩, hrv⟩ := hc k (by rw [HN.out]; exact hlt)
      have hcf : ∀ wq, Below w.heap.size w wq → At11 wq b (o + k * 11) (el xs k) ∧ (el xs k).rv wq := fun wq h => by
        obtain ⟨-, b', o', ha', hc'⟩ := (HR.out.below h).at (by intro h; have := HN.out; rw [h] at this; simp at this; omega)
        cases ha'
        exact hc' k (by rw [HN.out]; exact hlt)
      obtain ⟨x, hx⟩ : ∃ x, el xs k = x := ⟨_, rfl⟩
      rw [hx] at c0 c1' c2 c3' c4 c5 c6 c7 c8 c9 c10 hrv htk hcf hzx
      obtain ⟨e, ud, us, um⟩ := x
      dsimp only at c0 c1' c2 c3' c4 c5 c6 c7 c8 c9 c10 hzx
      change Rv wr e ud us um at hrv
      obtain ⟨a6, c6', rfl⟩ := hrv.d.shape
      obtain ⟨a9, c9', rfl⟩ := hrv.s.shape
      obtain ⟨a10, c10', rfl⟩ := hrv.m.shape
      have hown := ownEvent_any e _ _ _ wr hrv hzx
      have HOW := Lib.hid hown
      have HCF := Lib.hid hcf
      have HTK := Lib.hid htk
      have HZX := Lib.hid hzx
      clear hown hcf htk hzx hrv hc hrr hx
      obtain ⟨L, hL⟩ : ∃ L, bookL ((xs.take k).map (·.e)) = L := ⟨_, rfl⟩
      rw [hL] at HBO
      have HL := Lib.hid hL
      clear hL
      go_wp2_with fail
      (with_reducible refine HOW.out.mono ?_)
      rintro e2 w2 ⟨vd2, vs2, vm2, rfl, hr2, hb2⟩
      have hpu := put_any w2 _ _ _ L e _ _ _ er (HE.out.below (HBO.out.low.trans (hb2.mono HBO.out.low.size))) (HBO.out.book.below hb2) hr2 HZX.out
      unfold PutP at hpu
      have HPU := Lib.hid hpu
      have HB2 := Lib.hid hb2
      clear hpu hb2 hr2 c0 c1' c2 c3' c4 c5 c6 c7 c8 c9 c10
      go_wp2_with fail
      (with_reducible refine HPU.out.mono ?_)
      rintro e3 w3 ⟨rfl, hbk3, hfar3⟩
      have hm := (HBO.out.book.below HB2.out).isMap
      have hlow3 : Below w.heap.size w w3 := (HBO.out.low.trans (HB2.out.mono HBO.out.low.size)).trans (hfar3.below (fun k hk => by omega) (by have := HBO.out.low.size; have := HB2.out.size; omega))
      have hmod3 := ereads_far hm hfar3 (HBO.out.model.below HB2.out)
      have hpw : p < wr.heap.size := (Array.getElem?_eq_some_iff.1 HBX.out).1
      have hbx3 : w3.heap[p]? = some (.cells #[.slice va ys.length vc] 27) := by
        rw [hfar3.block p (by have := HB2.out.size; omega) (by omega), HB2.out.block p hpw]; exact HBX.out
      have hre3 : w3.heap[w.heap.size]? = some (.cells #[.slice none 0 0] 27) := by
        rw [hfar3.block _ (by have := HB2.out.size; omega) (by omega), HB2.out.block _ (by omega)]; exact HRE.out
      obtain ⟨⟨c0, c1', c2, c3', c4, c5, c6, c7, c8, c9, c10⟩, hrv3⟩ := HCF.out w3 hlow3
      dsimp only at c0 c1' c2 c3' c4 c5 c6 c7 c8 c9 c10
      obtain ⟨k5, f5⟩ := cell1r hbx3
      have z0 := fun o => Lib.cell?_alloc_some (W := w3) o c0
      have z1 := fun o => Lib.cell?_alloc_some (W := w3) o c1'
      have z2 := fun o => Lib.cell?_alloc_some (W := w3) o c2
      have z3 := fun o => Lib.cell?_alloc_some (W := w3) o c3'
      have z4 := fun o => Lib.cell?_alloc_some (W := w3) o c4
      have z5 := fun o => Lib.cell?_alloc_some (W := w3) o c5
      have z6 := fun o => Lib.cell?_alloc_some (W := w3) o c6
      have z7 := fun o => Lib.cell?_alloc_some (W := w3) o c7
      have z8 := fun o => Lib.cell?_alloc_some (W := w3) o c8
      have z9 := fun o => Lib.cell?_alloc_some (W := w3) o c9
      have z10 := fun o => Lib.cell?_alloc_some (W := w3) o c10
      have z11 := fun o => Lib.cell?_alloc_some (W := w3) o k5
      have hru := fun W' (h : Below w3.heap.size w3 W') => rput_any ys (.slice va ys.length vc) ⟨e, .slice a6 e.ru.ds.length c6', .slice a9 e.sk.length c9', .slice a10 e.mv.length c10'⟩ W' (hmod3.below h) (hrv3.below h) HZX.out (by
        have h1 := HBO.out.same
        have h2 := HBO.out.book.few
        rw [← h1, List.length_map] at h2; omega)
      unfold RPut at hru
      obtain ⟨K, hK⟩ : ∃ K, putK e L = K := ⟨_, rfl⟩
      have hkk : putK (EvV.mk e (.slice a6 e.ru.ds.length c6') (.slice a9 e.sk.length c9') (.slice a10 e.mv.length c10')).e (ys.map (·.e)) = K := by rw [HBO.out.same]; exact hK
      rw [hkk] at hru
      have HRU := Lib.hid hru
      have HK := Lib.hid hK
      have HBK3 := Lib.hid hbk3
      have HLOW3 := Lib.hid hlow3
      have HMOD3 := Lib.hid hmod3
      have HBX3 := Lib.hid hbx3
      have HRE3 := Lib.hid hre3
      have hacc : Below w3.heap.size w3 w3.drew := below_drew (Below.refl _ w3)
      have HACC := Lib.hid (show Below w3.heap.size w3 (w3.alloc (.cells #[.slice none 0 0] 27)).drew from below_drew ((Below.refl _ w3).alloc (Nat.le_refl _) _))
      have HZN := Lib.hid (show (w3.alloc (.cells #[.slice none 0 0] 27)).drew.heap[w3.heap.size]? = some (.cells #[.slice none 0 0] 27) from heap_new w3 _)
      clear hm hru hK hkk hbk3 hfar3 hlow3 hmod3 hbx3 hre3 hrv3
      go_upto_region 7 with fail
      go_cut [7, 8] from 28 to 37 (fun s7 s8 wc => ∃ (p7 : Nat) (v5 : Value), s7 = .pointer (some ⟨p7, 0, none⟩) ∧ s8 = .int .i64 (K : Nat) ∧ wc.heap[p7]? = some (.cells #[v5] 27) ∧ EReads wc v5 (putV ⟨e, .slice a6 e.ru.ds.length c6', .slice a9 e.sk.length c9', .slice a10 e.mv.length c10'⟩ ys) ∧ Below w3.heap.size w3 wc)
      case first =>
        go_region_with (first
          | ((with_reducible refine (HRU.out _ hacc).mono ?_)
             rintro e5 w5 ⟨v5, rfl, hr5, hb5⟩
             obtain ⟨a5, c5', rfl⟩ := hr5.shape
             replace hacc := hacc.trans (hb5.mono hacc.size))
          | ((with_reducible refine (HRU.out _ HACC.out).mono ?_)
             rintro e5 w5 ⟨v5, rfl, hr5, hb5⟩
             obtain ⟨a5, c5', rfl⟩ := hr5.shape
             have hz5 := row_below HZN.out hb5
             obtain ⟨y0, y1⟩ := cell1r hz5
             replace hacc := HACC.out.trans (hb5.mono HACC.out.size)))
        all_goals go_wp2_with fail
        all_goals go_meet
        all_goals (first
          | exact ⟨_, _, rfl, rfl, row_set hz5 0 _, hr5.boxS ⟨_, _, _, _, hz5⟩ (far_set w5 w3.heap.size _), hacc.setCell (p := ⟨w3.heap.size, 0, none⟩) (Nat.le_refl _) _⟩
          | exact ⟨_, _, rfl, rfl, heap_new w5 _, hr5.below ((Below.refl _ w5).alloc (Nat.le_refl _) _), hacc.alloc hacc.size _⟩)
      case rest =>
        obtain ⟨p7, v5, rfl, rfl, hbx7, hr5, hbc⟩ := hcut
        have hmap : (putV (⟨e, .slice a6 e.ru.ds.length c6', .slice a9 e.sk.length c9', .slice a10 e.mv.length c10'⟩ : EvV) ys).map (·.e) = putL e L := by rw [putV_map, HBO.out.same]
        obtain ⟨ys5, hys5⟩ : ∃ ys5, putV (⟨e, .slice a6 e.ru.ds.length c6', .slice a9 e.sk.length c9', .slice a10 e.mv.length c10'⟩ : EvV) ys = ys5 := ⟨_, rfl⟩
        rw [hys5] at hr5 hmap
        obtain ⟨a5, c5', rfl⟩ := hr5.shape
        have hbxc := row_below HBX3.out hbc
        have hrec := row_below HRE3.out hbc
        obtain ⟨q0, -⟩ := cell1r hbx7
        obtain ⟨y0, y1⟩ := cell1r hbxc
        have hpl : bookL ((xs.take (k + 1)).map (·.e)) = putL e L := by
          rw [HTK.out, List.map_append]
          show bookL (_ ++ [e]) = _
          rw [bookL_snoc, HL.out]
        have HPL := Lib.hid hpl
        have HMAP := Lib.hid hmap
        have HR5 := Lib.hid hr5
        have HBXC := Lib.hid hbxc
        have HREC := Lib.hid hrec
        have hsp : w.heap.size ≠ p := by omega
        have HBC := Lib.hid (And.intro (HLOW3.out.trans (hbc.mono HLOW3.out.size)) (And.intro (HBK3.out.below hbc) (HMOD3.out.below hbc)))
        clear hpl hmap hys5 hr5 hbx7 hbxc hrec hbc
        by_cases hk0 : K = 0
        · subst hk0
          go_wp2
          go_roundw
          case rel => exact ⟨k + 1, .slice a5 _ c5', ys5, by omega, by go_num, ⟨HBC.out.1.setCell (p := ⟨p, 0, none⟩) (by show w.heap.size ≤ p; omega) _, by rw [HPL.out]; exact HBC.out.2.1.boxS ⟨_, _, _, _, HBXC.out⟩ (far_set _ p _), HR5.out.boxS ⟨_, _, _, _, HBXC.out⟩ (far_set _ p _), by rw [HPL.out]; exact HMAP.out⟩,
            row_set HBXC.out 0 _, by rw [row_far (by show w.heap.size ≠ p; exact hsp)]; exact HREC.out⟩
          case measure => simp [intOf]; omega
        · have hk1 : ¬ (K : Int) = 0 := by omega
          have hk2 : ((K : Int) == 0) = false := beq_false_of_ne hk1
          have hpk : putL e L = L := by unfold putL; rw [HK.out, if_neg hk0]
          have HPK := Lib.hid hpk
          clear hpk
          go_wp2
          go_roundw
          case rel => exact ⟨k + 1, .slice va ys.length vc, ys, by omega, by go_num, ⟨HBC.out.1, by rw [HPL.out]; exact HBC.out.2.1, HBC.out.2.2, by rw [HPL.out, HPK.out]; exact HBO.out.same⟩, HBXC.out, HREC.out⟩
          case measure => simp [intOf]; omega
    · obtain rfl : k = n := by omega
      have htk : xs.take xs.length = xs := List.take_length
      rw [HN.out] at htk
      rw [htk] at HBO
      obtain ⟨q0, -⟩ := cell1r HBX.out
      obtain ⟨y0, y1⟩ := cell1r HRE.out
      clear hrr htk
      go_upto_region 10 with fail
      go_region
      all_goals (
        go_wp2
        refine bodyPost_ret (res_of (row_set (HRE.out : wr.drew.heap[w.heap.size]? = _) 0 _) rfl rfl) rfl ?_
        have hd := below_drew (Below.refl wr.heap.size wr)
        exact ⟨_, ys, rfl, ⟨(below_drew HBO.out.low).setCell (p := ⟨w.heap.size, 0, none⟩) (Nat.le_refl _) _, (HBO.out.book.below hd).boxS ⟨_, _, _, _, (HRE.out : wr.drew.heap[w.heap.size]? = _)⟩ (far_set wr.drew w.heap.size _),
          (HBO.out.model.below hd).boxS ⟨_, _, _, _, (HRE.out : wr.drew.heap[w.heap.size]? = _)⟩ (far_set wr.drew w.heap.size _), HBO.out.same⟩⟩)
end Bk
end Go.Proofs.YtghkalamlcfnnaaGreatDoor
end
section
namespace Go.Proofs.YtghkalamlcfnnaaGreatDoor
open Go Go.RowKit Go.Shelf Lmd
attribute [local go_sem] Oper.semAt_some
namespace Bk
open Evt Tp Rul Day Cand Er
end Bk
end Go.Proofs.YtghkalamlcfnnaaGreatDoor
end
section
namespace Go.Proofs.YtghkalamlcfnnaaGreatDoor
open Go Go.RowKit Lmd
namespace Tx
open Rul
def Rd (w : World) (v : Value) (xs : List ByteArray) : Prop :=
  (xs = [] ∧ ∃ a c, v = .slice a 0 c) ∨ ∃ b off c, v = .slice (some ⟨b, off, none⟩) xs.length c ∧ ∀ (j : Nat) x, xs[j]? = some x → w.cell? ⟨b, off + j, none⟩ = some (.string x)
theorem Rd.shape {w : World} {v : Value} {xs : List ByteArray} (h : Rd w v xs) : ∃ a c, v = .slice a xs.length c := by
  rcases h with ⟨rfl, a, c, rfl⟩ | ⟨b, off, c, rfl, _⟩
  · exact ⟨a, c, rfl⟩
  · exact ⟨_, c, rfl⟩
theorem Rd.at {w : World} {v : Value} {xs : List ByteArray} (h : Rd w v xs) (hx : xs ≠ []) : ∃ b off c, v = .slice (some ⟨b, off, none⟩) xs.length c ∧ ∀ (j : Nat) x, xs[j]? = some x → w.cell? ⟨b, off + j, none⟩ = some (.string x) :=
  h.resolve_left (fun h => hx h.1)
theorem Rd.below {w w' : World} {v : Value} {xs : List ByteArray} (h : Rd w v xs) (hb : Below w.heap.size w w') : Rd w' v xs := by
  rcases h with h | ⟨b, off, c, rfl, hc⟩
  · exact .inl h
  · exact .inr ⟨b, off, c, rfl, fun j x hx => cell_later hb (hc j x hx)⟩
theorem rd_own {w : World} {base : Nat} {v : Value} {n : Nat} {xs : List ByteArray} (h : w.ownsRow base 9 1 v n (cellsS xs)) (hn : n = xs.length) : Rd w v xs := by
  rcases reads_ownS h hn with ⟨h1, h2⟩ | ⟨g, cap, h1, _, _, h2⟩
  · exact .inl ⟨h1, none, 0, h2⟩
  · exact .inr ⟨g, 0, cap, h1, h2⟩
end Tx
end Go.Proofs.YtghkalamlcfnnaaGreatDoor
end
