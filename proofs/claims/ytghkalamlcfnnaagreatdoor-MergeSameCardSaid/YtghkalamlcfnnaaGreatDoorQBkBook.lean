/- package book: copied. -/
import Derived.Test.YtghkalamlcfnnaaGreatDoorQA7
import Derived.Test.YtghkalamlcfnnaaGreatDoorQA6
import Derived.Deep.RegionHeld3
section
namespace Go.Proofs.YtghkalamlcfnnaaGreatDoor
open Go Go.RowKit Go.Shelf Lmd
attribute [local go_sem] Oper.semAt_some
namespace Evt
open Rul Day Cand Er
set_option maxRecDepth 100000 in
set_option maxHeartbeats 4000000 in
theorem bookCopied_any (e : Ev) (vd vs vm : Value) (w : World) (hr : Rv w e vd vs vm) (hz : Size e) :
    Calls Tryz.prog 43 #[.agg (e.cells vd vs vm)] w fun r w' => ∃ vd' vs' vm', r = .returned (.agg (e.cells vd' vs' vm')) ∧ Rv w' e vd' vs' vm' ∧ From w.heap.size vd' ∧ From w.heap.size vs' ∧ From w.heap.size vm' ∧ Below w.heap.size w w' := by
  obtain ⟨W, hW⟩ : ∃ W, (w.alloc (.cells (e.cells vd vs vm) 40)).alloc (.cells #[.string ⟨#[]⟩, .string ⟨#[]⟩, .int .i64 0, .int .i64 0, .string ⟨#[]⟩, .int .i64 0, .slice none 0 0, .int .i64 0, .int .i64 0, .slice none 0 0, .slice none 0 0] 40) = W := ⟨_, rfl⟩
  have hB : Below w.heap.size w W := by rw [← hW]; exact ((Below.refl _ w).alloc (Nat.le_refl _) _).alloc (by simp) _
  have hx : W.heap[w.heap.size]? = some (.cells (e.cells vd vs vm) 40) := by rw [← hW]; exact (Below.heap_alloc _ _ _ (by simp)).trans (heap_new w _)
  have hy : W.heap[w.heap.size + 1]? = some (.cells #[.string ⟨#[]⟩, .string ⟨#[]⟩, .int .i64 0, .int .i64 0, .string ⟨#[]⟩, .int .i64 0, .slice none 0 0, .int .i64 0, .int .i64 0, .slice none 0 0, .slice none 0 0] 40) := by
    rw [← hW]
    have h := heap_new (w.alloc (.cells (e.cells vd vs vm) 40)) (.cells #[.string ⟨#[]⟩, .string ⟨#[]⟩, .int .i64 0, .int .i64 0, .string ⟨#[]⟩, .int .i64 0, .slice none 0 0, .int .i64 0, .int .i64 0, .slice none 0 0, .slice none 0 0] 40)
    rwa [World.size_alloc] at h
  have hsz : W.heap.size = w.heap.size + 2 := by rw [← hW]; simp
  have hcd := fun W' (h : Below W.heap.size W W') => cloneInts_any e.ru.ds vd W' ((hr.below hB).d.below h) (by have := hz.ds; omega)
  have hcs := fun W' (h : Below W.heap.size W W') => cloneInts_any e.sk vs W' ((hr.below hB).s.below h) hz.sk
  have hcm := fun W' (h : Below W.heap.size W W') => cloneMoves_any e.mv vm W' ((hr.below hB).m.below h) hz.mv
  have HCD := Lib.hid hcd
  have HCS := Lib.hid hcs
  have HCM := Lib.hid hcm
  have HX := Lib.hid hx
  have HY := Lib.hid hy
  have HB := Lib.hid hB
  have HW := Lib.hid hW
  have HSZ := Lib.hid hsz
  have hacc : Below W.heap.size W W.drew := below_draw (Below.refl _ _) 1
  clear hr hz hW hB hx hy hcd hcs hcm hsz
  go_enter Tryz.func43, Tryz.ntmps43
  go_upto_region 1 with fail
  rw [HW.out]
  obtain ⟨-, -, -, -, -, -, k6, -, -, k9, k10⟩ := cells11 (row_below HX.out hacc)
  have hu := Tryz.underlying37
  go_region_with (first
    | ((with_reducible refine (HCD.out _ hacc).mono ?_); rintro e1 w1 ⟨v1, rfl, hr1, hf1, hb1⟩; obtain ⟨a1, c1, rfl⟩ := hr1.shape; replace hacc := belowT hacc hb1; obtain ⟨⟨k9, k10⟩, -⟩ := row_cells (row_below HX.out hacc); have HR1 := Lib.hid hr1; have HF1 := Lib.hid hf1; have HB1 := Lib.hid hb1; clear hr1 hf1 hb1)
    | ((with_reducible refine (HCS.out _ hacc).mono ?_); rintro e2 w2 ⟨v2, rfl, hr2, hf2, hb2⟩; obtain ⟨a2, c2, rfl⟩ := hr2.shape; replace hacc := belowT hacc hb2; obtain ⟨⟨k9, k10⟩, -⟩ := row_cells (row_below HX.out hacc); have HR2 := Lib.hid hr2; have HF2 := Lib.hid hf2; have HB2 := Lib.hid hb2; clear hr2 hf2 hb2)
    | ((with_reducible refine (HCM.out _ hacc).mono ?_); rintro e3 w3 ⟨v3, rfl, hr3, hf3, hb3⟩; obtain ⟨a3, c3, rfl⟩ := hr3.shape; replace hacc := belowT hacc hb3; obtain ⟨⟨k9, k10⟩, k6, f6, f9, f10⟩ := row_cells (row_below HX.out hacc); have HR3 := Lib.hid hr3; have HF3 := Lib.hid hf3; have HB3 := Lib.hid hb3; clear hr3 hf3 hb3))
  all_goals (
    have hx3 := row_below HX.out hacc
    have hy3 := row_below HY.out hacc
    have hsz3 := hacc.size
    go_upto_region 2 with fail
    (first
      | (obtain ⟨W4, hW4⟩ : ∃ W4, (((w3.setCell ⟨w.heap.size, 6, none⟩ (.slice a1 e.ru.ds.length c1)).setCell ⟨w.heap.size, 9, none⟩ (.slice a2 e.sk.length c2)).setCell ⟨w.heap.size, 10, none⟩ (.slice a3 e.mv.length c3)) = W4 := ⟨_, rfl⟩
         rw [hW4]
         have on4 : Only w.heap.size w3 W4 := by rw [← hW4]; exact (((Only.refl _ _).set 6 _).set 9 _).set 10 _
         have hr4 : W4.heap[w.heap.size]? = some (.cells (e.cells (.slice a1 e.ru.ds.length c1) (.slice a2 e.sk.length c2) (.slice a3 e.mv.length c3)) 40) := by rw [← hW4]; exact row_set (row_set (row_set (hx3) 6 _) 9 _) 10 _
         clear hW4)
      | (obtain ⟨W4, hW4⟩ : ∃ W4, (((w3.setCell ⟨w.heap.size, 6, none⟩ (.slice a1 e.ru.ds.length c1)).setCell ⟨w.heap.size, 10, none⟩ (.slice a3 e.mv.length c3)).setCell ⟨w.heap.size, 9, none⟩ (.slice a2 e.sk.length c2)) = W4 := ⟨_, rfl⟩
         rw [hW4]
         have on4 : Only w.heap.size w3 W4 := by rw [← hW4]; exact (((Only.refl _ _).set 6 _).set 10 _).set 9 _
         have hr4 : W4.heap[w.heap.size]? = some (.cells (e.cells (.slice a1 e.ru.ds.length c1) (.slice a2 e.sk.length c2) (.slice a3 e.mv.length c3)) 40) := by rw [← hW4]; exact row_set (row_set (row_set (hx3) 6 _) 10 _) 9 _
         clear hW4)
      | (obtain ⟨W4, hW4⟩ : ∃ W4, (((w3.setCell ⟨w.heap.size, 9, none⟩ (.slice a2 e.sk.length c2)).setCell ⟨w.heap.size, 6, none⟩ (.slice a1 e.ru.ds.length c1)).setCell ⟨w.heap.size, 10, none⟩ (.slice a3 e.mv.length c3)) = W4 := ⟨_, rfl⟩
         rw [hW4]
         have on4 : Only w.heap.size w3 W4 := by rw [← hW4]; exact (((Only.refl _ _).set 9 _).set 6 _).set 10 _
         have hr4 : W4.heap[w.heap.size]? = some (.cells (e.cells (.slice a1 e.ru.ds.length c1) (.slice a2 e.sk.length c2) (.slice a3 e.mv.length c3)) 40) := by rw [← hW4]; exact row_set (row_set (row_set (hx3) 9 _) 6 _) 10 _
         clear hW4)
      | (obtain ⟨W4, hW4⟩ : ∃ W4, (((w3.setCell ⟨w.heap.size, 9, none⟩ (.slice a2 e.sk.length c2)).setCell ⟨w.heap.size, 10, none⟩ (.slice a3 e.mv.length c3)).setCell ⟨w.heap.size, 6, none⟩ (.slice a1 e.ru.ds.length c1)) = W4 := ⟨_, rfl⟩
         rw [hW4]
         have on4 : Only w.heap.size w3 W4 := by rw [← hW4]; exact (((Only.refl _ _).set 9 _).set 10 _).set 6 _
         have hr4 : W4.heap[w.heap.size]? = some (.cells (e.cells (.slice a1 e.ru.ds.length c1) (.slice a2 e.sk.length c2) (.slice a3 e.mv.length c3)) 40) := by rw [← hW4]; exact row_set (row_set (row_set (hx3) 9 _) 10 _) 6 _
         clear hW4)
      | (obtain ⟨W4, hW4⟩ : ∃ W4, (((w3.setCell ⟨w.heap.size, 10, none⟩ (.slice a3 e.mv.length c3)).setCell ⟨w.heap.size, 6, none⟩ (.slice a1 e.ru.ds.length c1)).setCell ⟨w.heap.size, 9, none⟩ (.slice a2 e.sk.length c2)) = W4 := ⟨_, rfl⟩
         rw [hW4]
         have on4 : Only w.heap.size w3 W4 := by rw [← hW4]; exact (((Only.refl _ _).set 10 _).set 6 _).set 9 _
         have hr4 : W4.heap[w.heap.size]? = some (.cells (e.cells (.slice a1 e.ru.ds.length c1) (.slice a2 e.sk.length c2) (.slice a3 e.mv.length c3)) 40) := by rw [← hW4]; exact row_set (row_set (row_set (hx3) 10 _) 6 _) 9 _
         clear hW4)
      | (obtain ⟨W4, hW4⟩ : ∃ W4, (((w3.setCell ⟨w.heap.size, 10, none⟩ (.slice a3 e.mv.length c3)).setCell ⟨w.heap.size, 9, none⟩ (.slice a2 e.sk.length c2)).setCell ⟨w.heap.size, 6, none⟩ (.slice a1 e.ru.ds.length c1)) = W4 := ⟨_, rfl⟩
         rw [hW4]
         have on4 : Only w.heap.size w3 W4 := by rw [← hW4]; exact (((Only.refl _ _).set 10 _).set 9 _).set 6 _
         have hr4 : W4.heap[w.heap.size]? = some (.cells (e.cells (.slice a1 e.ru.ds.length c1) (.slice a2 e.sk.length c2) (.slice a3 e.mv.length c3)) 40) := by rw [← hW4]; exact row_set (row_set (row_set (hx3) 10 _) 9 _) 6 _
         clear hW4))
    have hy4 : W4.heap[w.heap.size + 1]? = _ := (on4.block _ (by omega)).trans hy3
    have HY4 := Lib.hid hy4
    have HR4 := Lib.hid hr4
    have ON4 := Lib.hid on4
    have HACC := Lib.hid hacc
    clear hx3 hy3 hsz3 hacc on4
    obtain ⟨j0, j1, j2, j3, j4, j5, j6, j7, j8, j9, j10⟩ := cells11 hr4
    obtain ⟨yy0, yy1, yy2, yy3, yy4, yy5, yy6, yy7, yy8, yy9, yy10⟩ := cells11 hy4
    obtain ⟨y0, y1, y2, y3, y4, y5, y6, y7, y8, y9, y10⟩ := frozen11 hy4
    clear hr4 hy4
    go_wp2
    refine bodyPost_ret (results_cell_row rfl _ _ (w.heap.size + 1) _ _ _ _ rfl (put11_row HY4.out) Tryz.underlying40 rfl (by kernel_rfl)) rfl ?_
    have hs1 := HB1.out.size
    have hs2 := HB2.out.size
    have hs3 := HB3.out.size
    have hsw : W.drew.heap.size = w.heap.size + 2 := HSZ.out
    have f1 : From (w.heap.size + 2) (.slice a1 e.ru.ds.length c1) := HF1.out.mono (by omega)
    have f2 : From (w.heap.size + 2) (.slice a2 e.sk.length c2) := HF2.out.mono (by omega)
    have f3 : From (w.heap.size + 2) (.slice a3 e.mv.length c3) := HF3.out.mono (by omega)
    have hrv3 : Rv w3 e (.slice a1 e.ru.ds.length c1) (.slice a2 e.sk.length c2) (.slice a3 e.mv.length c3) := ⟨(HR1.out.below HB2.out).below HB3.out, HR2.out.below HB3.out, HR3.out⟩
    have hrv4 := ON4.out.rv hrv3 (off_from f1 (by omega)) (off_from f2 (by omega)) (off_from f3 (by omega))
    refine ⟨_, _, _, rfl, (put11_only ..).rv hrv4 (off_from f1 (by omega)) (off_from f2 (by omega)) (off_from f3 (by omega)), f1.mono (by omega), f2.mono (by omega), f3.mono (by omega), ?_⟩
    exact ((HB.out.trans (HACC.out.mono HB.out.size)).trans (ON4.out.below (Nat.le_refl _))).trans ((put11_only ..).below (Nat.le_succ _)))
end Evt
end Go.Proofs.YtghkalamlcfnnaaGreatDoor
end
section
namespace Go.Proofs.YtghkalamlcfnnaaGreatDoor
open Go Go.RowKit Go.Shelf Lmd
attribute [local go_sem] Oper.semAt_some
namespace Bk
open Evt Tp Rul Day Cand Er
theorem zeroE (w : World) : (zeroValue 40).run Tryz.prog w = .ok (.agg zeroV) w := by kernel_rfl
structure Look (D : DataW Value) (m : Nat) (k : List UInt8) (e : Ev) (is : Bool) (vd vs vm : Value) : Prop where
  two : ∀ (w' : World) (n : Nat) (s : ByteArray), w'.ownsMap Tryz.prog 9 asIs m n D → s.data.toList = k → s.size ≤ 9223372036854775807 →
    (Instr.lookup 89 (.map (some m)) (.string s) true).run Tryz.prog w' = .ok (.tuple #[.agg (e.cells vd vs vm), .bool is]) w'
  one : ∀ (w' : World) (n : Nat) (s : ByteArray), w'.ownsMap Tryz.prog 9 asIs m n D → s.data.toList = k → s.size ≤ 9223372036854775807 →
    (Instr.lookup 89 (.map (some m)) (.string s) false).run Tryz.prog w' = .ok (.agg (e.cells vd vs vm)) w'
theorem Tells.look {w : World} {B m : Nat} {D : DataW Value} {L : List Ev} (h : Tells w B D L) (k : List UInt8) :
    ∃ vd vs vm, Look D m k (foundE k L) (hasK k L) vd vs vm ∧ Rv w (foundE k L) vd vs vm := by
  obtain ⟨vd, vs, vm, h1, h2⟩ := h.found k
  refine ⟨vd, vs, vm, ⟨fun w' n s hown hs hz => ?_, fun w' n s hown hs hz => ?_⟩, h2⟩
  · obtain ⟨v, ps, hrun, hv⟩ := hown.look_ok lawS Tryz.underlying89 (zeroE w') asIs_zero (keyS hz)
    rw [hs, h1] at hv
    rw [hrun, hs, h.has, DataW.held.inj (asIs_inv hv)]
  · obtain ⟨v, ps, hrun, hv⟩ := hown.lookup lawS Tryz.underlying89 (zeroE w') asIs_zero (keyS hz)
    rw [hs, h1] at hv
    rw [hrun, DataW.held.inj (asIs_inv hv)]
theorem cell1 {w : World} {b : Nat} {v : Value} {t : TypeId} (h : w.heap[b]? = some (.cells #[v] t (0, 0))) : w.cell? ⟨b, 0, none⟩ = some v := by simp [World.cell?, h]
theorem book_new (w : World) : Book ((w.alloc (.map #[] 0)).alloc (.cells #[.map (some w.heap.size)] 91)) w.heap.size (w.heap.size + 1) w.heap.size [] := by
  have h1 := heap_new (w.alloc (.map #[] 0)) (.cells #[.map (some w.heap.size)] 91)
  rw [World.size_alloc] at h1
  exact ⟨h1, by omega, by omega, ⟨.map [], (World.ownsMap_made w _ _ _).alloc _, ⟨fun k => rfl, fun e he => (by cases he), rfl⟩⟩, List.Pairwise.nil, fun e he => (by cases he), fun e he => (by cases he), by decide⟩
set_option maxRecDepth 100000 in
theorem new_any (w : World) : Calls Tryz.prog 30 #[] w fun e w' => e = .returned (.pointer (some ⟨w.heap.size + 1, 0, none⟩)) ∧ Book w' w.heap.size (w.heap.size + 1) w.heap.size [] ∧ Below w.heap.size w w' := by
  have hmm := @run_makeMap Tryz.prog
  go_enter Tryz.func30, Tryz.ntmps30
  go_wp2
  go_ret
  exact ⟨rfl, book_new w, ((Below.refl _ w).alloc (Nat.le_refl _) _).alloc (by simp) _⟩
theorem res_get {W : World} {b : Nat} {a0 a1 a2 a3 a4 a5 a6 a7 a8 a9 a10 er : Value} {tmps : Array Value} (h : W.heap[b]? = some (.cells #[a0, a1, a2, a3, a4, a5, a6, a7, a8, a9, a10] 40 (0, 0))) (h2 : tmps.getD 4 undef = .pointer (some ⟨b, 0, none⟩)) (h3 : tmps.getD 5 undef = er) :
    (results Tryz.f13 tmps).run Tryz.prog W = .ok (.tuple #[.agg #[a0, a1, a2, a3, a4, a5, a6, a7, a8, a9, a10], er]) W := by
  obtain ⟨q0, q1, q2, q3, q4, q5, q6, q7, q8, q9, q10⟩ := cells11 h
  have h2' : tmps[4]?.getD undef = .pointer (some ⟨b, 0, none⟩) := by simpa using h2
  have h3' : tmps[5]?.getD undef = er := by simpa using h3
  simp [results, Tryz.f13, go_sem, h2', h3', q0, q1, q2, q3, q4, q5, q6, q7, q8, q9, q10]
def GotE (w : World) (k : List UInt8) (L : List Ev) (r : Ending) (w' : World) : Prop :=
  ∃ vd vs vm, r = .returned (.tuple #[.agg ((foundE k L).cells vd vs vm), .bool (hasK k L)]) ∧ Rv w' (foundE k L) vd vs vm ∧ From w.heap.size vd ∧ From w.heap.size vs ∧ From w.heap.size vm ∧ Below w.heap.size w w'
set_option maxRecDepth 100000 in
set_option maxHeartbeats 4000000 in
theorem get_any (w : World) (B b m : Nat) (L : List Ev) (s : ByteArray) (h : Book w B b m L) (hs : s.size ≤ 9223372036854775807) :
    Calls Tryz.prog 13 #[.pointer (some ⟨b, 0, none⟩), .string s] w (GotE w s.data.toList L) := by
  obtain ⟨D, hown, hT⟩ := h.map
  obtain ⟨vd, vs, vm, hl, hr⟩ := hT.look (m := m) s.data.toList
  obtain ⟨e, he⟩ : ∃ e, foundE s.data.toList L = e := ⟨_, rfl⟩
  obtain ⟨is, his⟩ : ∃ is, hasK s.data.toList L = is := ⟨_, rfl⟩
  have hz := foundE_fit h s.data.toList
  unfold GotE
  rw [he, his] at hl ⊢
  rw [he] at hr hz
  obtain ⟨W, hW⟩ : ∃ W, w.alloc (.cells zeroV 40) = W := ⟨_, rfl⟩
  have hB : Below w.heap.size w W := by rw [← hW]; exact (Below.refl _ w).alloc (Nat.le_refl _) _
  have hx : W.heap[w.heap.size]? = some (.cells zeroV 40) := by rw [← hW]; exact heap_new w _
  have hq := hl.two W _ s (own_below hown hB) rfl hs
  have k0 := cell1 (row_below h.box hB)
  obtain ⟨a1, c1, rfl⟩ := hr.d.shape
  obtain ⟨a2, c2, rfl⟩ := hr.s.shape
  obtain ⟨a3, c3, rfl⟩ := hr.m.shape
  have hcp := fun W' (h : Below W.heap.size W W') => bookCopied_any e _ _ _ W' ((hr.below hB).below h) hz
  have HCP := Lib.hid hcp
  have HX := Lib.hid hx
  have HB := Lib.hid hB
  have HW := Lib.hid hW
  clear hcp hx hB hW hr hz hl hT hown h his he
  go_enter Tryz.func13, Tryz.ntmps13
  go_upto_region 1 with fail
  rw [HW.out]
  go_upto_region 2 with fail
  obtain ⟨W2, hW2⟩ : ∃ W2, W.alloc (.cells (e.cells (.slice a1 e.ru.ds.length c1) (.slice a2 e.sk.length c2) (.slice a3 e.mv.length c3)) 40) = W2 := ⟨_, rfl⟩
  have hb2 : Below W.heap.size W W2 := by rw [← hW2]; exact (Below.refl _ W).alloc (Nat.le_refl _) _
  have hy : W2.heap[W.heap.size]? = some (.cells (e.cells (.slice a1 e.ru.ds.length c1) (.slice a2 e.sk.length c2) (.slice a3 e.mv.length c3)) 40) := by rw [← hW2]; exact heap_new W _
  rw [hW2]
  obtain ⟨j0, j1, j2, j3, j4, j5, j6, j7, j8, j9, j10⟩ := cells11 hy
  have HB2 := Lib.hid (And.intro hb2 (HCP.out W2 hb2))
  clear hW2 hb2 hy k0 hq
  go_wp2_with fail
  (with_reducible refine HB2.out.2.mono ?_)
  rintro e1 w1 ⟨vd1, vs1, vm1, rfl, hr1, f1, f2, f3, hb1⟩
  obtain ⟨b1, d1, rfl⟩ := hr1.d.shape
  obtain ⟨b2, d2, rfl⟩ := hr1.s.shape
  obtain ⟨b3, d3, rfl⟩ := hr1.m.shape
  have hx1 := row_below (row_below HX.out HB2.out.1) hb1
  have HX1 := Lib.hid hx1
  have HR1 := Lib.hid hr1
  have HF := Lib.hid (And.intro f1 (And.intro f2 f3))
  have hs2 := HB2.out.1.size
  have hs1 := HB.out.size
  have hlt : w.heap.size < W.heap.size := (Array.getElem?_eq_some_iff.1 HX.out).1
  have HB3 := Lib.hid ((HB.out.trans (HB2.out.1.mono hs1)).trans (hb1.mono (by omega)))
  clear hr1 f1 f2 f3 hb1 j0 j1 j2 j3 j4 j5 j6 j7 j8 j9 j10
  obtain ⟨y0, y1, y2, y3, y4, y5, y6, y7, y8, y9, y10⟩ := cells11 hx1
  obtain ⟨z0, z1, z2, z3, z4, z5, z6, z7, z8, z9, z10⟩ := frozen11 hx1
  clear hx1
  go_wp2
  refine bodyPost_ret (res_get (put11_row HX1.out) rfl rfl) rfl ?_
  obtain ⟨f1, f2, f3⟩ := HF.out
  exact ⟨_, _, _, rfl, (put11_only ..).rv HR1.out (off_from f1 (by omega)) (off_from f2 (by omega)) (off_from f3 (by omega)), f1.mono (by omega), f2.mono (by omega), f3.mono (by omega), HB3.out.trans ((put11_only ..).below (Nat.le_refl _))⟩
theorem far_turn {w w' : World} {m : Nat} (h : w.mapTurned w' m) : Far (fun k => k = m) w w' := by
  have hg := h.grown
  exact ⟨hg.os, hg.tape, hg.output, hg.size, fun k hk hs => hg.block k hk (fun e => hs (by injection e))⟩
theorem Book.putted {w w' : World} {B b m n n' : Nat} {L : List Ev} {D : DataW Value} {e : Ev} {vd vs vm : Value} (h : Book w B b m L) (hown : w.ownsMap Tryz.prog 9 asIs m n D) (hT : Tells w B D L) (ht : w.mapTurned w' m) (ho : w'.ownsMap Tryz.prog 9 asIs m n' (D.put (ky (key e)) (.held (.agg (e.cells vd vs vm)))))
    (hr : Rv w e vd vs vm) (f1 : From B vd) (f2 : From B vs) (f3 : From B vm) (hg : badE e = 0) (hz : Size e) (hl : hasK (key e) L = true ∨ L.length < 60) : Book w' B b m (withE e L) := by
  have hf := far_turn ht
  have hT' := hT.put hown h.asc h.isMap hf hr f1 f2 f3
  refine ⟨?_, h.lo, h.lom, ⟨_, ?_, hT'⟩, asc_withE h.asc, fun x hx => ?_, fun x hx => ?_, ?_⟩
  · rw [hf.block b (Array.getElem?_eq_some_iff.1 h.box).1 (fun e => ?_)]
    · exact h.box
    · obtain ⟨es, clock, he⟩ := h.isMap
      rw [← e, h.box] at he; cases he
  · have := own_tight ho
    rwa [hT'.size] at this
  · rcases mem_withE.1 hx with rfl | ⟨hx, _⟩
    · exact hg
    · exact h.good x hx
  · rcases mem_withE.1 hx with rfl | ⟨hx, _⟩
    · exact hz
    · exact h.fit x hx
  · have := h.few
    rw [length_withE h.asc]
    split
    · exact this
    · rename_i hn
      rcases hl with h1 | h1
      · exact absurd h1 hn
      · omega
structure E1 (w : World) (er : Nat → Addr) : Prop where
  s4 : Frame.Sent w 4 (tx [110, 111, 110, 101]) (er 4)
def putK (e : Ev) (L : List Ev) : Nat := if badE e ≠ 0 then badE e else if hasK (key e) L = false ∧ 60 ≤ L.length then 7 else 0
def putL (e : Ev) (L : List Ev) : List Ev := if putK e L = 0 then withE e L else L
theorem putK_bad {e : Ev} {L : List Ev} {q : Nat} (h : badE e = q + 1) : putK e L = q + 1 ∧ putL e L = L := by
  have h1 : putK e L = q + 1 := by unfold putK; rw [if_pos (by omega), h]
  exact ⟨h1, by unfold putL; rw [h1, if_neg (by omega)]⟩
theorem putK_full {e : Ev} {L : List Ev} (h : badE e = 0) (h1 : hasK (key e) L = false) (h2 : 60 ≤ L.length) : putK e L = 7 ∧ putL e L = L := by
  have h3 : putK e L = 7 := by unfold putK; rw [if_neg (by omega), if_pos ⟨h1, h2⟩]
  exact ⟨h3, by unfold putL; rw [h3, if_neg (by omega)]⟩
theorem putK_good {e : Ev} {L : List Ev} (h : badE e = 0) (h1 : hasK (key e) L = true ∨ L.length < 60) : putK e L = 0 ∧ putL e L = withE e L := by
  have h3 : putK e L = 0 := by
    unfold putK; rw [if_neg (by omega), if_neg]
    rintro ⟨a, b⟩
    rcases h1 with h1 | h1
    · rw [a] at h1; cases h1
    · omega
  exact ⟨h3, by unfold putL; rw [h3, if_pos rfl]⟩
def PutP (w : World) (B b m : Nat) (L : List Ev) (e : Ev) (er : Nat → Addr) (r : Ending) (w' : World) : Prop :=
  r = .returned (errV er (putK e L)) ∧ Book w' B b m (putL e L) ∧ Far (fun k => k = m) w w'
set_option maxRecDepth 100000 in
set_option maxHeartbeats 8000000 in
theorem put_any (w : World) (B b m : Nat) (L : List Ev) (e : Ev) (vd vs vm : Value) (er : Nat → Addr) (he : E7 w er) (h : Book w B b m L) (hr : Rv w e vd vs vm) (hz : Size e) :
    Calls Tryz.prog 31 #[.pointer (some ⟨b, 0, none⟩), .agg (e.cells vd vs vm)] w (PutP w B b m L e er) := by
  obtain ⟨a1, c1, rfl⟩ := hr.d.shape
  obtain ⟨a2, c2, rfl⟩ := hr.s.shape
  obtain ⟨a3, c3, rfl⟩ := hr.m.shape
  obtain ⟨W, hW⟩ : ∃ W, w.alloc (.cells (e.cells (.slice a1 e.ru.ds.length c1) (.slice a2 e.sk.length c2) (.slice a3 e.mv.length c3)) 40) = W := ⟨_, rfl⟩
  have hB : Below w.heap.size w W := by rw [← hW]; exact (Below.refl _ w).alloc (Nat.le_refl _) _
  have hx : W.heap[w.heap.size]? = some (.cells (e.cells (.slice a1 e.ru.ds.length c1) (.slice a2 e.sk.length c2) (.slice a3 e.mv.length c3)) 40) := by rw [← hW]; exact heap_new w _
  have hck := check_any e _ _ _ er W (he.below hB) (hr.below hB) hz
  have hbm : B ≤ w.heap.size := Nat.le_trans h.lo (Nat.le_of_lt (Array.getElem?_eq_some_iff.1 h.box).1)
  obtain ⟨q, hq⟩ : ∃ q, badE e = q := ⟨_, rfl⟩
  rw [hq] at hck
  have HE := Lib.hid he
  have H := Lib.hid h
  have HR := Lib.hid hr
  have HZ := Lib.hid hz
  have HW := Lib.hid hW
  have HB := Lib.hid hB
  have HX := Lib.hid hx
  have HCK := Lib.hid hck
  have HQ := Lib.hid hq
  have HBM := Lib.hid hbm
  unfold PutP
  obtain ⟨j0, j1, j2, j3, j4, j5, j6, j7, j8, j9, j10⟩ := cells11 hx
  clear he h hr hz hW hB hx hck hq hbm
  go_enter Tryz.func31, Tryz.ntmps31
  go_upto_region 1 with fail
  rw [HW.out]
  go_wp2_with fail
  (with_reducible refine HCK.out.mono ?_)
  rintro e1 w1 ⟨rfl, hb1⟩
  have HB1 := Lib.hid (HB.out.trans (hb1.mono HB.out.size))
  have hx1 := row_below HX.out hb1
  have HX1 := Lib.hid hx1
  clear hb1 j0 j1 j2 j3 j4 j5 j6 j7 j8 j9 j10
  cases q with
  | succ c =>
    simp only [errV]
    clear hx1
    go_wp2
    go_ret
    obtain ⟨r1, r2⟩ := putK_bad (L := L) HQ.out
    rw [r1, r2]
    exact ⟨rfl, H.out.below HB1.out, Far.of_below HB1.out⟩
  | zero =>
    simp only [errV]
    obtain ⟨D, hown, hT⟩ := (H.out.below HB1.out).map
    obtain ⟨ud, us, um, hl, hru⟩ := hT.look (m := m) e.id.data.toList
    obtain ⟨f, hf⟩ : ∃ f, foundE e.id.data.toList L = f := ⟨_, rfl⟩
    obtain ⟨is, his⟩ : ∃ is, hasK e.id.data.toList L = is := ⟨_, rfl⟩
    rw [hf, his] at hl
    rw [hf] at hru
    have hq0 := hl.two w1 _ e.id hown rfl HZ.out.id
    have hq1 := hl.two w1.drew _ e.id hown rfl HZ.out.id
    have hq2 := hl.two (w1.alloc (.cells zeroV 40)).drew _ e.id (own_below hown (below_drew ((Below.refl _ w1).alloc (Nat.le_refl _) _))) rfl HZ.out.id
    obtain ⟨b1, d1, rfl⟩ := hru.d.shape
    obtain ⟨b2, d2, rfl⟩ := hru.s.shape
    obtain ⟨b3, d3, rfl⟩ := hru.m.shape
    have k0 := cell1 (H.out.below HB1.out).box
    obtain ⟨j0, -⟩ := cells11 hx1
    have ka := Lib.cell?_alloc_some (W := w1) (.cells zeroV 40) k0
    have ja := Lib.cell?_alloc_some (W := w1) (.cells zeroV 40) j0
    have HO := Lib.hid hown
    have HT := Lib.hid hT
    have HIS := Lib.hid his
    clear hown hT hl hf his hru hx1
    go_upto_region 4 with fail
    go_cut [7] from 6 (fun s7 wc => s7 = .bool is ∧ Below w1.heap.size w1 wc)
    case first =>
      go_region
      all_goals (
        go_wp2_with fail
        go_meet
        exact ⟨rfl, below_drew ((Below.refl _ w1).alloc (Nat.le_refl _) _)⟩)
    case rest =>
      obtain ⟨rfl, hbc⟩ := hcut
      have HBC := Lib.hid hbc
      have k1 := cell1 ((H.out.below HB1.out).below hbc).box
      have hxc := row_below HX1.out hbc
      obtain ⟨i0, i1, i2, i3, i4, i5, i6, i7, i8, i9, i10⟩ := cells11 hxc
      clear k0 j0 ka ja hq0 hq1 hq2 hbc hxc
      have hlen : ∀ ty, (Builtin.len_ #[89] ty #[.map (some m)]).run Tryz.prog wc = .ok (.int .i64 (L.length : Int)) wc := fun ty => by
        rw [(own_below HO.out HBC.out).len Tryz.underlying89 ty, HT.out.size]
      obtain ⟨q, hq⟩ : ∃ q, (!is && decide ((60 : Int) ≤ (L.length : Int))) = q := ⟨_, rfl⟩
      go_upto_region 5 with fail
      go_cut [32] from 23 (fun s32 wd => s32 = .bool q ∧ wd = wc)
      case first =>
        cases is with
        | true =>
          subst hq
          go_wp2_with fail
          go_meet
          exact ⟨rfl, rfl⟩
        | false =>
          by_cases hf : (60 : Int) ≤ (L.length : Int)
          · have hqt : q = true := by rw [← hq, decide_eq_true hf]; rfl
            subst hqt
            clear hq
            go_wp2_with fail
            go_meet
            exact ⟨rfl, rfl⟩
          · have hqt : q = false := by rw [← hq, decide_eq_false hf]; rfl
            subst hqt
            clear hq
            go_wp2_with fail
            go_meet
            exact ⟨rfl, rfl⟩
      case rest =>
        obtain ⟨rfl, rfl⟩ := hcut
        have cF := ((HE.out.below HB1.out).below HBC.out).s6.cell
        cases q with
        | true =>
          rw [Bool.and_eq_true, decide_eq_true_eq, Bool.not_eq_true'] at hq
          have HQ2 := Lib.hid hq
          clear hq hlen
          go_wp2
          go_ret
          obtain ⟨r1, r2⟩ := putK_full (L := L) HQ.out (by rw [← HQ2.out.1]; exact HIS.out) (by have := HQ2.out.2; omega)
          rw [r1, r2]
          exact ⟨rfl, (H.out.below HB1.out).below HBC.out, (Far.of_below HB1.out).trans (Far.of_below HBC.out)⟩
        | false =>
          have hgo : is = true ∨ L.length < 60 := by
            cases is with
            | true => exact .inl rfl
            | false =>
              right
              rw [Bool.not_false, Bool.true_and, decide_eq_false_iff_not] at hq
              omega
          have HGO := Lib.hid hgo
          clear hq hlen hgo cF
          go_upto_region 7 with fail
          have hcp := fun W' (h : Below wc.heap.size wc W') => bookCopied_any e _ _ _ W' (((HR.out.below HB1.out).below HBC.out).below h) HZ.out
          have hacc : Below wc.heap.size wc wc.drew := below_drew (Below.refl _ wc)
          have HCP := Lib.hid hcp
          have hfew := H.out.few
          have hml : L.length < maxLen := by simp only [maxLen]; omega
          have hkey := keyS HZ.out.id
          clear hcp hfew
          go_region_with (first
            | ((with_reducible refine (HCP.out _ hacc).mono ?_); rintro e5 w5 ⟨v1, v2, v3, rfl, hr5, f1, f2, f3, hb5⟩
               obtain ⟨b1, d1, rfl⟩ := hr5.d.shape
               obtain ⟨b2, d2, rfl⟩ := hr5.s.shape
               obtain ⟨b3, d3, rfl⟩ := hr5.m.shape
               have hb6 := hacc.trans (hb5.mono hacc.size)
               have k5 := cell1 (row_below (row_below (row_below H.out.box HB1.out) HBC.out) hb6)
               obtain ⟨m0, -⟩ := cells11 (row_below (row_below HX1.out HBC.out) hb6)
               obtain ⟨W6, hrun, hown6, hturn6⟩ := (own_below (own_below HO.out HBC.out) hb6).store (key := .string e.id) (val := .agg (e.cells (.slice b1 e.ru.ds.length d1) (.slice b2 e.sk.length d2) (.slice b3 e.mv.length d3))) lawS Tryz.underlying89 hml hkey rfl
               have H6 := Lib.hid (And.intro hr5 (And.intro f1 (And.intro f2 (And.intro f3 (And.intro hb6 (And.intro hown6 hturn6))))))
               clear hr5 f1 f2 f3 hb5 hb6 hown6 hturn6))
          all_goals (
            go_wp2
            go_ret
            obtain ⟨hr5, f1, f2, f3, hb6, ho6, ht6⟩ := H6.out
            obtain ⟨r1, r2⟩ := putK_good (L := L) HQ.out (HGO.out.imp (fun h => HIS.out.trans h) id)
            rw [r1, r2]
            have s1 := HB1.out.size
            have s2 := HBC.out.size
            have s3 := HBM.out
            refine ⟨rfl, (((H.out.below HB1.out).below HBC.out).below hb6).putted (own_below (own_below HO.out HBC.out) hb6) ((HT.out.below HBC.out).below hb6) ht6 ho6 hr5 (f1.mono (by show B ≤ wc.heap.size; omega)) (f2.mono (by show B ≤ wc.heap.size; omega)) (f3.mono (by show B ≤ wc.heap.size; omega)) HQ.out HZ.out (HGO.out.imp (fun h => HIS.out.trans h) id), ?_⟩
            exact ((Far.of_below HB1.out).trans (Far.of_below HBC.out)).trans ((Far.of_below hb6).trans (far_turn ht6)))
end Bk
end Go.Proofs.YtghkalamlcfnnaaGreatDoor
end
