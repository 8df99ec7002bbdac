/- package book: copied. -/
import Derived.Test.YtghkalamlcfnnaaGreatDoorQA7
namespace Go.Proofs.YtghkalamlcfnnaaGreatDoor
open Go Go.RowKit Go.Shelf Lmd
attribute [local go_sem] Oper.semAt_some
namespace Evt
open Rul Day Cand Er

set_option maxRecDepth 100000 in
set_option maxHeartbeats 4000000 in
theorem bookCopied_any (e : Ev) (vd vs vm : Value) (w : World) (hr : Rv w e vd vs vm) (hz : Size e) :
    Calls Tryz.prog 43 #[.agg (e.cells vd vs vm)] w fun r w' => ∃ vd' vs' vm', r = .returned (.agg (e.cells vd' vs' vm')) ∧ Rv w' e vd' vs' vm' ∧ From w.heap.size vd' ∧ From w.heap.size vs' ∧ From w.heap.size vm' ∧ Below w.heap.size w w' := by
  obtain ⟨W, hW⟩ : ∃ W, (w.alloc (.cells (e.cells vd vs vm) 40)).alloc (.cells #[.string ⟨#[]⟩, .string ⟨#[]⟩, .int .i64 0, .int .i64 0, .string ⟨#[]⟩, .int .i64 0, .slice none 0 0, .int .i64 0, .int .i64 0, .slice none 0 0, .slice none 0 0] 40) = W := ⟨_, rfl⟩
  have hB : Below w.heap.size w W := by rw [← hW]; exact ((Below.refl _ w).alloc (Nat.le_refl _) _).alloc (by simp) _
  have hx : W.heap[w.heap.size]? = some (.cells (e.cells vd vs vm) 40) := by rw [← hW]; exact (Below.heap_alloc _ _ _ (by simp)).trans (heap_new w _)
  have hy : W.heap[w.heap.size + 1]? = some (.cells #[.string ⟨#[]⟩, .string ⟨#[]⟩, .int .i64 0, .int .i64 0, .string ⟨#[]⟩, .int .i64 0, .slice none 0 0, .int .i64 0, .int .i64 0, .slice none 0 0, .slice none 0 0] 40) := by
    rw [← hW]
    have h := heap_new (w.alloc (.cells (e.cells vd vs vm) 40)) (.cells #[.string ⟨#[]⟩, .string ⟨#[]⟩, .int .i64 0, .int .i64 0, .string ⟨#[]⟩, .int .i64 0, .slice none 0 0, .int .i64 0, .int .i64 0, .slice none 0 0, .slice none 0 0] 40)
    rwa [World.size_alloc] at h
  have hsz : W.heap.size = w.heap.size + 2 := by rw [← hW]; simp
  have hcd := fun W' (h : Below W.heap.size W W') => cloneInts_any e.ru.ds vd W' ((hr.below hB).d.below h) (by have := hz.ds; omega)
  have hcs := fun W' (h : Below W.heap.size W W') => cloneInts_any e.sk vs W' ((hr.below hB).s.below h) hz.sk
  have hcm := fun W' (h : Below W.heap.size W W') => cloneMoves_any e.mv vm W' ((hr.below hB).m.below h) hz.mv
  have HCD := Lib.hid hcd
  have HCS := Lib.hid hcs
  have HCM := Lib.hid hcm
  have HX := Lib.hid hx
  have HY := Lib.hid hy
  have HB := Lib.hid hB
  have HW := Lib.hid hW
  have HSZ := Lib.hid hsz
  have hacc : Below W.heap.size W W.drew := below_draw (Below.refl _ _) 1
  clear hr hz hW hB hx hy hcd hcs hcm hsz
  go_enter Tryz.func43, Tryz.ntmps43
  go_upto_region 1 with fail
  rw [HW.out]
  obtain ⟨-, -, -, -, -, -, k6, -, -, k9, k10⟩ := cells11 (row_below HX.out hacc)
  have hu := Tryz.underlying37
  go_region_with (first
    | ((with_reducible refine (HCD.out _ hacc).mono ?_); rintro e1 w1 ⟨v1, rfl, hr1, hf1, hb1⟩; obtain ⟨a1, c1, rfl⟩ := hr1.shape; replace hacc := belowT hacc hb1; obtain ⟨⟨k9, k10⟩, -⟩ := row_cells (row_below HX.out hacc); have HR1 := Lib.hid hr1; have HF1 := Lib.hid hf1; have HB1 := Lib.hid hb1; clear hr1 hf1 hb1)
    | ((with_reducible refine (HCS.out _ hacc).mono ?_); rintro e2 w2 ⟨v2, rfl, hr2, hf2, hb2⟩; obtain ⟨a2, c2, rfl⟩ := hr2.shape; replace hacc := belowT hacc hb2; obtain ⟨⟨k9, k10⟩, -⟩ := row_cells (row_below HX.out hacc); have HR2 := Lib.hid hr2; have HF2 := Lib.hid hf2; have HB2 := Lib.hid hb2; clear hr2 hf2 hb2)
    | ((with_reducible refine (HCM.out _ hacc).mono ?_); rintro e3 w3 ⟨v3, rfl, hr3, hf3, hb3⟩; obtain ⟨a3, c3, rfl⟩ := hr3.shape; replace hacc := belowT hacc hb3; obtain ⟨⟨k9, k10⟩, k6, f6, f9, f10⟩ := row_cells (row_below HX.out hacc); have HR3 := Lib.hid hr3; have HF3 := Lib.hid hf3; have HB3 := Lib.hid hb3; clear hr3 hf3 hb3))
  all_goals (
    have hx3 := row_below HX.out hacc
    have hy3 := row_below HY.out hacc
    have hsz3 := hacc.size
    go_upto_region 2 with fail
    (first
      | (obtain ⟨W4, hW4⟩ : ∃ W4, (((w3.setCell ⟨w.heap.size, 6, none⟩ (.slice a1 e.ru.ds.length c1)).setCell ⟨w.heap.size, 9, none⟩ (.slice a2 e.sk.length c2)).setCell ⟨w.heap.size, 10, none⟩ (.slice a3 e.mv.length c3)) = W4 := ⟨_, rfl⟩
         rw [hW4]
         have on4 : Only w.heap.size w3 W4 := by rw [← hW4]; exact (((Only.refl _ _).set 6 _).set 9 _).set 10 _
         have hr4 : W4.heap[w.heap.size]? = some (.cells (e.cells (.slice a1 e.ru.ds.length c1) (.slice a2 e.sk.length c2) (.slice a3 e.mv.length c3)) 40) := by rw [← hW4]; exact row_set (row_set (row_set (hx3) 6 _) 9 _) 10 _
         clear hW4)
      | (obtain ⟨W4, hW4⟩ : ∃ W4, (((w3.setCell ⟨w.heap.size, 6, none⟩ (.slice a1 e.ru.ds.length c1)).setCell ⟨w.heap.size, 10, none⟩ (.slice a3 e.mv.length c3)).setCell ⟨w.heap.size, 9, none⟩ (.slice a2 e.sk.length c2)) = W4 := ⟨_, rfl⟩
         rw [hW4]
         have on4 : Only w.heap.size w3 W4 := by rw [← hW4]; exact (((Only.refl _ _).set 6 _).set 10 _).set 9 _
         have hr4 : W4.heap[w.heap.size]? = some (.cells (e.cells (.slice a1 e.ru.ds.length c1) (.slice a2 e.sk.length c2) (.slice a3 e.mv.length c3)) 40) := by rw [← hW4]; exact row_set (row_set (row_set (hx3) 6 _) 10 _) 9 _
         clear hW4)
      | (obtain ⟨W4, hW4⟩ : ∃ W4, (((w3.setCell ⟨w.heap.size, 9, none⟩ (.slice a2 e.sk.length c2)).setCell ⟨w.heap.size, 6, none⟩ (.slice a1 e.ru.ds.length c1)).setCell ⟨w.heap.size, 10, none⟩ (.slice a3 e.mv.length c3)) = W4 := ⟨_, rfl⟩
         rw [hW4]
         have on4 : Only w.heap.size w3 W4 := by rw [← hW4]; exact (((Only.refl _ _).set 9 _).set 6 _).set 10 _
         have hr4 : W4.heap[w.heap.size]? = some (.cells (e.cells (.slice a1 e.ru.ds.length c1) (.slice a2 e.sk.length c2) (.slice a3 e.mv.length c3)) 40) := by rw [← hW4]; exact row_set (row_set (row_set (hx3) 9 _) 6 _) 10 _
         clear hW4)
      | (obtain ⟨W4, hW4⟩ : ∃ W4, (((w3.setCell ⟨w.heap.size, 9, none⟩ (.slice a2 e.sk.length c2)).setCell ⟨w.heap.size, 10, none⟩ (.slice a3 e.mv.length c3)).setCell ⟨w.heap.size, 6, none⟩ (.slice a1 e.ru.ds.length c1)) = W4 := ⟨_, rfl⟩
         rw [hW4]
         have on4 : Only w.heap.size w3 W4 := by rw [← hW4]; exact (((Only.refl _ _).set 9 _).set 10 _).set 6 _
         have hr4 : W4.heap[w.heap.size]? = some (.cells (e.cells (.slice a1 e.ru.ds.length c1) (.slice a2 e.sk.length c2) (.slice a3 e.mv.length c3)) 40) := by rw [← hW4]; exact row_set (row_set (row_set (hx3) 9 _) 10 _) 6 _
         clear hW4)
      | (obtain ⟨W4, hW4⟩ : ∃ W4, (((w3.setCell ⟨w.heap.size, 10, none⟩ (.slice a3 e.mv.length c3)).setCell ⟨w.heap.size, 6, none⟩ (.slice a1 e.ru.ds.length c1)).setCell ⟨w.heap.size, 9, none⟩ (.slice a2 e.sk.length c2)) = W4 := ⟨_, rfl⟩
         rw [hW4]
         have on4 : Only w.heap.size w3 W4 := by rw [← hW4]; exact (((Only.refl _ _).set 10 _).set 6 _).set 9 _
         have hr4 : W4.heap[w.heap.size]? = some (.cells (e.cells (.slice a1 e.ru.ds.length c1) (.slice a2 e.sk.length c2) (.slice a3 e.mv.length c3)) 40) := by rw [← hW4]; exact row_set (row_set (row_set (hx3) 10 _) 6 _) 9 _
         clear hW4)
      | (obtain ⟨W4, hW4⟩ : ∃ W4, (((w3.setCell ⟨w.heap.size, 10, none⟩ (.slice a3 e.mv.length c3)).setCell ⟨w.heap.size, 9, none⟩ (.slice a2 e.sk.length c2)).setCell ⟨w.heap.size, 6, none⟩ (.slice a1 e.ru.ds.length c1)) = W4 := ⟨_, rfl⟩
         rw [hW4]
         have on4 : Only w.heap.size w3 W4 := by rw [← hW4]; exact (((Only.refl _ _).set 10 _).set 9 _).set 6 _
         have hr4 : W4.heap[w.heap.size]? = some (.cells (e.cells (.slice a1 e.ru.ds.length c1) (.slice a2 e.sk.length c2) (.slice a3 e.mv.length c3)) 40) := by rw [← hW4]; exact row_set (row_set (row_set (hx3) 10 _) 9 _) 6 _
         clear hW4))
    have hy4 : W4.heap[w.heap.size + 1]? = _ := (on4.block _ (by omega)).trans hy3
    have HY4 := Lib.hid hy4
    have HR4 := Lib.hid hr4
    have ON4 := Lib.hid on4
    have HACC := Lib.hid hacc
    clear hx3 hy3 hsz3 hacc on4
    obtain ⟨j0, j1, j2, j3, j4, j5, j6, j7, j8, j9, j10⟩ := cells11 hr4
    obtain ⟨yy0, yy1, yy2, yy3, yy4, yy5, yy6, yy7, yy8, yy9, yy10⟩ := cells11 hy4
    obtain ⟨y0, y1, y2, y3, y4, y5, y6, y7, y8, y9, y10⟩ := frozen11 hy4
    clear hr4 hy4
    go_wp2
    refine bodyPost_ret (results_cell_row rfl _ _ (w.heap.size + 1) _ _ _ _ rfl (put11_row HY4.out) Tryz.underlying40 rfl (by kernel_rfl)) rfl ?_
    have hs1 := HB1.out.size
    have hs2 := HB2.out.size
    have hs3 := HB3.out.size
    have hsw : W.drew.heap.size = w.heap.size + 2 := HSZ.out
    have f1 : From (w.heap.size + 2) (.slice a1 e.ru.ds.length c1) := HF1.out.mono (by omega)
    have f2 : From (w.heap.size + 2) (.slice a2 e.sk.length c2) := HF2.out.mono (by omega)
    have f3 : From (w.heap.size + 2) (.slice a3 e.mv.length c3) := HF3.out.mono (by omega)
    have hrv3 : Rv w3 e (.slice a1 e.ru.ds.length c1) (.slice a2 e.sk.length c2) (.slice a3 e.mv.length c3) := ⟨(HR1.out.below HB2.out).below HB3.out, HR2.out.below HB3.out, HR3.out⟩
    have hrv4 := ON4.out.rv hrv3 (off_from f1 (by omega)) (off_from f2 (by omega)) (off_from f3 (by omega))
    refine ⟨_, _, _, rfl, (put11_only ..).rv hrv4 (off_from f1 (by omega)) (off_from f2 (by omega)) (off_from f3 (by omega)), f1.mono (by omega), f2.mono (by omega), f3.mono (by omega), ?_⟩
    exact ((HB.out.trans (HACC.out.mono HB.out.size)).trans (ON4.out.below (Nat.le_refl _))).trans ((put11_only ..).below (Nat.le_succ _)))
end Evt
end Go.Proofs.YtghkalamlcfnnaaGreatDoor
