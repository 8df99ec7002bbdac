/- package event: copied. -/
import Derived.Test.YtkhkhbeolhhomaaGreatDoorEvOwn
import Derived.Test.YtkhkhbeolhhomaaGreatDoorEvMoves
import Derived.Test.YtkhkhbeolhhomaaGreatDoorOnly
namespace Go.Proofs.YtkhkhbeolhhomaaGreatDoor
open Go Go.RowKit Go.Shelf Lmd
attribute [local go_sem] Oper.semAt_some
namespace Evt
open Rul Day Cand Er

theorem cellsOf_map (xs : List Int) : cellsOf xs = xs.map (Value.int .i64) := by
  apply List.ext_getElem?
  intro i
  by_cases h : i < xs.length
  · rw [cellsOf_get h, List.getElem?_map, List.getElem?_eq_getElem h, Ints.el_lt h]; rfl
  · rw [List.getElem?_eq_none (by rw [cellsOf_len]; omega), List.getElem?_eq_none (by rw [List.length_map]; omega)]
theorem row_cells {w : World} {b : Nat} {a0 a1 a2 a3 a4 a5 a6 a7 a8 a9 a10 : Value} {t : TypeId} (h : w.heap[b]? = some (.cells #[a0, a1, a2, a3, a4, a5, a6, a7, a8, a9, a10] t (0, 0))) :
    (w.cell? ⟨b, 9, none⟩ = some a9 ∧ w.cell? ⟨b, 10, none⟩ = some a10) ∧ (w.cell? ⟨b, 6, none⟩ = some a6 ∧ w.frozen? ⟨b, 6, none⟩ = false ∧ w.frozen? ⟨b, 9, none⟩ = false ∧ w.frozen? ⟨b, 10, none⟩ = false) := by
  simp [World.cell?, World.frozen?, h]
/-- a copy of numbers -/
theorem cloneInts_any (xs : List Int) (v : Value) (w : World) (hr : Ints.Reads w v xs) (hl : xs.length ≤ 1000000) :
    Calls Tryz.prog 137 #[v] w fun e w' => ∃ v', e = .returned v' ∧ Ints.Reads w' v' xs ∧ From w.heap.size v' ∧ Below w.heap.size w w' := by
  rcases hr with ⟨rfl, a, c, rfl⟩ | ⟨b, off, c, rfl, hc⟩
  · cases a with
    | none =>
      refine (Tryz.slices_Clone_int_nil 0 c w).mono ?_
      rintro e w' ⟨rfl, rfl⟩
      exact ⟨_, rfl, .inl ⟨rfl, _, _, rfl⟩, (fun g h => by cases h), Below.refl _ _⟩
    | some a =>
      refine (Tryz.slices_Clone_int_zero a c w).mono ?_
      rintro e w' ⟨v', rfl, ho, _, hb⟩
      exact ⟨v', rfl, reads_own (xs := []) ho, own_from ho, hb⟩
  · refine (Tryz.slices_Clone_int b off xs.length c xs w (Nat.le_refl _) (by omega) (fun j hj => ?_)).mono ?_
    · have := hc j hj
      simp only [Ints.el] at this
      rw [List.getD_eq_getElem?_getD]; exact this
    · rintro e w' ⟨v', rfl, ho, _, hb⟩
      rw [List.take_length, ← cellsOf_map] at ho
      exact ⟨v', rfl, reads_own (xs := xs) ho, own_from ho, hb⟩
def ClonedM (xs : List (Int × Int)) (w : World) (e : Ending) (w' : World) : Prop := ∃ v', e = .returned v' ∧ MReads w' v' xs ∧ From w.heap.size v' ∧ Below w.heap.size w w'
set_option maxRecDepth 100000 in
set_option maxHeartbeats 1000000 in
/-- a copy of moves -/
theorem cloneMoves_any (xs : List (Int × Int)) (v : Value) (w : World) (hr : MReads w v xs) (hl : xs.length ≤ 1000000) :
    Calls Tryz.prog 138 #[v] w (ClonedM xs w) := by
  obtain ⟨i0, hi0, hz0, hz1, hz2⟩ := info_parts move_info
  obtain ⟨a9, c9, rfl⟩ := hr.shape
  cases a9 with
  | none =>
    have hy : xs = [] := by
      rcases hr with ⟨h, _⟩ | ⟨b, off, cap', h, _⟩
      · exact h
      · cases h
    subst hy
    clear hr
    have hu : ∀ (w : World) (a : Option Addr) (n c n' c' : Nat), (binOp .eql 36 (.slice a n c) (.slice none n' c')).run Tryz.prog w = .ok (.bool a.isNone) w := fun w a n c n' c' => Lib.run_eql_slice_nil w _ _ a n c n' c' Tryz.underlying36
    go_enter Tryz.func138, Tryz.ntmps138
    go_wp2
    go_ret
    exact ⟨_, rfl, .inl ⟨rfl, _, _, rfl⟩, (fun g h => by cases h), Below.refl _ _⟩
  | some ad =>
    have hB : Below w.heap.size w (w.alloc (.cells #[] 54)) := (Below.refl _ w).alloc (Nat.le_refl _) _
    have HR := Lib.hid (hr.below hB)
    have HO := Lib.hid (show (w.alloc (.cells #[] 54)).ownsRow w.heap.size 54 2 (.slice (some ⟨w.heap.size, 0, none⟩) 0 0) 0 [] from ⟨rfl, .inr ⟨w.heap.size, 0, #[], rfl, Nat.le_refl _, heap_new w _, Nat.le_refl _, by simp [maxLen], rfl, rfl⟩⟩)
    have HB := Lib.hid hB
    clear hr hB
    have hu : ∀ (w : World) (a : Option Addr) (n c n' c' : Nat), (binOp .eql 36 (.slice a n c) (.slice none n' c')).run Tryz.prog w = .ok (.bool a.isNone) w := fun w a n c n' c' => Lib.run_eql_slice_nil w _ _ a n c n' c' Tryz.underlying36
    go_enter Tryz.func138, Tryz.ntmps138
    go_wp2_with (at_builtin
                 refine wpList_append_own _ rfl (.tmp 5) (.tmp 6) 36 rfl w.heap.size 54 i0 _ 2 16 Tryz.underlying36 hi0 hz0 hz1 hz2 rfl (by omega) (.slice (some ⟨w.heap.size, 0, none⟩) 0 0) 0 [] rfl HO.out ad xs.length c9 (cellsM xs) rfl (by rw [cellsM_len])
                   (fun j u hu => by
                     obtain ⟨k, hk, hu⟩ := cellsM_get hu
                     obtain ⟨_, b, o', ha, hc⟩ := HR.out.at (by rintro rfl; exact absurd hk (Nat.not_lt_zero _))
                     cases ha
                     rw [add_plain]
                     rcases hu with ⟨rfl, rfl⟩ | ⟨rfl, rfl⟩
                     · exact (hc k hk).1
                     · exact (hc k hk).2) cellsM_one (by simp only [maxLen]; omega) (by omega) (by simp) ?_
                 intro v' w' h1 h2 h3
                 rw [Nat.zero_add, List.nil_append] at h1
                 have H1 := Lib.hid h1
                 have H2 := Lib.hid (HB.out.trans ((Below.refl _ (w.alloc (.cells #[] 54))).grown h2 (by simp) (fun j ej => own_ge HO.out ej)))
                 clear h1 h2 h3)
    go_ret
    exact ⟨v', rfl, mreads_own H1.out rfl, own_from H1.out, H2.out⟩
set_option maxRecDepth 100000 in
set_option maxHeartbeats 4000000 in
theorem copied_any (e : Ev) (vd vs vm : Value) (w : World) (hr : Rv w e vd vs vm) (hz : Size e) :
    Calls Tryz.prog 106 #[.agg (e.cells vd vs vm)] w fun r w' => ∃ vd' vs' vm', r = .returned (.agg (e.cells vd' vs' vm')) ∧ Rv w' e vd' vs' vm' ∧ From w.heap.size vd' ∧ From w.heap.size vs' ∧ From w.heap.size vm' ∧ Below w.heap.size w w' := by
  obtain ⟨W, hW⟩ : ∃ W, (w.alloc (.cells (e.cells vd vs vm) 38)).alloc (.cells #[.string ⟨#[]⟩, .string ⟨#[]⟩, .int .i64 0, .int .i64 0, .string ⟨#[]⟩, .int .i64 0, .slice none 0 0, .int .i64 0, .int .i64 0, .slice none 0 0, .slice none 0 0] 38) = W := ⟨_, rfl⟩
  have hB : Below w.heap.size w W := by rw [← hW]; exact ((Below.refl _ w).alloc (Nat.le_refl _) _).alloc (by simp) _
  have hx : W.heap[w.heap.size]? = some (.cells (e.cells vd vs vm) 38) := by rw [← hW]; exact (Below.heap_alloc _ _ _ (by simp)).trans (heap_new w _)
  have hy : W.heap[w.heap.size + 1]? = some (.cells #[.string ⟨#[]⟩, .string ⟨#[]⟩, .int .i64 0, .int .i64 0, .string ⟨#[]⟩, .int .i64 0, .slice none 0 0, .int .i64 0, .int .i64 0, .slice none 0 0, .slice none 0 0] 38) := by
    rw [← hW]
    have h := heap_new (w.alloc (.cells (e.cells vd vs vm) 38)) (.cells #[.string ⟨#[]⟩, .string ⟨#[]⟩, .int .i64 0, .int .i64 0, .string ⟨#[]⟩, .int .i64 0, .slice none 0 0, .int .i64 0, .int .i64 0, .slice none 0 0, .slice none 0 0] 38)
    rwa [World.size_alloc] at h
  have hsz : W.heap.size = w.heap.size + 2 := by rw [← hW]; simp
  have hcd := fun W' (h : Below W.heap.size W W') => cloneInts_any e.ru.ds vd W' ((hr.below hB).d.below h) (by have := hz.ds; omega)
  have hcs := fun W' (h : Below W.heap.size W W') => cloneInts_any e.sk vs W' ((hr.below hB).s.below h) hz.sk
  have hcm := fun W' (h : Below W.heap.size W W') => cloneMoves_any e.mv vm W' ((hr.below hB).m.below h) hz.mv
  have HCD := Lib.hid hcd
  have HCS := Lib.hid hcs
  have HCM := Lib.hid hcm
  have HX := Lib.hid hx
  have HY := Lib.hid hy
  have HB := Lib.hid hB
  have HW := Lib.hid hW
  have HSZ := Lib.hid hsz
  have hacc : Below W.heap.size W W.drew := below_draw (Below.refl _ _) 1
  clear hr hz hW hB hx hy hcd hcs hcm hsz
  go_enter Tryz.func106, Tryz.ntmps106
  go_upto_region 1 with fail
  rw [HW.out]
  obtain ⟨-, -, -, -, -, -, k6, -, -, k9, k10⟩ := cells11 (row_below HX.out hacc)
  have hu := Tryz.underlying35
  go_region_with (first
    | ((with_reducible refine (HCD.out _ hacc).mono ?_); rintro e1 w1 ⟨v1, rfl, hr1, hf1, hb1⟩; obtain ⟨a1, c1, rfl⟩ := hr1.shape; replace hacc := belowT hacc hb1; obtain ⟨⟨k9, k10⟩, -⟩ := row_cells (row_below HX.out hacc); have HR1 := Lib.hid hr1; have HF1 := Lib.hid hf1; have HB1 := Lib.hid hb1; clear hr1 hf1 hb1)
    | ((with_reducible refine (HCS.out _ hacc).mono ?_); rintro e2 w2 ⟨v2, rfl, hr2, hf2, hb2⟩; obtain ⟨a2, c2, rfl⟩ := hr2.shape; replace hacc := belowT hacc hb2; obtain ⟨⟨k9, k10⟩, -⟩ := row_cells (row_below HX.out hacc); have HR2 := Lib.hid hr2; have HF2 := Lib.hid hf2; have HB2 := Lib.hid hb2; clear hr2 hf2 hb2)
    | ((with_reducible refine (HCM.out _ hacc).mono ?_); rintro e3 w3 ⟨v3, rfl, hr3, hf3, hb3⟩; obtain ⟨a3, c3, rfl⟩ := hr3.shape; replace hacc := belowT hacc hb3; obtain ⟨⟨k9, k10⟩, k6, f6, f9, f10⟩ := row_cells (row_below HX.out hacc); have HR3 := Lib.hid hr3; have HF3 := Lib.hid hf3; have HB3 := Lib.hid hb3; clear hr3 hf3 hb3))
  all_goals (
    have hx3 := row_below HX.out hacc
    have hy3 := row_below HY.out hacc
    have hsz3 := hacc.size
    go_upto_region 2 with fail
    (first
      | (obtain ⟨W4, hW4⟩ : ∃ W4, (((w3.setCell ⟨w.heap.size, 6, none⟩ (.slice a1 e.ru.ds.length c1)).setCell ⟨w.heap.size, 9, none⟩ (.slice a2 e.sk.length c2)).setCell ⟨w.heap.size, 10, none⟩ (.slice a3 e.mv.length c3)) = W4 := ⟨_, rfl⟩
         rw [hW4]
         have on4 : Only w.heap.size w3 W4 := by rw [← hW4]; exact (((Only.refl _ _).set 6 _).set 9 _).set 10 _
         have hr4 : W4.heap[w.heap.size]? = some (.cells (e.cells (.slice a1 e.ru.ds.length c1) (.slice a2 e.sk.length c2) (.slice a3 e.mv.length c3)) 38) := by rw [← hW4]; exact row_set (row_set (row_set (hx3) 6 _) 9 _) 10 _
         clear hW4)
      | (obtain ⟨W4, hW4⟩ : ∃ W4, (((w3.setCell ⟨w.heap.size, 6, none⟩ (.slice a1 e.ru.ds.length c1)).setCell ⟨w.heap.size, 10, none⟩ (.slice a3 e.mv.length c3)).setCell ⟨w.heap.size, 9, none⟩ (.slice a2 e.sk.length c2)) = W4 := ⟨_, rfl⟩
         rw [hW4]
         have on4 : Only w.heap.size w3 W4 := by rw [← hW4]; exact (((Only.refl _ _).set 6 _).set 10 _).set 9 _
         have hr4 : W4.heap[w.heap.size]? = some (.cells (e.cells (.slice a1 e.ru.ds.length c1) (.slice a2 e.sk.length c2) (.slice a3 e.mv.length c3)) 38) := by rw [← hW4]; exact row_set (row_set (row_set (hx3) 6 _) 10 _) 9 _
         clear hW4)
      | (obtain ⟨W4, hW4⟩ : ∃ W4, (((w3.setCell ⟨w.heap.size, 9, none⟩ (.slice a2 e.sk.length c2)).setCell ⟨w.heap.size, 6, none⟩ (.slice a1 e.ru.ds.length c1)).setCell ⟨w.heap.size, 10, none⟩ (.slice a3 e.mv.length c3)) = W4 := ⟨_, rfl⟩
         rw [hW4]
         have on4 : Only w.heap.size w3 W4 := by rw [← hW4]; exact (((Only.refl _ _).set 9 _).set 6 _).set 10 _
         have hr4 : W4.heap[w.heap.size]? = some (.cells (e.cells (.slice a1 e.ru.ds.length c1) (.slice a2 e.sk.length c2) (.slice a3 e.mv.length c3)) 38) := by rw [← hW4]; exact row_set (row_set (row_set (hx3) 9 _) 6 _) 10 _
         clear hW4)
      | (obtain ⟨W4, hW4⟩ : ∃ W4, (((w3.setCell ⟨w.heap.size, 9, none⟩ (.slice a2 e.sk.length c2)).setCell ⟨w.heap.size, 10, none⟩ (.slice a3 e.mv.length c3)).setCell ⟨w.heap.size, 6, none⟩ (.slice a1 e.ru.ds.length c1)) = W4 := ⟨_, rfl⟩
         rw [hW4]
         have on4 : Only w.heap.size w3 W4 := by rw [← hW4]; exact (((Only.refl _ _).set 9 _).set 10 _).set 6 _
         have hr4 : W4.heap[w.heap.size]? = some (.cells (e.cells (.slice a1 e.ru.ds.length c1) (.slice a2 e.sk.length c2) (.slice a3 e.mv.length c3)) 38) := by rw [← hW4]; exact row_set (row_set (row_set (hx3) 9 _) 10 _) 6 _
         clear hW4)
      | (obtain ⟨W4, hW4⟩ : ∃ W4, (((w3.setCell ⟨w.heap.size, 10, none⟩ (.slice a3 e.mv.length c3)).setCell ⟨w.heap.size, 6, none⟩ (.slice a1 e.ru.ds.length c1)).setCell ⟨w.heap.size, 9, none⟩ (.slice a2 e.sk.length c2)) = W4 := ⟨_, rfl⟩
         rw [hW4]
         have on4 : Only w.heap.size w3 W4 := by rw [← hW4]; exact (((Only.refl _ _).set 10 _).set 6 _).set 9 _
         have hr4 : W4.heap[w.heap.size]? = some (.cells (e.cells (.slice a1 e.ru.ds.length c1) (.slice a2 e.sk.length c2) (.slice a3 e.mv.length c3)) 38) := by rw [← hW4]; exact row_set (row_set (row_set (hx3) 10 _) 6 _) 9 _
         clear hW4)
      | (obtain ⟨W4, hW4⟩ : ∃ W4, (((w3.setCell ⟨w.heap.size, 10, none⟩ (.slice a3 e.mv.length c3)).setCell ⟨w.heap.size, 9, none⟩ (.slice a2 e.sk.length c2)).setCell ⟨w.heap.size, 6, none⟩ (.slice a1 e.ru.ds.length c1)) = W4 := ⟨_, rfl⟩
         rw [hW4]
         have on4 : Only w.heap.size w3 W4 := by rw [← hW4]; exact (((Only.refl _ _).set 10 _).set 9 _).set 6 _
         have hr4 : W4.heap[w.heap.size]? = some (.cells (e.cells (.slice a1 e.ru.ds.length c1) (.slice a2 e.sk.length c2) (.slice a3 e.mv.length c3)) 38) := by rw [← hW4]; exact row_set (row_set (row_set (hx3) 10 _) 9 _) 6 _
         clear hW4))
    have hy4 : W4.heap[w.heap.size + 1]? = _ := (on4.block _ (by omega)).trans hy3
    have HY4 := Lib.hid hy4
    have HR4 := Lib.hid hr4
    have ON4 := Lib.hid on4
    have HACC := Lib.hid hacc
    clear hx3 hy3 hsz3 hacc on4
    obtain ⟨j0, j1, j2, j3, j4, j5, j6, j7, j8, j9, j10⟩ := cells11 hr4
    obtain ⟨yy0, yy1, yy2, yy3, yy4, yy5, yy6, yy7, yy8, yy9, yy10⟩ := cells11 hy4
    obtain ⟨y0, y1, y2, y3, y4, y5, y6, y7, y8, y9, y10⟩ := frozen11 hy4
    clear hr4 hy4
    go_wp2
    refine bodyPost_ret (results_cell_row rfl _ _ (w.heap.size + 1) _ _ _ _ rfl (put11_row HY4.out) Tryz.underlying38 rfl (by kernel_rfl)) rfl ?_
    have hs1 := HB1.out.size
    have hs2 := HB2.out.size
    have hs3 := HB3.out.size
    have hsw : W.drew.heap.size = w.heap.size + 2 := HSZ.out
    have f1 : From (w.heap.size + 2) (.slice a1 e.ru.ds.length c1) := HF1.out.mono (by omega)
    have f2 : From (w.heap.size + 2) (.slice a2 e.sk.length c2) := HF2.out.mono (by omega)
    have f3 : From (w.heap.size + 2) (.slice a3 e.mv.length c3) := HF3.out.mono (by omega)
    have hrv3 : Rv w3 e (.slice a1 e.ru.ds.length c1) (.slice a2 e.sk.length c2) (.slice a3 e.mv.length c3) := ⟨(HR1.out.below HB2.out).below HB3.out, HR2.out.below HB3.out, HR3.out⟩
    have hrv4 := ON4.out.rv hrv3 (off_from f1 (by omega)) (off_from f2 (by omega)) (off_from f3 (by omega))
    refine ⟨_, _, _, rfl, (put11_only ..).rv hrv4 (off_from f1 (by omega)) (off_from f2 (by omega)) (off_from f3 (by omega)), f1.mono (by omega), f2.mono (by omega), f3.mono (by omega), ?_⟩
    exact ((HB.out.trans (HACC.out.mono HB.out.size)).trans (ON4.out.below (Nat.le_refl _))).trans ((put11_only ..).below (Nat.le_succ _)))
end Evt
end Go.Proofs.YtkhkhbeolhhomaaGreatDoor
