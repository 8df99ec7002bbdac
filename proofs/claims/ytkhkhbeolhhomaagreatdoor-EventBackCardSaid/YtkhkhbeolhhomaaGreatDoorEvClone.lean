/- Copies of slices of numbers and of moves. -/
import Derived.Test.YtkhkhbeolhhomaaGreatDoorEvOwn
import Derived.Test.YtkhkhbeolhhomaaGreatDoorEvMoves
import Derived.Test.YtkhkhbeolhhomaaGreatDoorOnly
namespace Go.Proofs.YtkhkhbeolhhomaaGreatDoor
open Go Go.RowKit Go.Shelf Lmd
attribute [local go_sem] Oper.semAt_some
namespace Evt
open Rul Day Cand Er

theorem cellsOf_map (xs : List Int) : cellsOf xs = xs.map (Value.int .i64) := by
  apply List.ext_getElem?
  intro i
  by_cases h : i < xs.length
  · rw [cellsOf_get h, List.getElem?_map, List.getElem?_eq_getElem h, Ints.el_lt h]; rfl
  · rw [List.getElem?_eq_none (by rw [cellsOf_len]; omega), List.getElem?_eq_none (by rw [List.length_map]; omega)]
theorem row_cells {w : World} {b : Nat} {a0 a1 a2 a3 a4 a5 a6 a7 a8 a9 a10 : Value} {t : TypeId} (h : w.heap[b]? = some (.cells #[a0, a1, a2, a3, a4, a5, a6, a7, a8, a9, a10] t (0, 0))) :
    (w.cell? ⟨b, 9, none⟩ = some a9 ∧ w.cell? ⟨b, 10, none⟩ = some a10) ∧ (w.cell? ⟨b, 6, none⟩ = some a6 ∧ w.frozen? ⟨b, 6, none⟩ = false ∧ w.frozen? ⟨b, 9, none⟩ = false ∧ w.frozen? ⟨b, 10, none⟩ = false) := by
  simp [World.cell?, World.frozen?, h]
/-- a copy of numbers -/
theorem cloneInts_any (xs : List Int) (v : Value) (w : World) (hr : Ints.Reads w v xs) (hl : xs.length ≤ 1000000) :
    Calls Tryz.prog 137 #[v] w fun e w' => ∃ v', e = .returned v' ∧ Ints.Reads w' v' xs ∧ From w.heap.size v' ∧ Below w.heap.size w w' := by
  rcases hr with ⟨rfl, a, c, rfl⟩ | ⟨b, off, c, rfl, hc⟩
  · cases a with
    | none =>
      refine (Tryz.slices_Clone_int_nil 0 c w).mono ?_
      rintro e w' ⟨rfl, rfl⟩
      exact ⟨_, rfl, .inl ⟨rfl, _, _, rfl⟩, (fun g h => by cases h), Below.refl _ _⟩
    | some a =>
      refine (Tryz.slices_Clone_int_zero a c w).mono ?_
      rintro e w' ⟨v', rfl, ho, _, hb⟩
      exact ⟨v', rfl, reads_own (xs := []) ho, own_from ho, hb⟩
  · refine (Tryz.slices_Clone_int b off xs.length c xs w (Nat.le_refl _) (by omega) (fun j hj => ?_)).mono ?_
    · have := hc j hj
      simp only [Ints.el] at this
      rw [List.getD_eq_getElem?_getD]; exact this
    · rintro e w' ⟨v', rfl, ho, _, hb⟩
      rw [List.take_length, ← cellsOf_map] at ho
      exact ⟨v', rfl, reads_own (xs := xs) ho, own_from ho, hb⟩
def ClonedM (xs : List (Int × Int)) (w : World) (e : Ending) (w' : World) : Prop := ∃ v', e = .returned v' ∧ MReads w' v' xs ∧ From w.heap.size v' ∧ Below w.heap.size w w'
set_option maxRecDepth 100000 in
set_option maxHeartbeats 1000000 in
/-- a copy of moves -/
theorem cloneMoves_any (xs : List (Int × Int)) (v : Value) (w : World) (hr : MReads w v xs) (hl : xs.length ≤ 1000000) :
    Calls Tryz.prog 138 #[v] w (ClonedM xs w) := by
  obtain ⟨i0, hi0, hz0, hz1, hz2⟩ := info_parts move_info
  obtain ⟨a9, c9, rfl⟩ := hr.shape
  cases a9 with
  | none =>
    have hy : xs = [] := by
      rcases hr with ⟨h, _⟩ | ⟨b, off, cap', h, _⟩
      · exact h
      · cases h
    subst hy
    clear hr
    have hu : ∀ (w : World) (a : Option Addr) (n c n' c' : Nat), (binOp .eql 36 (.slice a n c) (.slice none n' c')).run Tryz.prog w = .ok (.bool a.isNone) w := fun w a n c n' c' => Lib.run_eql_slice_nil w _ _ a n c n' c' Tryz.underlying36
    go_enter Tryz.func138, Tryz.ntmps138
    go_wp2
    go_ret
    exact ⟨_, rfl, .inl ⟨rfl, _, _, rfl⟩, (fun g h => by cases h), Below.refl _ _⟩
  | some ad =>
    have hB : Below w.heap.size w (w.alloc (.cells #[] 54)) := (Below.refl _ w).alloc (Nat.le_refl _) _
    have HR := Lib.hid (hr.below hB)
    have HO := Lib.hid (show (w.alloc (.cells #[] 54)).ownsRow w.heap.size 54 2 (.slice (some ⟨w.heap.size, 0, none⟩) 0 0) 0 [] from ⟨rfl, .inr ⟨w.heap.size, 0, #[], rfl, Nat.le_refl _, heap_new w _, Nat.le_refl _, by simp [maxLen], rfl, rfl⟩⟩)
    have HB := Lib.hid hB
    clear hr hB
    have hu : ∀ (w : World) (a : Option Addr) (n c n' c' : Nat), (binOp .eql 36 (.slice a n c) (.slice none n' c')).run Tryz.prog w = .ok (.bool a.isNone) w := fun w a n c n' c' => Lib.run_eql_slice_nil w _ _ a n c n' c' Tryz.underlying36
    go_enter Tryz.func138, Tryz.ntmps138
    go_wp2_with (at_builtin
                 refine wpList_append_own _ rfl (.tmp 5) (.tmp 6) 36 rfl w.heap.size 54 i0 _ 2 16 Tryz.underlying36 hi0 hz0 hz1 hz2 rfl (by omega) (.slice (some ⟨w.heap.size, 0, none⟩) 0 0) 0 [] rfl HO.out ad xs.length c9 (cellsM xs) rfl (by rw [cellsM_len])
                   (fun j u hu => by
                     obtain ⟨k, hk, hu⟩ := cellsM_get hu
                     obtain ⟨_, b, o', ha, hc⟩ := HR.out.at (by rintro rfl; exact absurd hk (Nat.not_lt_zero _))
                     cases ha
                     rw [add_plain]
                     rcases hu with ⟨rfl, rfl⟩ | ⟨rfl, rfl⟩
                     · exact (hc k hk).1
                     · exact (hc k hk).2) cellsM_one (by simp only [maxLen]; omega) (by omega) (by simp) ?_
                 intro v' w' h1 h2 h3
                 rw [Nat.zero_add, List.nil_append] at h1
                 have H1 := Lib.hid h1
                 have H2 := Lib.hid (HB.out.trans ((Below.refl _ (w.alloc (.cells #[] 54))).grown h2 (by simp) (fun j ej => own_ge HO.out ej)))
                 clear h1 h2 h3)
    go_ret
    exact ⟨v', rfl, mreads_own H1.out rfl, own_from H1.out, H2.out⟩
end Evt
end Go.Proofs.YtkhkhbeolhhomaaGreatDoor
