/- A small event. -/
import Derived.Test.YtghkalamlcfnnaaGreatDoorQA14
import Derived.Test.YtghkalamlcfnnaaGreatDoorQBkBook
import Derived.Test.YtghkalamlcfnnaaGreatDoorQA11
import Derived.Test.YtghkalamlcfnnaaGreatDoorQA16
namespace Go.Proofs.YtghkalamlcfnnaaGreatDoor
open Go Go.RowKit Go.Shelf Lmd
attribute [local go_sem] Oper.semAt_some
namespace Bk
open Evt Tp Rul Day Cand Er
def smallE (id : ByteArray) (st : Int) : Ev := ⟨id, ⟨#[]⟩, st, 1, ⟨once, 1, 0, -1, []⟩, [], []⟩
abbrev b0 : Ev := smallE ⟨#[97]⟩ 7
theorem bad_b0 : badE b0 = 0 := by
  have hr : bad b0.ru = 0 := by
    refine bad_none ((Lib.containsS_iff _ _).2 (by simp [freqs, smallE])) ?_ ?_ ?_
    · simp [smallE, boundB, inB, daysB]
    · simp [smallE, shapeB]
    · simp [smallE, riseB]
  rw [badE_lists (by decide) (by decide) (by decide) hr]
  exact badL_none (by simp [smallE]) (by simp [smallE, riseB, froms]) (by simp [smallE]) (by simp [smallE, froms])
set_option maxRecDepth 100000 in
theorem small_any (id : ByteArray) (st : Int) (w : World) :
    Calls Tryz.prog 32 #[.string id, .int .i64 st] w fun r w' => r = .returned (.agg ((smallE id st).cells (.slice none 0 0) (.slice none 0 0) (.slice none 0 0))) ∧ Below w.heap.size w w' := by
  obtain ⟨W, hW⟩ : ∃ W, w.alloc (.cells zeroV 40) = W := ⟨_, rfl⟩
  have hB : Below w.heap.size w W := by rw [← hW]; exact (Below.refl _ w).alloc (Nat.le_refl _) _
  have hx : W.heap[w.heap.size]? = some (.cells zeroV 40) := by rw [← hW]; exact heap_new w _
  have HW := Lib.hid hW
  have HB := Lib.hid hB
  have HX := Lib.hid hx
  obtain ⟨y0, y1, y2, y3, y4, y5, y6, y7, y8, y9, y10⟩ := cells11 hx
  obtain ⟨z0, z1, z2, z3, z4, z5, z6, z7, z8, z9, z10⟩ := frozen11 hx
  clear hW hB hx
  go_enter Tryz.func32, Tryz.ntmps32
  go_upto_region 1 with fail
  rw [HW.out]
  go_wp2
  refine bodyPost_ret (results_cell_row rfl _ _ w.heap.size _ _ _ _ rfl (put11_row HX.out) Tryz.underlying40 rfl (by kernel_rfl)) rfl ?_
  exact ⟨rfl, HB.out.trans ((put11_only ..).below (Nat.le_refl _))⟩
theorem put_b0 : putK b0 [] = 0 ∧ putL b0 [] = [b0] := by
  obtain ⟨h1, h2⟩ := putK_good (e := b0) (L := []) bad_b0 (.inr (by decide))
  exact ⟨h1, h2⟩
end Bk
end Go.Proofs.YtghkalamlcfnnaaGreatDoor
