/- The closed fact evented. -/
import Derived.Test.YtkhkhbeolhhomaaGreatDoorEvGet
namespace Go.Proofs.YtkhkhbeolhhomaaGreatDoor
open Go Go.RowKit Go.Shelf Lmd
attribute [local go_sem] Oper.semAt_some
namespace Evt
open Rul Day Cand Er

def e0 : Ev := ⟨⟨#[97]⟩, ⟨#[65, 32, 98]⟩, 5, 1, ⟨once, 1, 0, -1, []⟩, [], []⟩
theorem bad_e0 : badE e0 = 0 := by
  have hr : bad e0.ru = 0 := by
    refine bad_none ((Lib.containsS_iff _ _).2 (by simp [freqs, e0])) ?_ ?_ ?_
    · simp [e0, boundB, inB, daysB]
    · simp [e0, shapeB]
    · simp [e0, riseB]
  rw [badE_lists (by decide) (by decide) (by decide) hr]
  exact badL_none (by simp [e0]) (by simp [e0, riseB, froms]) (by simp [e0]) (by simp [e0, froms])
theorem itoa_1 : Lib.itoa (1 : Int) = [49] := by
  have h := Lib.itoa_nonneg 1
  rw [show ((1 : Nat) : Int) = 1 from rfl] at h
  rw [h]; unfold Lib.decDigits; rw [dif_pos (by decide)]; rfl
theorem text_e0 : textE e0 = [97, 124, 65, 32, 98, 124, 50, 48, 48, 48, 45, 48, 49, 45, 48, 54, 124, 49, 124, 111, 110, 99, 101, 124, 124] := by
  have hr : bad e0.ru = 0 := (badE_zero bad_e0).2.2.2.2.1
  have n1 : ∀ {a b : List UInt8}, a ≠ b → ¬ (⟨a.toArray⟩ : ByteArray).toList = b := fun h e => h (by rw [ByteArray.toList_eq] at e; simpa using e)
  have p1 : ∀ {a : List UInt8}, (⟨a.toArray⟩ : ByteArray).toList = a := by intro a; rw [ByteArray.toList_eq]
  have g1 : getL e0 fTitle = ⟨#[65, 32, 98]⟩ := by unfold getL; rw [if_pos p1]; rfl
  have g2 : getL e0 fStart = mk [50, 48, 48, 48, 45, 48, 49, 45, 48, 54] := by
    unfold getL
    rw [if_neg (n1 (by decide)), if_pos p1]
    have ha : Cal.At 5 2000 1 6 := by unfold Cal.At Cal.Ok; decide
    show dayS 5 = _
    unfold dayS dayL
    rw [if_pos (by decide), dayT_at ha]
    rfl
  have g3 : getL e0 fLong = mk [49] := by
    unfold getL
    rw [if_neg (n1 (by decide)), if_neg (n1 (by decide)), if_pos p1]
    show mk (Lib.itoa 1) = _
    rw [itoa_1]
  have g4 : getL e0 fRule = mk [111, 110, 99, 101] := by
    unfold getL
    rw [if_neg (n1 (by decide)), if_neg (n1 (by decide)), if_neg (n1 (by decide)), if_pos p1, if_pos hr]
    unfold textL
    rw [if_pos (by show once.toList = _; rw [ByteArray.toList_eq])]
    rfl
  have g5 : getL e0 fSkips = mk [] := by
    unfold getL
    rw [if_neg (n1 (by decide)), if_neg (n1 (by decide)), if_neg (n1 (by decide)), if_neg (n1 (by decide)), if_pos p1]
    rfl
  have g6 : getL e0 fMoves = mk [] := by
    unfold getL
    rw [if_neg (n1 (by decide)), if_neg (n1 (by decide)), if_neg (n1 (by decide)), if_neg (n1 (by decide)), if_neg (n1 (by decide)), if_pos p1]
    rfl
  have hp : partsE e0 6 = [⟨#[97]⟩, ⟨#[65, 32, 98]⟩, mk [50, 48, 48, 48, 45, 48, 49, 45, 48, 54], mk [49], mk [111, 110, 99, 101], mk [], mk []] := by
    show e0.id :: (List.map (getL e0) [fTitle, fStart, fLong, fRule, fSkips, fMoves]) = _
    simp only [List.map_cons, List.map_nil, g1, g2, g3, g4, g5, g6]
    rfl
  unfold textE
  rw [hp]
  rfl
set_option maxRecDepth 100000 in
set_option maxHeartbeats 2000000 in
theorem evented_any (er : Nat → Addr) (w : World) (hT : Tb w er) :
    Calls Tryz.prog 21 #[] w fun r w' => r = .returned (.bool true) ∧ Below w.heap.size w w' := by
  obtain ⟨W, hW⟩ : ∃ W, w.alloc (.cells (e0.cells (.slice none 0 0) (.slice none 0 0) (.slice none 0 0)) 38) = W := ⟨_, rfl⟩
  have hB : Below w.heap.size w W := by rw [← hW]; exact (Below.refl _ w).alloc (Nat.le_refl _) _
  have hx : W.heap[w.heap.size]? = some (.cells (e0.cells (.slice none 0 0) (.slice none 0 0) (.slice none 0 0)) 38) := by rw [← hW]; exact heap_new w _
  have ht := text_good e0 (.slice none 0 0) (.slice none 0 0) (.slice none 0 0) er W (hT.below hB) ⟨.inl ⟨rfl, _, _, rfl⟩, .inl ⟨rfl, _, _, rfl⟩, .inl ⟨rfl, _, _, rfl⟩⟩ ⟨by decide, by decide, by decide, by decide, by decide⟩ bad_e0 (moves_nil none 0 W)
  rw [text_e0] at ht
  have HT := Lib.hid ht
  have HB := Lib.hid hB
  have HX := Lib.hid hx
  have HW := Lib.hid (show w.alloc (.cells #[.string ⟨#[97]⟩, .string ⟨#[65, 32, 98]⟩, .int .i64 5, .int .i64 1, .string once, .int .i64 1, .slice none 0 0, .int .i64 0, .int .i64 (-1), .slice none 0 0, .slice none 0 0] 38) = W from hW)
  clear hT ht hB hx hW
  go_enter Tryz.func21, Tryz.ntmps21
  go_upto_region 2 with fail
  rw [HW.out]
  obtain ⟨k0, k1, k2, k3, k4, k5, k6, k7, k8, k9, k10⟩ := cells11 HX.out
  go_wp2_with fail
  (with_reducible refine HT.out.mono ?_)
  rintro e1 w1 ⟨rfl, hb1⟩
  have HB1 := Lib.hid (HB.out.trans (hb1.mono HB.out.size))
  clear hb1
  go_wp2
  go_ret
  exact ⟨rfl, HB1.out⟩
end Evt
end Go.Proofs.YtkhkhbeolhhomaaGreatDoor
