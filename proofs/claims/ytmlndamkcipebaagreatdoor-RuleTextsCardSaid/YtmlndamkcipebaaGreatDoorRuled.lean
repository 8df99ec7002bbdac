/- The closed fact ruled. -/
import Derived.Test.YtmlndamkcipebaaGreatDoorRuleRead
namespace Go.Proofs.YtmlndamkcipebaaGreatDoor
open Go Go.RowKit Go.Shelf Lmd
namespace Rul
open Er Day Cand

def r1 : Ru := ⟨weekly, 2, 5, -1, [0, 4]⟩
theorem bad_r1 : bad r1 = 0 := by
  refine bad_none ((Lib.containsS_iff _ _).2 (by simp [freqs, r1])) ?_ ?_ ?_
  · simp [r1, boundB, inB, daysB]
  · simp [r1, shapeB]
  · simp [r1, riseB]; decide
theorem itoa_one (n : Nat) (h : n < 10) : Lib.itoa (n : Int) = [UInt8.ofNat (48 + n)] := by
  rw [Lib.itoa_nonneg]; unfold Lib.decDigits; rw [dif_pos h]
theorem text_r1 : textL r1 = [119, 101, 101, 107, 108, 121, 32, 50, 32, 109, 111, 44, 102, 114, 32, 99, 111, 117, 110, 116, 32, 53] := by
  have h2 : Lib.itoa 2 = [50] := itoa_one 2 (by decide)
  have h5 : Lib.itoa 5 = [53] := itoa_one 5 (by decide)
  have n0 : (nameOf 0).data.toList = [109, 111] := by decide
  have n4 : (nameOf 4).data.toList = [102, 114] := by decide
  have ho : ¬ r1.fq.toList = [111, 110, 99, 101] := by simp [r1]
  unfold textL
  rw [if_neg ho]
  unfold headL daysL countL untilL
  rw [if_neg (by simp [r1]), if_pos (by simp [r1]), if_neg (by simp [r1])]
  have e1 : r1.ev = 2 := rfl
  have e2 : r1.ct = 5 := rfl
  have e3 : r1.ds = [0, 4] := rfl
  rw [e1, e2, e3, h2, h5]
  simp [Lib.join, n0, n4, r1]
theorem text_good (r : Ru) (v : Value) (e : Nat → Addr) (w : World) (he : E4 w e) (hr : Ints.Reads w v r.ds) (hl : r.ds.length < 1000) (hb : bad r = 0) (htab : Lib.TabIs Tryz.prog w "internal/strconv.uint64pow10" .u64 Lib.pow10Tab) :
    Calls Tryz.prog 30 #[.agg #[.string r.fq, .int .i64 r.ev, v, .int .i64 r.ct, .int .i64 r.un]] w fun e' w' => e' = .returned (.string (mk (textL r))) ∧ Below w.heap.size w w' := by
  obtain ⟨h1, h2, h3, h4, h5⟩ := bad_parts hb
  obtain ⟨b1, b2, b3⟩ := bound_parts h2
  have hcu : r.ct = 0 ∨ r.un = -1 := by
    simp only [shapeB, Bool.and_eq_true, Bool.or_eq_true, decide_eq_true_eq] at h4
    exact h4.2
  have hf : r.fq.size ≤ 8 := by
    rcases freqs_mem h1 with h | h | h | h | h <;> rw [h] <;> decide
  exact text_any r v e w he hr hl hb hf b1 b2 b3 hcu h3 htab
set_option maxRecDepth 100000 in
set_option maxHeartbeats 4000000 in
theorem ruled_any (e : Nat → Addr) (w : World) (he : E4 w e) (htab : Lib.TabIs Tryz.prog w "internal/strconv.uint64pow10" .u64 Lib.pow10Tab) :
    Calls Tryz.prog 21 #[] w fun e' w' => e' = .returned (.bool true) ∧ Below w.heap.size w w' := by
  have hx := heap_new w (.cells #[.int .i64 0, .int .i64 4] 3)
  have hB : Below w.heap.size w (w.alloc (.cells #[.int .i64 0, .int .i64 4] 3)) := (Below.refl _ w).alloc (Nat.le_refl _) _
  have hr : Ints.Reads (w.alloc (.cells #[.int .i64 0, .int .i64 4] 3)) (.slice (some ⟨w.heap.size, 0, none⟩) 2 2) r1.ds := by
    refine .inr ⟨w.heap.size, 0, 2, rfl, fun i hi => ?_⟩
    have h2 : i = 0 ∨ i = 1 := by simp [r1] at hi; omega
    rcases h2 with rfl | rfl
    · exact cell_of hx rfl
    · exact cell_of hx rfl
  have ht := text_good r1 _ e _ (he.below hB) hr (by simp [r1]) bad_r1 (Frame.tab_below (g := 12) (by kernel_rfl) hB htab)
  rw [text_r1] at ht
  have HT := Lib.hid ht
  have HB := Lib.hid hB
  clear he htab ht hB hr hx
  go_enter Tryz.func21, Tryz.ntmps21
  go_wp2_with fail
  refine HT.out.mono ?_
  rintro e1 w1 ⟨rfl, hb1⟩
  have HB1 := Lib.hid (HB.out.trans (hb1.mono HB.out.size))
  clear hb1
  go_wp2
  go_ret
  exact ⟨rfl, HB1.out⟩
end Rul
end Go.Proofs.YtmlndamkcipebaaGreatDoor
