/- A rule's text, whatever the rule. -/
import Derived.Test.YtkhkhbeolhhomaaGreatDoorRuleText
import Derived.Test.YtkhkhbeolhhomaaGreatDoorNumPlain
namespace Go.Proofs.YtkhkhbeolhhomaaGreatDoor
open Go Go.RowKit Go.Shelf Lmd
attribute [local go_sem] Oper.semAt_some
namespace Rul
open Er Day Cand

theorem text_good (r : Ru) (v : Value) (e : Nat → Addr) (w : World) (he : E4 w e) (hr : Ints.Reads w v r.ds) (hl : r.ds.length < 50000) (hb : bad r = 0) (htab : Lib.TabIs Tryz.prog w "internal/strconv.uint64pow10" .u64 Lib.pow10Tab) :
    Calls Tryz.prog 109 #[.agg #[.string r.fq, .int .i64 r.ev, v, .int .i64 r.ct, .int .i64 r.un]] w fun e' w' => e' = .returned (.string (mk (textL r))) ∧ Below w.heap.size w w' := by
  obtain ⟨h1, h2, h3, h4, h5⟩ := bad_parts hb
  obtain ⟨b1, b2, b3⟩ := bound_parts h2
  have hcu : r.ct = 0 ∨ r.un = -1 := by
    simp only [shapeB, Bool.and_eq_true, Bool.or_eq_true, decide_eq_true_eq] at h4
    exact h4.2
  have hf : r.fq.size ≤ 8 := by
    rcases freqs_mem h1 with h | h | h | h | h <;> rw [h] <;> decide
  exact text_any r v e w he hr hl hb hf b1 b2 b3 hcu h3 htab
set_option maxRecDepth 100000 in
set_option maxHeartbeats 1500000 in
/-- a rule that does not pass has no text -/
theorem text_bad (r : Ru) (v : Value) (e : Nat → Addr) (w : World) (he : E4 w e) (hr : Ints.Reads w v r.ds) (hl : r.ds.length < 50000) (hb : bad r ≠ 0) :
    Calls Tryz.prog 109 #[.agg #[.string r.fq, .int .i64 r.ev, v, .int .i64 r.ct, .int .i64 r.un]] w fun e' w' => e' = .returned (.string ⟨#[]⟩) ∧ Below w.heap.size w w' := by
  obtain ⟨a, cap, rfl⟩ := hr.shape
  obtain ⟨W1, hW1⟩ : ∃ W1, w.alloc (.cells #[.string r.fq, .int .i64 r.ev, .slice a r.ds.length cap, .int .i64 r.ct, .int .i64 r.un] 35) = W1 := ⟨_, rfl⟩
  have hB : Below w.heap.size w W1 := by rw [← hW1]; exact (Below.refl _ w).alloc (Nat.le_refl _) _
  have hc := chk_any r _ e W1 (he.below hB) (hr.below hB) hl
  obtain ⟨q, hq⟩ : ∃ q, bad r = q := ⟨_, rfl⟩
  rw [hq] at hc hb
  have HC := Lib.hid hc
  have HB := Lib.hid hB
  have HW1 := Lib.hid hW1
  obtain ⟨n, hn⟩ : ∃ n, r.ds.length = n := ⟨_, rfl⟩
  rw [hn] at HC HW1 ⊢
  clear hc hB hW1 he hr hl hq hn
  cases q with
  | zero => exact absurd rfl hb
  | succ q =>
    clear hb
    go_enter Tryz.func109, Tryz.ntmps109
    go_wp2_with fail
    rw [HW1.out]
    (with_reducible refine HC.out.mono ?_)
    rintro e1 w2 ⟨rfl, hb2⟩
    have HB2 := Lib.hid (HB.out.trans (hb2.mono HB.out.size))
    clear hb2
    simp only [errV, ev]
    go_wp2
    go_ret
    exact ⟨rfl, HB2.out⟩

theorem text_all (r : Ru) (v : Value) (e : Nat → Addr) (w : World) (he : E4 w e) (hr : Ints.Reads w v r.ds) (hl : r.ds.length < 50000) (htab : Lib.TabIs Tryz.prog w "internal/strconv.uint64pow10" .u64 Lib.pow10Tab) :
    Calls Tryz.prog 109 #[.agg #[.string r.fq, .int .i64 r.ev, v, .int .i64 r.ct, .int .i64 r.un]] w fun e' w' => e' = .returned (.string (if bad r = 0 then mk (textL r) else ⟨#[]⟩)) ∧ Below w.heap.size w w' := by
  by_cases hb : bad r = 0
  · rw [if_pos hb]; exact text_good r v e w he hr hl hb htab
  · rw [if_neg hb]; exact text_bad r v e w he hr hl hb
end Rul
end Go.Proofs.YtkhkhbeolhhomaaGreatDoor
