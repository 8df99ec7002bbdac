/- rule.Same, rule.number. -/
import Derived.Test.YtmlndamkcipebaaDoorRuleText
import Derived.Shelf.Strconv.ErrVarAll
namespace Go.Proofs.YtmlndamkcipebaaDoor
open Go Go.RowKit Lmd
namespace Rul
open Er Day

set_option maxRecDepth 100000 in
set_option maxHeartbeats 4000000 in
theorem same_any (r s : Ru) (v u : Value) (w : World) (hr : Ints.Reads w v r.ds) (hs : Ints.Reads w u s.ds) (hl : r.ds.length < 1000) (hl2 : s.ds.length < 1000) :
    Calls Tryd.prog 44 #[.agg #[.string r.fq, .int .i64 r.ev, v, .int .i64 r.ct, .int .i64 r.un], .agg #[.string s.fq, .int .i64 s.ev, u, .int .i64 s.ct, .int .i64 s.un]] w fun e' w' => e' = .returned (.bool (sameB r s)) ∧ Below w.heap.size w w' := by
  obtain ⟨a, c, rfl⟩ := hr.shape
  obtain ⟨b, d, rfl⟩ := hs.shape
  obtain ⟨W, hW⟩ : ∃ W, (w.alloc (.cells #[.string r.fq, .int .i64 r.ev, .slice a r.ds.length c, .int .i64 r.ct, .int .i64 r.un] 67)).alloc (.cells #[.string s.fq, .int .i64 s.ev, .slice b s.ds.length d, .int .i64 s.ct, .int .i64 s.un] 67) = W := ⟨_, rfl⟩
  have hB : Below w.heap.size w W := by rw [← hW]; exact ((Below.refl _ w).alloc (Nat.le_refl _) _).alloc (by simp) _
  have heq : Calls Tryd.prog 83 #[.slice a r.ds.length c, .slice b s.ds.length d] W fun e w' => e = .returned (.bool (decide (r.ds = s.ds))) ∧ Below W.heap.size W w' := by
    by_cases hn : r.ds.length = s.ds.length
    · by_cases h0 : r.ds = []
      · have h1 : s.ds = [] := List.length_eq_zero_iff.1 (by rw [← hn, h0]; rfl)
        rw [h0, h1]
        refine (Tryd.slices_Equal_int_empty a b c 0 d W (by omega)).mono ?_
        rintro e w' ⟨rfl, rfl⟩
        exact ⟨by simp, Below.refl _ _⟩
      · obtain ⟨_, b1, o1, rfl, hc1⟩ := (hr.below hB).at h0
        obtain ⟨_, b2, o2, rfl, hc2⟩ := (hs.below hB).at (fun h => h0 (List.length_eq_zero_iff.1 (by rw [hn, h]; rfl)))
        refine (Tryd.slices_Equal_int b1 o1 r.ds.length c b2 o2 s.ds.length d r.ds s.ds W (Nat.le_refl _) (Nat.le_refl _) (by omega) (by omega) (fun j hj => by rw [hc1 j hj]; simp [Ints.el]) (fun j hj => by rw [hc2 j hj]; simp [Ints.el])).mono ?_
        rintro e w' ⟨rfl, q, rfl⟩
        exact ⟨by rw [List.take_length, List.take_length]; exact Ints.ret_bool' (Bool.eq_iff_iff.2 (by simp)), below_draw (Below.refl _ _) q⟩
    · refine (Tryd.slices_Equal_int_lens a b r.ds.length c s.ds.length d W hn).mono ?_
      rintro e w' ⟨rfl, rfl⟩
      exact ⟨by rw [decide_eq_false (fun h => hn (by rw [h]))], Below.refl _ _⟩
  have HEQ := Lib.hid heq
  have HB := Lib.hid hB
  have HW := Lib.hid hW
  clear heq hB hW hr hs
  obtain ⟨q, hq⟩ : ∃ q, sameB r s = q := ⟨_, rfl⟩
  rw [hq]
  have HQ := Lib.hid hq
  clear hq
  obtain ⟨f1, e1, n1, u1, d1⟩ := r
  obtain ⟨f2, e2, n2, u2, d2⟩ := s
  dsimp only at *
  by_cases h1 : f1 = f2
  case neg =>
    obtain rfl : q = false := by rw [← HQ.out]; simp [sameB, h1]
    have h1' : (f1.toList == f2.toList) = false := by
      rw [beq_eq_false_iff_ne]
      intro h
      rw [ByteArray.toList_eq, ByteArray.toList_eq] at h
      exact h1 (by rw [str_mk f1, str_mk f2, h])
    go_enter Tryd.func44, Tryd.ntmps44
    go_wp2
    go_ret
    exact ⟨rfl, by rw [HW.out]; exact HB.out⟩
  subst h1
  by_cases h2 : e1 = e2
  case neg =>
    obtain rfl : q = false := by rw [← HQ.out]; simp [sameB, h2]
    have h2' : (e1 == e2) = false := by simpa using h2
    go_enter Tryd.func44, Tryd.ntmps44
    go_wp2
    go_ret
    exact ⟨rfl, by rw [HW.out]; exact HB.out⟩
  subst h2
  by_cases h3 : n1 = n2
  case neg =>
    obtain rfl : q = false := by rw [← HQ.out]; simp [sameB, h3]
    have h3' : (n1 == n2) = false := by simpa using h3
    go_enter Tryd.func44, Tryd.ntmps44
    go_wp2
    go_ret
    exact ⟨rfl, by rw [HW.out]; exact HB.out⟩
  subst h3
  by_cases h4 : u1 = u2
  case neg =>
    obtain rfl : q = false := by rw [← HQ.out]; simp [sameB, h4]
    have h4' : (u1 == u2) = false := by simpa using h4
    go_enter Tryd.func44, Tryd.ntmps44
    go_wp2
    go_ret
    exact ⟨rfl, by rw [HW.out]; exact HB.out⟩
  subst h4
  have hq2 : decide (d1 = d2) = q := by rw [← HQ.out]; simp [sameB]
  rw [hq2] at HEQ
  go_enter Tryd.func44, Tryd.ntmps44
  go_wp2_with (go_at_call 83; rw [HW.out]; refine HEQ.out.mono ?_; rintro e1 w1 ⟨rfl, hb1⟩)
  go_ret
  exact ⟨rfl, HB.out.trans (hb1.mono HB.out.size)⟩
end Rul
end Go.Proofs.YtmlndamkcipebaaDoor
