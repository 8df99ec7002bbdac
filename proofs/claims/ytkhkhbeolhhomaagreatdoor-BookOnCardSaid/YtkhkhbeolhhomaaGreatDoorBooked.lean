/- The closed fact booked: an event on a day. -/
import Derived.Test.YtkhkhbeolhhomaaGreatDoorBkOn
import Derived.Test.YtkhkhbeolhhomaaGreatDoorTextsSame
import Derived.Deep.CutRange
namespace Go.Proofs.YtkhkhbeolhhomaaGreatDoor
open Go Go.RowKit Go.Shelf Lmd
attribute [local go_sem] Oper.semAt_some
namespace Bk
open Evt Tp Rul Day Cand Er

def smallE (id : ByteArray) (st : Int) : Ev := ⟨id, ⟨#[]⟩, st, 1, ⟨once, 1, 0, -1, []⟩, [], []⟩
abbrev b0 : Ev := smallE ⟨#[97]⟩ 7
theorem bad_b0 : badE b0 = 0 := by
  have hr : bad b0.ru = 0 := by
    refine bad_none ((Lib.containsS_iff _ _).2 (by simp [freqs, smallE])) ?_ ?_ ?_
    · simp [smallE, boundB, inB, daysB]
    · simp [smallE, shapeB]
    · simp [smallE, riseB]
  rw [badE_lists (by decide) (by decide) (by decide) hr]
  exact badL_none (by simp [smallE]) (by simp [smallE, riseB, froms]) (by simp [smallE]) (by simp [smallE, froms])
theorem evL_b0 (y m d : Int) : evL b0 y m d = [7] := by
  unfold evL cands
  rw [if_pos (by show once.toList = _; rw [ByteArray.toList_eq])]
  rfl
theorem cov_b0 {d : Int} (h0 : 0 ≤ d) (h1 : d ≤ 73048) : covD b0 d = decide (d = 7) := by
  have hb := bad_b0
  have hf := fit_of hb (dt_at hb)
  unfold covD coversB
  rw [hb, Bool.eq_iff_iff, Bool.and_eq_true, cov_iff hf, decide_eq_true_eq, decide_eq_true_eq]
  have hlg : b0.lg = 1 := rfl
  rw [hlg]
  constructor
  · rintro ⟨_, _, x, h2, h3, h4⟩
    rcases occ_iff.1 h4 with ⟨h5, _⟩ | ⟨m, hm, _⟩
    · rw [evL_b0, List.mem_singleton] at h5; omega
    · cases hm
  · rintro rfl
    refine ⟨rfl, ⟨h0, h1⟩, 7, by omega, by omega, occ_iff.2 (.inl ⟨by rw [evL_b0]; exact List.mem_singleton.2 rfl, rfl⟩)⟩
set_option maxRecDepth 100000 in
theorem small_any (id : ByteArray) (st : Int) (w : World) :
    Calls Tryz.prog 76 #[.string id, .int .i64 st] w fun r w' => r = .returned (.agg ((smallE id st).cells (.slice none 0 0) (.slice none 0 0) (.slice none 0 0))) ∧ Below w.heap.size w w' := by
  obtain ⟨W, hW⟩ : ∃ W, w.alloc (.cells zeroV 38) = W := ⟨_, rfl⟩
  have hB : Below w.heap.size w W := by rw [← hW]; exact (Below.refl _ w).alloc (Nat.le_refl _) _
  have hx : W.heap[w.heap.size]? = some (.cells zeroV 38) := by rw [← hW]; exact heap_new w _
  have HW := Lib.hid hW
  have HB := Lib.hid hB
  have HX := Lib.hid hx
  obtain ⟨y0, y1, y2, y3, y4, y5, y6, y7, y8, y9, y10⟩ := cells11 hx
  obtain ⟨z0, z1, z2, z3, z4, z5, z6, z7, z8, z9, z10⟩ := frozen11 hx
  clear hW hB hx
  go_enter Tryz.func76, Tryz.ntmps76
  go_upto_region 1 with fail
  rw [HW.out]
  go_wp2
  refine bodyPost_ret (results_cell_row rfl _ _ w.heap.size _ _ _ _ rfl (put11_row HX.out) Tryz.underlying38 rfl (by kernel_rfl)) rfl ?_
  exact ⟨rfl, HB.out.trans ((put11_only ..).below (Nat.le_refl _))⟩
theorem put_b0 : putK b0 [] = 0 ∧ putL b0 [] = [b0] := by
  obtain ⟨h1, h2⟩ := putK_good (e := b0) (L := []) bad_b0 (.inr (by decide))
  exact ⟨h1, h2⟩
theorem found_b0 : foundE [97] [b0] = b0 ∧ hasK [97] [b0] = true := ⟨rfl, rfl⟩
theorem on_b0 (d : Int) (h0 : 0 ≤ d) (h1 : d ≤ 73048) : onB [b0] (covD · d) = if d = 7 then [⟨#[97]⟩] else [] := by
  unfold onB
  rw [List.filter_cons, cov_b0 h0 h1]
  by_cases h : d = 7
  · rw [if_pos (decide_eq_true h), if_pos h]; rfl
  · rw [if_neg (by rw [decide_eq_false h]; exact fun e => by cases e), if_neg h]; rfl
set_option maxRecDepth 100000 in
set_option maxHeartbeats 4000000 in
theorem booked_any (er : Nat → Addr) (w : World) (he : E7 w er) :
    Calls Tryz.prog 12 #[] w fun r w' => r = .returned (.bool true) ∧ Below w.heap.size w w' := by
  have HE := Lib.hid he
  have HN := Lib.hid (new_any w)
  clear he
  go_enter Tryz.func12, Tryz.ntmps12
  go_wp2_with fail
  (with_reducible refine HN.out.mono ?_)
  rintro e1 w1 ⟨rfl, hbk, hb1⟩
  have HBK := Lib.hid hbk
  have HB1 := Lib.hid hb1
  have HS := Lib.hid (small_any ⟨#[97]⟩ 7 w1)
  clear hbk hb1
  go_wp2_with fail
  (with_reducible refine HS.out.mono ?_)
  rintro e2 w2 ⟨rfl, hb2⟩
  have hpu := put_any w2 _ _ _ [] b0 (.slice none 0 0) (.slice none 0 0) (.slice none 0 0) er ((HE.out.below HB1.out).below hb2) (HBK.out.below hb2) ⟨.inl ⟨rfl, _, _, rfl⟩, .inl ⟨rfl, _, _, rfl⟩, .inl ⟨rfl, _, _, rfl⟩⟩ ⟨by decide, by decide, by decide, by decide, by decide⟩
  unfold PutP at hpu
  rw [put_b0.1, put_b0.2] at hpu
  simp only [errV] at hpu
  have HPU := Lib.hid hpu
  have HB2 := Lib.hid (HB1.out.trans (hb2.mono HB1.out.size))
  clear hpu hb2
  go_wp2_with fail
  (with_reducible refine HPU.out.mono ?_)
  rintro e3 w3 ⟨rfl, hbk3, hfar3⟩
  have HB3 := Lib.hid (HB2.out.trans (hfar3.below (fun k hk => by omega) HB2.out.size))
  have hg := get_any w3 _ _ _ [b0] ⟨#[97]⟩ hbk3 (by decide)
  have HG := Lib.hid hg
  have HK3 := Lib.hid hbk3
  clear hg hbk3 hfar3
  go_wp2_with fail
  (with_reducible refine HG.out.mono ?_)
  rintro e4 w4 ⟨v1, v2, v3, rfl, hr4, -, -, -, hb4⟩
  change Rv w4 b0 v1 v2 v3 at hr4
  obtain ⟨a1, c1, rfl⟩ := hr4.d.shape
  obtain ⟨a2, c2, rfl⟩ := hr4.s.shape
  obtain ⟨a3, c3, rfl⟩ := hr4.m.shape
  rw [show foundE (⟨#[97]⟩ : ByteArray).data.toList [b0] = b0 from rfl, show hasK (⟨#[97]⟩ : ByteArray).data.toList [b0] = true from rfl]
  have HB4 := Lib.hid (HB3.out.trans (hb4.mono HB3.out.size))
  have HK4 := Lib.hid (HK3.out.below hb4)
  clear hr4 hb4
  go_upto_region 5 with fail
  generalize hW5 : w4.alloc _ = W5
  have hb5 : Below w4.heap.size w4 W5 := by rw [← hW5]; exact (Below.refl _ w4).alloc (Nat.le_refl _) _
  have hx5 : W5.heap[w4.heap.size]? = some (.cells (b0.cells (.slice a1 b0.ru.ds.length c1) (.slice a2 b0.sk.length c2) (.slice a3 b0.mv.length c3)) 38) := by rw [← hW5]; exact heap_new w4 _
  obtain ⟨-, -, hc5, -⟩ := cells11 hx5
  have ho7 := on_any W5 _ _ _ [b0] er 7 ((HE.out.below HB4.out).below hb5) (HK4.out.below hb5)
  rw [on_b0 7 (by decide) (by decide), if_pos rfl] at ho7
  have HO7 := Lib.hid ho7
  have HB5 := Lib.hid (HB4.out.trans (hb5.mono HB4.out.size))
  have HK5 := Lib.hid (HK4.out.below hb5)
  clear hW5 hb5 ho7 hx5
  go_wp2_with fail
  (with_reducible refine HO7.out.mono ?_)
  rintro e6 w6 ⟨v6, rfl, hr6, hb6⟩
  have hrn : Tx.Rd (w6.alloc (.cells #[.string ⟨#[97]⟩] 9)) (.slice (some ⟨w6.heap.size, 0, none⟩) 1 1) [⟨#[97]⟩] := by
    refine .inr ⟨w6.heap.size, 0, 1, rfl, fun j x hx => ?_⟩
    cases j with
    | zero => cases hx; rw [Nat.zero_add]; exact cell1 (heap_new w6 _)
    | succ j => cases hx
  have hst := Tx.sameTexts_any (w6.alloc (.cells #[.string ⟨#[97]⟩] 9)) v6 (.slice (some ⟨w6.heap.size, 0, none⟩) 1 1) _ _ (hr6.below ((Below.refl _ w6).alloc (Nat.le_refl _) _)) hrn (by decide) (by decide)
  rw [decide_eq_true rfl] at hst
  have HST := Lib.hid hst
  have hb6' := hb6.alloc hb6.size (.cells #[.string ⟨#[97]⟩] 9)
  have HB6 := Lib.hid (HB5.out.trans (hb6'.mono HB5.out.size))
  have HK6 := Lib.hid (HK5.out.below hb6')
  clear hr6 hb6 hb6' hrn hst hc5
  go_wp2_with fail
  (with_reducible refine HST.out.mono ?_)
  rintro e7 w7 ⟨rfl, q7, rfl⟩
  have hd := below_draw (Below.refl (w6.alloc (.cells #[.string ⟨#[97]⟩] 9)).heap.size (w6.alloc (.cells #[.string ⟨#[97]⟩] 9))) q7
  generalize hW8 : (w6.alloc (.cells #[.string ⟨#[97]⟩] 9)).drewN q7 = W8
  rw [hW8] at hd
  have HB8 := Lib.hid (HB6.out.trans (hd.mono HB6.out.size))
  have ho8 := on_any W8 _ _ _ [b0] er 8 (HE.out.below HB8.out) (HK6.out.below hd)
  rw [on_b0 8 (by decide) (by decide), if_neg (by decide)] at ho8
  have HO8 := Lib.hid ho8
  clear hW8 hd ho8
  go_wp2_with fail
  (with_reducible refine HO8.out.mono ?_)
  rintro e9 w9 ⟨v9, rfl, hr9, hb9⟩
  obtain ⟨a9, c9, rfl⟩ := hr9.shape
  have HB9 := Lib.hid (HB8.out.trans (hb9.mono HB8.out.size))
  clear hr9 hb9
  go_wp2
  go_ret
  exact ⟨rfl, HB9.out⟩
end Bk
end Go.Proofs.YtkhkhbeolhhomaaGreatDoor
