/- The closed fact merged. -/
import Derived.Test.YtghkalamlcfnnaaGreatDoorQMgI
import Derived.Test.YtghkalamlcfnnaaGreatDoorQC5
import Derived.BigQuiet
namespace Go.Proofs.YtghkalamlcfnnaaGreatDoor
open Go Go.RowKit Go.Shelf Lmd
attribute [local go_sem] Oper.semAt_some
namespace Mg
open Evt Bk Df Tp Rul Day Cand Er
abbrev b1 : Ev := smallE ⟨#[98]⟩ 8
theorem bad_b1 : badE b1 = 0 := by
  have hr : bad b1.ru = 0 := by
    refine bad_none ((Lib.containsS_iff _ _).2 (by simp [freqs, smallE])) ?_ ?_ ?_
    · simp [smallE, boundB, inB, daysB]
    · simp [smallE, shapeB]
    · simp [smallE, riseB]
  rw [badE_lists (by decide) (by decide) (by decide) hr]
  exact badL_none (by simp [smallE]) (by simp [smallE, riseB, froms]) (by simp [smallE]) (by simp [smallE, froms])
theorem put_b1 : putK b1 [] = 0 ∧ putL b1 [] = [b1] := by
  obtain ⟨h1, h2⟩ := putK_good (e := b1) (L := []) bad_b1 (.inr (by decide))
  exact ⟨h1, h2⟩
theorem txt_other {e : Ev} {k : List UInt8} (h : key e ≠ k) : txt k [e] = nilB := by
  rw [txt_nil, hasK_false]
  intro x hx
  rw [List.mem_singleton.1 hx]; exact h
theorem merge_b : mergeM [] [b0] [b1] = ([b0, b1], []) := by
  have hk0 : key b0 = [97] := rfl
  have hk1 : key b1 = [98] := rfl
  have hT : Df.Good [b0, b1] := ⟨by
      refine List.pairwise_cons.2 ⟨fun x hx => ?_, List.pairwise_singleton ..⟩
      rw [List.mem_singleton.1 hx]
      show key b0 < key b1
      rw [hk0, hk1]; decide, fun e he => by
      rcases List.mem_cons.1 he with rfl | he
      · exact bad_b0
      · rw [List.mem_singleton.1 he]; exact bad_b1, by decide⟩
  refine merge_to hT (fun k h => ?_) fun k => ?_
  · obtain ⟨m1, m2⟩ := foundE_has h
    rcases List.mem_cons.1 m1 with e | e
    · exact .inr (.inl (by rw [← m2, e]; rfl))
    · exact .inr (.inr (by rw [← m2, List.mem_singleton.1 e]; rfl))
  · unfold pkT
    have h0 : txt k [] = nilB := txt_nil.2 rfl
    rw [h0]
    by_cases h1 : k = [97]
    · subst h1
      rw [txt_other (e := b1) (by rw [hk1]; decide), pick_left]
      rfl
    · rw [txt_other (e := b0) (by rw [hk0]; exact fun e => h1 e.symm), pick_right]
      refine congrArg (·, true) ?_
      by_cases h2 : k = [98]
      · subst h2; rfl
      · rw [txt_other (e := b1) (by rw [hk1]; exact fun e => h2 e.symm)]
        symm
        rw [txt_nil, hasK_false]
        intro x hx
        rcases List.mem_cons.1 hx with rfl | hx
        · rw [hk0]; exact fun e => h1 e.symm
        · rw [List.mem_singleton.1 hx, hk1]; exact fun e => h2 e.symm
set_option maxRecDepth 100000 in
set_option maxHeartbeats 4000000 in
theorem merged_any (er : Nat → Addr) (n0 : Int) (w : World) (hv : Env w er n0) :
    Calls Tryz.prog 8 #[] w fun r w' => r = .returned (.bool true) ∧ Below w.heap.size w w' := by
  have HV := Lib.hid hv
  have HN := Lib.hid (new_any w)
  clear hv
  go_enter Tryz.func8, Tryz.ntmps8
  go_wp2_with fail
  (with_reducible refine HN.out.mono ?_)
  rintro e1 w1 ⟨rfl, hbk, hb1⟩
  have HA := Lib.hid hbk
  have HB1 := Lib.hid hb1
  have HN1 := Lib.hid (new_any w1)
  clear hbk hb1
  go_wp2_with fail
  (with_reducible refine HN1.out.mono ?_)
  rintro e2 w2 ⟨rfl, hbk2, hb2⟩
  have HB := Lib.hid hbk2
  have HB2 := Lib.hid hb2
  have HS := Lib.hid (small_any ⟨#[97]⟩ 7 w2)
  clear hbk2 hb2
  go_wp2_with fail
  (with_reducible refine HS.out.mono ?_)
  rintro e3 w3 ⟨rfl, hb3⟩
  have hb31 := HB2.out.trans (hb3.mono HB2.out.size)
  have hlt1 := HA.out.ltm
  have hbA := HA.out.below hb31
  have hbB := HB.out.below hb3
  have HB3 := Lib.hid (HB1.out.trans (hb31.mono HB1.out.size))
  have hpu := put_any w3 _ _ _ [] b0 (.slice none 0 0) (.slice none 0 0) (.slice none 0 0) er (HV.out.below HB3.out).errs hbA ⟨.inl ⟨rfl, _, _, rfl⟩, .inl ⟨rfl, _, _, rfl⟩, .inl ⟨rfl, _, _, rfl⟩⟩ ⟨by decide, by decide, by decide, by decide, by decide⟩
  unfold PutP at hpu
  rw [put_b0.1, put_b0.2] at hpu
  simp only [errV] at hpu
  have HPU := Lib.hid hpu
  have HBB := Lib.hid hbB
  clear hpu hb3 hb31 hbA hbB
  go_wp2_with fail
  (with_reducible refine HPU.out.mono ?_)
  rintro e4 w4 ⟨rfl, hbk4, hfar4⟩
  have hbB4 := HBB.out.far hfar4 hlt1
  have HB4 := Lib.hid (HB3.out.trans (hfar4.below (B := w.heap.size) (fun k hk => by omega) HB3.out.size))
  have HA4 := Lib.hid hbk4
  have HBB4 := Lib.hid hbB4
  have HS4 := Lib.hid (small_any ⟨#[98]⟩ 8 w4)
  clear hbk4 hfar4 hbB4
  go_wp2_with fail
  (with_reducible refine HS4.out.mono ?_)
  rintro e5 w5 ⟨rfl, hb5⟩
  have HB5 := Lib.hid (HB4.out.trans (hb5.mono HB4.out.size))
  have hpu := put_any w5 _ _ _ [] b1 (.slice none 0 0) (.slice none 0 0) (.slice none 0 0) er (HV.out.below HB5.out).errs (HBB4.out.below hb5) ⟨.inl ⟨rfl, _, _, rfl⟩, .inl ⟨rfl, _, _, rfl⟩, .inl ⟨rfl, _, _, rfl⟩⟩ ⟨by decide, by decide, by decide, by decide, by decide⟩
  unfold PutP at hpu
  rw [put_b1.1, put_b1.2] at hpu
  simp only [errV] at hpu
  have HPU5 := Lib.hid hpu
  have HA5 := Lib.hid (HA4.out.below hb5)
  have HM5 := Lib.hid (HBB4.out.below hb5).isMap
  clear hpu hb5
  go_wp2_with fail
  (with_reducible refine HPU5.out.mono ?_)
  rintro e6 w6 ⟨rfl, hbk6, hfar6⟩
  have hbA6 := HA5.out.farm hfar6 HM5.out (by omega)
  have hb6 := HB5.out.trans (hfar6.below (B := w.heap.size) (fun k hk => by omega) HB5.out.size)
  have hth := three_any w6 0 _ _ _ _ _ [] [b0] [b1] er n0 (HV.out.below hb6) (BookO.nil _ _) hbA6.or hbk6.or
  unfold ThP at hth
  rw [merge_b] at hth
  dsimp only at hth
  simp only [if_true] at hth
  have HTH := Lib.hid hth
  have HB6 := Lib.hid hb6
  clear hth hbk6 hfar6 hbA6 hb6
  go_wp2_with fail
  (with_reducible refine HTH.out.mono ?_)
  rintro e7 w7 ⟨hb7, B7, hB7, rfl, hbk7⟩
  have HB7 := Lib.hid (HB6.out.trans (hb7.mono HB6.out.size))
  have HI := Lib.hid (ids_any w7 _ _ _ _ hbk7)
  clear hb7 hB7 hbk7
  go_wp2_with fail
  (with_reducible refine HI.out.mono ?_)
  rintro e8 w8 ⟨v8, rfl, hown8, hb8⟩
  have HB8 := Lib.hid (HB7.out.trans (hb8.mono HB7.out.size))
  have HR8 := Lib.hid (Tx.rd_own hown8 rfl)
  have HSM := Lib.hid (fun W vb (h1 : Below w8.heap.size w8 W) (h2 : Tx.Rd W vb [⟨#[97]⟩, ⟨#[98]⟩]) => Tx.sameTexts_any W v8 vb _ _ (HR8.out.below h1) h2 (by decide) (by decide))
  obtain ⟨W, hW⟩ : ∃ W, w8.alloc (.cells #[.string ⟨#[97]⟩, .string ⟨#[98]⟩] 9) = W := ⟨_, rfl⟩
  have hBW : Below w8.heap.size w8 W := by rw [← hW]; exact (Below.refl _ w8).alloc (Nat.le_refl _) _
  have hx : W.heap[w8.heap.size]? = some (.cells #[.string ⟨#[97]⟩, .string ⟨#[98]⟩] 9) := by rw [← hW]; exact heap_new w8 _
  have hrd : Tx.Rd W (.slice (some ⟨w8.heap.size, 0, none⟩) 2 2) [⟨#[97]⟩, ⟨#[98]⟩] := .inr ⟨_, 0, 2, rfl, fun j x hj => by
    rcases j with _ | _ | j
    · cases hj; simp only [World.cell?, hx]; rfl
    · cases hj; simp only [World.cell?, hx]; rfl
    · cases hj⟩
  have HC := Lib.hid (HSM.out W _ hBW hrd)
  have HBW := Lib.hid (HB8.out.trans (hBW.mono HB8.out.size))
  have HW := Lib.hid hW
  clear hown8 hb8 hW hBW hx hrd
  go_upto_region 8 with fail
  rw [HW.out]
  (with_reducible refine HC.out.mono ?_)
  rintro e9 w9 ⟨rfl, q, rfl⟩
  rw [decide_eq_true (show idsB [b0, b1] = [⟨#[97]⟩, ⟨#[98]⟩] from rfl)]
  go_wp2
  go_ret
  exact ⟨rfl, HBW.out.trans ((below_draw (Below.refl _ _) _).mono HBW.out.size)⟩
end Mg
end Go.Proofs.YtghkalamlcfnnaaGreatDoor
