/- The reference's AllDays, IsOne. -/
import Derived.Test.YtkhkhbeolhhomaaGreatDoorRefCand
import Derived.Test.YtkhkhbeolhhomaaGreatDoorAllSeq
namespace Go.Proofs.YtkhkhbeolhhomaaGreatDoor
open Go Go.RowKit Go.Shelf Lmd
namespace Cand
open Rul Day Er Ref

theorem own_kept {w w' : World} {base : Nat} {v : Value} {k : Nat} {xs : List Value} (h : w.ownsRow base 3 1 v k xs) (hb : Below w.heap.size w w') : w'.ownsRow base 3 1 v k xs := by
  refine h.kept (Rng.grownBy_of_below hb) ?_
  cases hv : v.ownBlock with
  | none => exact .inl rfl
  | some g => exact .inr (by simp)
theorem all_one {start y m d : Int} {r : Ru} (h : r.fq.toList = [111, 110, 99, 101]) : cands start y m d r = [start] := by unfold cands; rw [if_pos h]

set_option maxRecDepth 100000 in
set_option maxHeartbeats 8000000 in
theorem allDays_any (start y m d tt : Int) (r : Ru) (v : Value) (w : World) (ha : Cal.At start y m d) (hbad : bad r = 0) (hr : Ints.Reads w v r.ds) (hl : r.ds.length < 1000) :
    Calls Tryz.prog 99 #[.int .i64 start, .agg #[.string r.fq, .int .i64 r.ev, v, .int .i64 r.ct, .int .i64 r.un], .int .i64 tt] w fun e w' => ∃ v', e = .returned v' ∧ Ints.Reads w' v' ((daysOf r.ct r.un (cands start y m d r)).filter fun x => decide (x ≤ tt)) ∧ Below w.heap.size w w' := by
  obtain ⟨i0, hi0, hz0, hz1, hz2⟩ := info_parts int_info
  obtain ⟨a, cap, rfl⟩ := hr.shape
  obtain ⟨p1, p2, p3, p4, p5⟩ := bad_parts hbad
  obtain ⟨⟨p6, p7⟩, ⟨p8, p9⟩, p10, p11⟩ := bound_parts p2
  have hbd := Cal.at_bd ha
  have hrise := cands_rise (start := start) (y := y) (m := m) (d := d) p6 p5 p3
  have hbdc := cands_bd ha p6
  have hgap : ∀ x ∈ cands start y m d r, ∀ z ∈ cands start y m d r, x < z → x + stepB r ≤ z := fun x hx z hz h => cands_gap p6 hx hz h
  have hone : r.fq.toList = [111, 110, 99, 101] → cands start y m d r = [start] := all_one
  have hcand : ∀ x z n b, Cal.At x z n b → start ≤ x → ∀ W, Below w.heap.size w W → Calls Tryz.prog 161 #[.int .i64 start, .agg #[.string r.fq, .int .i64 r.ev, .slice a r.ds.length cap, .int .i64 r.ct, .int .i64 r.un], .int .i64 x] W fun e w' => e = .returned (.bool (decide (x ∈ cands start y m d r))) ∧ Below W.heap.size W w' := fun x z n b hx hle W hW => by
    have := isCandidate_any start y m d x z n b r _ W ha hx hle p6 p7 (hr.below hW) hl
    have e : candB start y m d z n b r x = decide (x ∈ cands start y m d r) := Bool.eq_iff_iff.2 (by rw [candB_iff ha hx p6 p3 hle]; simp)
    rw [e] at this
    exact this
  obtain ⟨C, hC⟩ : ∃ C, cands start y m d r = C := ⟨_, rfl⟩
  rw [hC] at hrise hbdc hgap hone hcand ⊢
  obtain ⟨st, hst⟩ : ∃ st, stepB r = st := ⟨_, rfl⟩
  have hst1 : 1 ≤ st ∧ st ≤ 365 := by rw [← hst]; unfold stepB; split <;> (try split) <;> omega
  have hstep := fun W => stepOf_any r (.slice a r.ds.length cap) W
  rw [hst] at hgap hstep
  have hlen : ∀ dd : Int, dd ≤ 73500 → ((lows C dd).length : Int) ≤ 73500 := fun dd hdd => by
    have hn : ∀ (l : List Int) (lo : Int), l.Pairwise (· < ·) → (∀ x ∈ l, lo ≤ x ∧ x ≤ 73048) → lo ≤ 73049 → (l.length : Int) ≤ 73049 - lo := by
      intro l
      induction l with
      | nil => intro lo _ _ h; simp; omega
      | cons x xs ih =>
        intro lo hp hb hlo
        have hx := hb x (by simp)
        have := ih (x + 1) (List.pairwise_cons.1 hp).2 (fun z hz => ⟨by have := (List.pairwise_cons.1 hp).1 z hz; omega, (hb z (by simp [hz])).2⟩) (by omega)
        simp; omega
    have := hn (lows C dd) 0 (lows_rise hrise) (fun x hx => by have := hbdc x (lows_mem.1 hx).1; omega) (by omega)
    omega
  obtain ⟨W1, hW1⟩ : ∃ W1, w.alloc (.cells #[.string r.fq, .int .i64 r.ev, .slice a r.ds.length cap, .int .i64 r.ct, .int .i64 r.un] 35) = W1 := ⟨_, rfl⟩
  have hB : Below w.heap.size w W1 := by rw [← hW1]; exact (Below.refl _ w).alloc (Nat.le_refl _) _
  have hz1' : W1.heap.size = w.heap.size + 1 := by rw [← hW1]; simp
  have hx := heap_new w (.cells #[.string r.fq, .int .i64 r.ev, .slice a r.ds.length cap, .int .i64 r.ct, .int .i64 r.un] 35)
  rw [hW1] at hx
  have HX := Lib.hid hx
  have HB := Lib.hid hB
  have HCAND := Lib.hid hcand
  have HSTEP := Lib.hid hstep
  have HRISE := Lib.hid hrise
  have HBDC := Lib.hid hbdc
  have HGAP := Lib.hid hgap
  have HONE := Lib.hid hone
  have HLEN := Lib.hid hlen
  have HST := Lib.hid hst
  have hlow0 : lows C start = [] := lows_start (fun x hx => (hbdc x hx).1)
  have HLOW0 := Lib.hid hlow0
  clear hx hB hcand hstep hrise hbdc hgap hone hlen hst hC ha hr p1 p2 p3 p4 p5 hbad hlow0
  go_enter Tryz.func99, Tryz.ntmps99
  go_wp2_with fail
  try rw [hW1]
  clear hW1
  go_loopw [7, 8] (fun v7 v8 wr => ∃ dd : Int, v8 = .int .i64 dd ∧ (start ≤ dd ∧ dd ≤ 73500) ∧ (∃ a7 c7, v7 = .slice a7 (lows C dd).length c7) ∧ wr.ownsRow W1.heap.size 3 1 v7 (lows C dd).length (cellsOf (lows C dd)) ∧ Below W1.heap.size W1 wr ∧ Goes r.ct r.un (lows C dd) ∧ ∀ x ∈ lows C dd, x ≤ tt) (fun _ v8 _ => (74000 - intOf v8).toNat)
  case atStart => exact ⟨start, rfl, ⟨by omega, by omega⟩, ⟨none, 0, by rw [HLOW0.out]; rfl⟩, by rw [HLOW0.out]; exact ⟨by simp [cellsOf], .inl ⟨rfl, rfl⟩⟩, Below.refl _ _, by rw [HLOW0.out]; exact goes_nil _ _, by rw [HLOW0.out]; simp⟩
  case round =>
    obtain ⟨dd, rfl, ⟨hd0, hd1⟩, ⟨a7, c7, rfl⟩, hown, hbr, hgo, htt⟩ := hrel
    have hrx : wr.heap[w.heap.size]? = some (.cells #[.string r.fq, .int .i64 r.ev, .slice a r.ds.length cap, .int .i64 r.ct, .int .i64 r.un] 35) := by rw [hbr.block _ (by omega)]; exact HX.out
    obtain ⟨q0, q1, q2, q3, q4, _⟩ := cells5 hrx
    have hfin : ((r.un ≠ -1 ∧ r.un < dd) ∨ (0 < r.ct ∧ r.ct ≤ (lows C dd).length) ∨ tt < dd ∨ ∀ x ∈ C, x < dd) → (daysOf r.ct r.un C).filter (fun x => decide (x ≤ tt)) = lows C dd := fun h => all_end HRISE.out hgo htt h
    have hlen := HLEN.out dd hd1
    obtain ⟨L, hL⟩ : ∃ L, lows C dd = L := ⟨_, rfl⟩
    rw [hL] at hown hgo htt hfin hlen ⊢
    have hbw : Below w.heap.size w wr := HB.out.trans (hbr.mono (by omega))
    have hsr := hbr.size
    have HBW := Lib.hid hbw
    have HBR := Lib.hid hbr
    have HOWN := Lib.hid hown
    have HGO := Lib.hid hgo
    have HTT := Lib.hid htt
    have HFIN := Lib.hid hfin
    have HL := Lib.hid hL
    clear hown hbr hgo htt hfin hL hrx hbw
    by_cases h1 : dd ≤ tt
    case neg =>
      have hf := HFIN.out (.inr (.inr (.inl (by omega))))
      have HF := Lib.hid hf
      clear hf
      go_wp2
      go_ret
      exact ⟨_, rfl, by rw [HF.out]; exact reads_own HOWN.out, HBW.out⟩
    by_cases h2 : dd ≤ 73048
    case neg =>
      have hf := HFIN.out (.inr (.inr (.inr (fun x hx => by have := HBDC.out x hx; omega))))
      have HF := Lib.hid hf
      clear hf
      go_wp2
      go_ret
      exact ⟨_, rfl, by rw [HF.out]; exact reads_own HOWN.out, HBW.out⟩
    by_cases h3 : 0 ≤ r.un ∧ r.un < dd
    · obtain ⟨h3a, h3b⟩ := h3
      have hf := HFIN.out (.inl ⟨by omega, h3b⟩)
      have HF := Lib.hid hf
      clear hf
      go_wp2
      go_ret
      exact ⟨_, rfl, by rw [HF.out]; exact reads_own HOWN.out, HBW.out⟩
    by_cases h4 : 0 < r.ct ∧ r.ct ≤ (L.length : Int)
    · obtain ⟨h4a, h4b⟩ := h4
      have hf := HFIN.out (.inr (.inl ⟨h4a, h4b⟩))
      have HF := Lib.hid hf
      clear hf
      by_cases h5 : 0 ≤ r.un
      · have h6 : dd ≤ r.un := by omega
        go_wp2
        go_ret
        exact ⟨_, rfl, by rw [HF.out]; exact reads_own HOWN.out, HBW.out⟩
      · go_wp2
        go_ret
        exact ⟨_, rfl, by rw [HF.out]; exact reads_own HOWN.out, HBW.out⟩
    have hstop : stopB r.ct r.un L.length dd = false := by
      simp only [stopB, under, Bool.or_eq_false_iff, decide_eq_false_iff_not, Bool.not_eq_false', decide_eq_true_eq]
      have := HGO.out.1
      refine ⟨fun h => h4 ⟨h.1, by omega⟩, ?_⟩
      by_cases e : r.un = -1
      · exact .inl e
      · exact .inr (by by_cases e2 : r.un < dd; exact absurd ⟨by omega, e2⟩ h3; omega)
    have HSTOP := Lib.hid hstop
    obtain ⟨z, n, b, hat⟩ := Cal.at_exists dd (by omega) (by omega)
    have hc := HCAND.out dd z n b hat hd0 wr HBW.out
    have hdisj : (0 ≤ r.un ∧ dd ≤ r.un) ∨ r.un < 0 := by
      by_cases e : 0 ≤ r.un
      · exact .inl ⟨e, by by_cases e2 : r.un < dd; exact absurd ⟨e, e2⟩ h3; omega⟩
      · exact .inr (by omega)
    have hdisj2 : (0 < r.ct ∧ (L.length : Int) < r.ct) ∨ r.ct ≤ 0 := by
      by_cases e : 0 < r.ct
      · exact .inl ⟨e, by by_cases e2 : r.ct ≤ (L.length : Int); exact absurd ⟨e, e2⟩ h4; omega⟩
      · exact .inr (by omega)
    clear h3 h4 hstop hat
    by_cases hin : dd ∈ C
    · rw [decide_eq_true hin] at hc
      have hyes := lows_yes HRISE.out hin (by omega : 0 < st) (fun x hx h => HGAP.out dd hin x hx h)
      rw [HL.out] at hyes
      have HYES := Lib.hid hyes
      have HC := Lib.hid hc
      clear hc hin hyes
      rcases hdisj with ⟨d1, d2⟩ | d1 <;> rcases hdisj2 with ⟨d3, d4⟩ | d3
      all_goals (
        go_wp2_with fail
        refine HC.out.mono ?_
        rintro e1 wa ⟨rfl, hba⟩
        have hoa := own_kept HOWN.out hba
        have hbra := HBR.out.trans (hba.mono hsr)
        have hsa := hbra.size
        have HOA := Lib.hid hoa
        have HBRA := Lib.hid hbra
        clear hoa hbra hba
        go_wp2_with (at_builtin
                     refine wpList_append_own _ rfl (.tmp 44) (.tmp 46) _ rfl W1.heap.size 3 i0 _ 1 8 Tryz.underlying33 hi0 hz0 hz1 hz2 rfl (by omega) (.slice a7 L.length c7) L.length (cellsOf L) rfl
                       (HOA.out.alloc _) ⟨wa.heap.size, 0, none⟩ 1 1 [.int .i64 dd] rfl rfl
                       (fun j u hu => by
                         cases j with
                         | zero => simp at hu; subst hu; exact (Boxed.new wa _ _).cell
                         | succ j => simp at hu) (fun u hu => by simp at hu; subst hu; rfl) (by simp only [maxLen]; omega) (by omega) (by simp; omega) ?_
                     intro v1 wb hown' hg hnil
                     have hbb : Below W1.heap.size wa wb := ((Below.refl _ wa).alloc hsa _).grown hg (by simp; omega) (fun j ej => ownBlock_ge HOA.out ej)
                     obtain ⟨a1, c1, e1⟩ : ∃ a1 c1, v1 = .slice a1 (L.length + 1) c1 := by
                       have h3 := reads_own (xs := L ++ [dd]) (by rw [cellsOf_snoc, List.length_append]; exact hown')
                       obtain ⟨a1, c1, e⟩ := h3.shape
                       exact ⟨a1, c1, by rw [e, List.length_append]; rfl⟩
                     subst e1
                     have hbrb := HBRA.out.trans hbb
                     have hrx : wb.heap[w.heap.size]? = some (.cells #[.string r.fq, .int .i64 r.ev, .slice a r.ds.length cap, .int .i64 r.ct, .int .i64 r.un] 35) := by rw [hbrb.block _ (by omega)]; exact HX.out
                     obtain ⟨z0, z1, z2, z3, z4, _⟩ := cells5 hrx
                     have HOB := Lib.hid hown'
                     have HBRB := Lib.hid hbrb
                     clear hown' hg hnil hbb hbrb hrx)
        refine (HSTEP.out wb).mono ?_
        rintro e2 wc ⟨rfl, hbc⟩
        have hoc := own_kept HOB.out hbc
        have hbrc := HBRB.out.trans (hbc.mono HBRB.out.size)
        have HOC := Lib.hid hoc
        have HBRC := Lib.hid hbrc
        clear hoc hbrc hbc
        go_wp2
        go_roundw
        case rel => exact ⟨dd + st, rfl, ⟨by omega, by omega⟩, ⟨a1, c1, by rw [HYES.out, List.length_append]; rfl⟩, by rw [HYES.out, cellsOf_snoc, List.length_append]; exact HOC.out, HBRC.out, by rw [HYES.out]; exact goes_snoc HGO.out HSTOP.out, fun x hx => by
            rw [HYES.out] at hx
            rcases List.mem_append.1 hx with hx | hx
            · exact HTT.out x hx
            · simp at hx; omega⟩
        case measure => simp [intOf]; omega)
    · rw [decide_eq_false hin] at hc
      have hno := lows_no HRISE.out hin
      rw [HL.out] at hno
      have hf1 : r.fq.toList = [111, 110, 99, 101] → (daysOf r.ct r.un C).filter (fun x => decide (x ≤ tt)) = L := fun e => HFIN.out (.inr (.inr (.inr (fun x hx => by
        rw [HONE.out e] at hx hin
        simp at hx hin
        omega))))
      have HF1 := Lib.hid hf1
      have HNO := Lib.hid hno
      have HC := Lib.hid hc
      clear hc hin hno hf1
      by_cases ho : r.fq.toList = [111, 110, 99, 101]
      · have hf := HF1.out ho
        have HF := Lib.hid hf
        clear hf
        rcases hdisj with ⟨d1, d2⟩ | d1 <;> rcases hdisj2 with ⟨d3, d4⟩ | d3
        all_goals (
          go_wp2_with fail
          refine HC.out.mono ?_
          rintro e1 wa ⟨rfl, hba⟩
          obtain ⟨z0, z1, z2, z3, z4, _⟩ := cells5 (show wa.heap[w.heap.size]? = some (.cells #[.string r.fq, .int .i64 r.ev, .slice a r.ds.length cap, .int .i64 r.ct, .int .i64 r.un] 35) by rw [hba.block _ (by omega), HBR.out.block _ (by omega)]; exact HX.out)
          have HOA := Lib.hid (own_kept HOWN.out hba)
          have HBA := Lib.hid (HBW.out.trans (hba.mono HBW.out.size))
          clear hba
          go_wp2
          go_ret
          exact ⟨_, rfl, by rw [HF.out]; exact reads_own HOA.out, HBA.out⟩)
      · have ho' : (r.fq.toList == [111, 110, 99, 101]) = false := by simpa using ho
        clear ho HF1
        rcases hdisj with ⟨d1, d2⟩ | d1 <;> rcases hdisj2 with ⟨d3, d4⟩ | d3
        all_goals (
          go_wp2_with fail
          refine HC.out.mono ?_
          rintro e1 wa ⟨rfl, hba⟩
          obtain ⟨z0, z1, z2, z3, z4, _⟩ := cells5 (show wa.heap[w.heap.size]? = some (.cells #[.string r.fq, .int .i64 r.ev, .slice a r.ds.length cap, .int .i64 r.ct, .int .i64 r.un] 35) by rw [hba.block _ (by omega), HBR.out.block _ (by omega)]; exact HX.out)
          have HOA := Lib.hid (own_kept HOWN.out hba)
          have HBRA := Lib.hid (HBR.out.trans (hba.mono hsr))
          clear hba
          go_wp2
          go_roundw
          case rel => exact ⟨dd + 1, rfl, ⟨by omega, by omega⟩, ⟨a7, c7, by rw [HNO.out]⟩, by rw [HNO.out]; exact HOA.out, HBRA.out, by rw [HNO.out]; exact HGO.out, by rw [HNO.out]; exact HTT.out⟩
          case measure => simp [intOf]; omega)
end Cand
end Go.Proofs.YtkhkhbeolhhomaaGreatDoor
