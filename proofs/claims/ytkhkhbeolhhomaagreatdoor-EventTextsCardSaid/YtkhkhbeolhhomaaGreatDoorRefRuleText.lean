/- The reference's RuleText, of a right rule. -/
import Derived.Test.YtkhkhbeolhhomaaGreatDoorRefText
import Derived.Test.YtkhkhbeolhhomaaGreatDoorRuleText
import Derived.Test.YtkhkhbeolhhomaaGreatDoorJ8
import Derived.Deep.RegionHeld3
import Derived.Deep.DeepCutAuto
namespace Go.Proofs.YtkhkhbeolhhomaaGreatDoor
open Go Go.RowKit Lmd
namespace Rrt
open Rul Day Er Ref Tp

theorem weekNames_new (w : World) : Calls Tryz.prog 185 #[] w fun e w' => e = .returned (.slice (some ⟨w.heap.size, 0, none⟩) 7 7) ∧ w' = w.alloc (.cells namesV 9) := by
  go_enter Tryz.func185, Tryz.ntmps185
  go_wp2
  go_ret
  exact ⟨rfl, rfl⟩
/-- a call of WeekNames, and the k-th name -/
theorem weekNames_at (k : Nat) (hk : k < 7) (w : World) : Calls Tryz.prog 185 #[] w fun e w' => e = .returned (.slice (some ⟨w.heap.size, 0, none⟩) 7 7) ∧ Below w.heap.size w w' ∧ w'.cell? ⟨w.heap.size, k, none⟩ = some (.string (nameOf (k : Int))) := by
  refine (weekNames_new w).mono ?_
  rintro e w' ⟨rfl, rfl⟩
  refine ⟨rfl, (Below.refl _ w).alloc (Nat.le_refl _) _, ?_⟩
  have h := names_cell w (k : Int) (by omega) (by omega)
  simpa using h
/-- the days' part of a rule's text, of the first k days -/
def dsTo (ds : List Int) (k : Nat) : List UInt8 := if k = 0 then [] else 32 :: Lib.join (((ds.take k).map nameOf).map (·.data.toList)) [44]
theorem join_snoc (sep : List UInt8) : ∀ (xs : List (List UInt8)) (y : List UInt8), xs ≠ [] → Lib.join (xs ++ [y]) sep = Lib.join xs sep ++ sep ++ y
  | [], _, h => absurd rfl h
  | [x], y, _ => by simp [Lib.join, List.intercalate_cons_cons]
  | x :: z :: xs, y, _ => by
    have ih := join_snoc sep (z :: xs) y (by simp)
    unfold Lib.join at ih ⊢
    rw [List.cons_append, List.cons_append, List.intercalate_cons_cons, ← List.cons_append, ih, List.intercalate_cons_cons]
    simp
theorem dsTo_zero (ds : List Int) : dsTo ds 0 = [] := rfl
theorem dsTo_one {ds : List Int} {y : Int} (h : ds[0]? = some y) : dsTo ds 1 = [32] ++ (nameOf y).data.toList := by
  cases ds with
  | nil => cases h
  | cons x ds =>
    obtain rfl : x = y := by simpa using h
    simp [dsTo, Lib.join]
theorem dsTo_succ {ds : List Int} {k : Nat} {y : Int} (h : ds[k]? = some y) (hk : k ≠ 0) : dsTo ds (k + 1) = dsTo ds k ++ [44] ++ (nameOf y).data.toList := by
  obtain ⟨h1, h2⟩ := List.getElem?_eq_some_iff.1 h
  unfold dsTo
  rw [if_neg (by omega), if_neg hk, List.take_succ_eq_append_getElem h1, h2, List.map_append, List.map_append]
  have hne : ((ds.take k).map nameOf).map (·.data.toList) ≠ [] := by
    intro e
    have := congrArg List.length e
    simp only [List.length_map, List.length_take, List.length_nil] at this
    omega
  have := join_snoc [44] (((ds.take k).map nameOf).map (·.data.toList)) (nameOf y).data.toList hne
  simp only [List.map_cons, List.map_nil]
  rw [this]
  simp
theorem str_one (hd : List UInt8) {ds : List Int} {y : Int} {nm : ByteArray} (h : ds[0]? = some y) (hn : nameOf y = nm) : mk (hd ++ dsTo ds 0) ++ ⟨#[32]⟩ ++ nm = mk (hd ++ dsTo ds 1) := by
  rw [dsTo_one h, dsTo_zero, List.append_nil, hn, ← List.append_assoc, ← Tp.mk_cat, ← Tp.mk_cat, ← Tp.mk_self nm]
  try rfl
theorem str_more (hd : List UInt8) {ds : List Int} {k : Nat} {y : Int} {nm : ByteArray} (h : ds[k]? = some y) (hn : nameOf y = nm) (hk : k ≠ 0) : mk (hd ++ dsTo ds k) ++ ⟨#[44]⟩ ++ nm = mk (hd ++ dsTo ds (k + 1)) := by
  rw [dsTo_succ h hk, hn, ← List.append_assoc, ← List.append_assoc, ← Tp.mk_cat, ← Tp.mk_cat, ← Tp.mk_self nm]
  try rfl
theorem dsTo_all (r : Ru) : dsTo r.ds r.ds.length = daysL r := by
  unfold dsTo daysL
  by_cases h : r.ds = []
  · simp [h]
  · rw [if_neg (fun e => h (List.length_eq_zero_iff.1 e)), if_neg h, List.take_length]; rfl
theorem dsTo_len (ds : List Int) (k : Nat) : (dsTo ds k).length ≤ 3 * k + 1 := by
  unfold dsTo
  split
  · simp
  · have h := join_le [44] (by simp) (((ds.take k).map nameOf).map (·.data.toList)) (by
      intro x hx
      simp only [List.map_map, List.mem_map] at hx
      obtain ⟨d, _, rfl⟩ := hx
      exact nameOf_len d)
    simp only [List.length_map, List.length_take] at h
    simp only [List.length_cons]
    omega
set_option maxRecDepth 100000 in
set_option maxHeartbeats 8000000 in
theorem ruleText_any (r : Ru) (v : Value) (w : World) (hr : Ints.Reads w v r.ds) (hl : r.ds.length < 50000) (hbad : bad r = 0) :
    Calls Tryz.prog 129 #[.agg #[.string r.fq, .int .i64 r.ev, v, .int .i64 r.ct, .int .i64 r.un]] w fun e' w' => e' = .returned (.string (mk (textL r))) ∧ Below w.heap.size w w' := by
  obtain ⟨hfr, hbo, hdb, _, _⟩ := Cand.bad_parts hbad
  obtain ⟨hev, hct, hun1, hun2⟩ := Cand.bound_parts hbo
  have hf : r.fq.size ≤ 8 := by
    rcases Cand.freqs_mem hfr with e | e | e | e | e <;> rw [e] <;> decide
  obtain ⟨a, cap, rfl⟩ := hr.shape
  obtain ⟨W1, hW1⟩ : ∃ W1, w.alloc (.cells #[.string r.fq, .int .i64 r.ev, .slice a r.ds.length cap, .int .i64 r.ct, .int .i64 r.un] 35) = W1 := ⟨_, rfl⟩
  have hB : Below w.heap.size w W1 := by rw [← hW1]; exact (Below.refl _ w).alloc (Nat.le_refl _) _
  have hz1' : W1.heap.size = w.heap.size + 1 := by rw [← hW1]; simp
  have hx := heap_new w (.cells #[.string r.fq, .int .i64 r.ev, .slice a r.ds.length cap, .int .i64 r.ct, .int .i64 r.un] 35)
  rw [hW1] at hx
  have HX := Lib.hid hx
  have HB := Lib.hid hB
  have HR := Lib.hid hr
  have HDB := Lib.hid hdb
  have hr5 : ∀ w2 : World, Below W1.heap.size W1 w2 → w2.heap[w.heap.size]? = some (.cells #[.string r.fq, .int .i64 r.ev, .slice a r.ds.length cap, .int .i64 r.ct, .int .i64 r.un] 35) := fun w2 h => by rw [h.block _ (by omega)]; exact HX.out
  have HR5 := Lib.hid hr5
  have HW1 := Lib.hid hW1
  obtain ⟨q0, q1, q2, q3, q4, _⟩ := Cand.cells5' HX.out
  clear hx hr hr5 hbad hfr hbo hdb hB hW1
  by_cases ho : r.fq.toList = [111, 110, 99, 101]
  · have ht : textL r = r.fq.data.toList := by unfold textL; rw [if_pos ho]
    have hfq : r.fq.data.toList = [111, 110, 99, 101] := by rw [← ByteArray.toList_eq]; exact ho
    rw [ht, hfq]
    clear ht hfq
    clear q0 q1 q2 q3 q4
    go_enter Tryz.func129, Tryz.ntmps129
    go_wp2
    rw [HW1.out]
    go_ret
    exact ⟨rfl, HB.out⟩
  have ho' : (r.fq.toList == [111, 110, 99, 101]) = false := by simpa using ho
  have ht : textL r = headL r ++ daysL r ++ countL r ++ untilL r := by unfold textL; rw [if_neg ho]
  rw [ht]
  clear ht ho
  have hli := Lib.itoa_length_le r.ev (by omega) (by omega)
  obtain ⟨n, hn⟩ : ∃ n : Nat, r.ev = (n : Int) := ⟨r.ev.toNat, by omega⟩
  have hde := fun W => decimal_any n (by omega) W
  have hdz : (⟨(Lib.decDigits n).toArray⟩ : ByteArray) = mk (Lib.itoa r.ev) := by rw [hn, Lib.itoa_nonneg]
  simp only [hdz, ← hn] at hde
  have HDE := Lib.hid hde
  clear hde hdz hn
  go_enter Tryz.func129, Tryz.ntmps129
  go_wp2_with fail
  rw [HW1.out]
  go_cut [3] from 8 (fun s3 wc => s3 = .string (mk (headL r)) ∧ Below W1.heap.size W1 wc)
  case first =>
    go_region_with (go_at_call 128; refine (HDE.out _).mono ?_; rintro e1 w3 ⟨rfl, hb3⟩; obtain ⟨z0, z1, z2, z3, z4, _⟩ := Cand.cells5' (Cand.row_below' (show (W1.drewN 1).heap[w.heap.size]? = _ from HX.out) hb3))
    all_goals go_wp2_with fail
    all_goals go_meet
    all_goals exact ⟨fin_val (head_cat r), (below_draw (Below.refl _ W1) 1).trans hb3⟩
  case rest =>
    obtain ⟨rfl, hbc⟩ := hcut
    obtain ⟨hd, hhd⟩ : ∃ hd, headL r = hd := ⟨_, rfl⟩
    have hlh : hd.length ≤ 40 := by
      rw [← hhd]; unfold headL
      have : r.fq.data.toList.length = r.fq.size := by simp
      simp only [List.length_append, List.length_cons, List.length_nil]
      omega
    rw [hhd]
    have HHD := Lib.hid hhd
    have HBC := Lib.hid hbc
    clear hhd hbc q0 q1 q2 q3 q4
    go_wp2_with fail
    go_loopw [3, 4] (fun v3 p wr => ∃ k : Nat, k ≤ r.ds.length ∧ p = .int .i64 (k : Int) ∧ v3 = .string (mk (hd ++ dsTo r.ds k)) ∧ Below W1.heap.size W1 wr) (fun _ p _ => r.ds.length - (intOf p).toNat)
    case atStart => exact ⟨0, Nat.zero_le _, rfl, by rw [dsTo_zero, List.append_nil], HBC.out⟩
    case round =>
      obtain ⟨k, hk, rfl, rfl, hbr⟩ := hrel
      obtain ⟨q0, q1, q2, q3, q4, _⟩ := Cand.cells5' (HR5.out wr hbr)
      have HBR := Lib.hid hbr
      have hdl := dsTo_len r.ds k
      have htl : (hd ++ dsTo r.ds k).length ≤ 400000 := by rw [List.length_append]; omega
      by_cases hlt : k < r.ds.length
      · obtain ⟨_, b, o, ha9, hc⟩ := (HR.out.below (HB.out.trans (hbr.mono HB.out.size))).at (by intro h; rw [h] at hlt; exact absurd hlt (Nat.not_lt_zero _))
        subst ha9
        have c1 := hc k hlt
        obtain ⟨y, hy⟩ : ∃ y, Ints.el r.ds k = y := ⟨_, rfl⟩
        rw [hy] at c1
        have hyk : r.ds[k]? = some y := by rw [List.getElem?_eq_getElem hlt, ← hy, Ints.el_lt hlt]
        have hyb : 0 ≤ y ∧ y ≤ 6 := by
          have := HDB.out
          unfold daysB at this
          rw [List.all_eq_true] at this
          have h2 := this y (List.mem_of_getElem? hyk)
          simpa [inB] using h2
        obtain ⟨j, rfl⟩ : ∃ j : Nat, y = (j : Int) := ⟨y.toNat, by omega⟩
        have hj7 : (j : Int) < 7 := by omega
        have hwn := fun W => weekNames_at j (by omega) W
        have hi1 : (k : Int) < (r.ds.length : Int) := by omega
        have HWN := Lib.hid hwn
        have HYK := Lib.hid hyk
        obtain ⟨nm, hnm⟩ : ∃ nm, nameOf (j : Int) = nm := ⟨_, rfl⟩
        have hnl : nm.size ≤ 2 := by
          have := nameOf_len (j : Int)
          rw [hnm] at this
          simpa using this
        rw [hnm] at HWN
        have HNM := Lib.hid hnm
        clear hc hy hyk hyb hwn hnm
        have hb0 := below_drew (Below.refl wr.heap.size wr)
        by_cases hk0 : k = 0
        · subst hk0
          have HS := Lib.hid (str_one hd HYK.out HNM.out)
          rw [Nat.add_zero] at c1
          go_wp2_with fail
          go_region_with ((go_at_call 185; (with_reducible refine (HWN.out _).mono ?_); rintro e1 w3 ⟨rfl, hb3, hnm3⟩; have g3 : w3.cell? ⟨wr.heap.size, j, none⟩ = some (.string nm) := hnm3; clear hnm3; have g2 := cell_later hb3 (show (wr.drewN 1).cell? ⟨w.heap.size, 2, none⟩ = _ from q2); have g1 := cell_later hb3 (show (wr.drewN 1).cell? ⟨b, o, none⟩ = _ from c1)))
          all_goals go_wp2_with fail
          all_goals have HFIN := Lib.hid (HBR.out.trans (((below_draw (Below.refl _ wr) 1).trans hb3).mono HBR.out.size))
          all_goals clear hb3
          all_goals go_roundw
          all_goals first
            | exact ⟨1, by omega, by go_num, by rw [← HS.out], HFIN.out⟩
            | (simp [intOf]; omega)
        · have hk1 : ((k : Int) == 0) = false := by rw [beq_eq_false_iff_ne]; omega
          have HS := Lib.hid (str_more hd HYK.out HNM.out hk0)
          clear hk0
          go_wp2_with fail
          go_region_with ((go_at_call 185; (with_reducible refine (HWN.out _).mono ?_); rintro e1 w3 ⟨rfl, hb3, hnm3⟩; have g3 : w3.cell? ⟨wr.heap.size, j, none⟩ = some (.string nm) := hnm3; clear hnm3; have g2 := cell_later hb3 (show (wr.drewN 1).cell? ⟨w.heap.size, 2, none⟩ = _ from q2); have g1 := cell_later hb3 (show (wr.drewN 1).cell? ⟨b, o + k, none⟩ = _ from c1)))
          all_goals go_wp2_with fail
          all_goals have HFIN := Lib.hid (HBR.out.trans (((below_draw (Below.refl _ wr) 1).trans hb3).mono HBR.out.size))
          all_goals clear hb3
          all_goals go_roundw
          all_goals first
            | exact ⟨k + 1, by omega, by go_num, by rw [← HS.out], HFIN.out⟩
            | (simp [intOf]; omega)
      · have hke : k = r.ds.length := by omega
        have hD : dsTo r.ds k = daysL r := by rw [hke]; exact dsTo_all r
        have hi1 : ¬ (k : Int) < (r.ds.length : Int) := by omega
        rw [hD] at htl ⊢
        obtain ⟨T, hT⟩ : ∃ T, hd ++ daysL r = T := ⟨_, rfl⟩
        have hTT : headL r ++ daysL r ++ countL r ++ untilL r = T ++ countL r ++ untilL r := by rw [HHD.out, hT]
        rw [hT] at htl ⊢
        have HTT := Lib.hid hTT
        clear hT hTT hD hke hlt hdl
        have hlc := Lib.itoa_length_le r.ct (by omega) (by omega)
        obtain ⟨n, hn⟩ : ∃ n : Nat, r.ct = (n : Int) := ⟨r.ct.toNat, by omega⟩
        have hde := fun W => decimal_any n (by omega) W
        have hdz : (⟨(Lib.decDigits n).toArray⟩ : ByteArray) = mk (Lib.itoa r.ct) := by rw [hn, Lib.itoa_nonneg]
        simp only [hdz, ← hn] at hde
        obtain ⟨I, hI⟩ : ∃ I, Lib.itoa r.ct = I := ⟨_, rfl⟩
        rw [hI] at hde hlc
        have HDE := Lib.hid hde
        have HI := Lib.hid hI
        clear hde hdz hn hI hbr
        by_cases hcp : 0 < r.ct
        · have hC : countL r = [32, 99, 111, 117, 110, 116, 32] ++ I := by unfold countL; rw [if_pos hcp, HI.out]
          have HC := Lib.hid hC
          clear hC
          go_wp2_with fail
          (with_reducible refine (HDE.out _).mono ?_)
          rintro e1 w1 ⟨rfl, hb1⟩
          obtain ⟨q0, q1, q2, q3, q4, _⟩ := Cand.cells5' (HR5.out w1 (HBR.out.trans (hb1.mono HBR.out.size)))
          have HF1 := Lib.hid (HBR.out.trans (hb1.mono HBR.out.size))
          clear hb1
          by_cases hu : 0 ≤ r.un
          · obtain ⟨y, m, d, hat⟩ := Cal.at_exists r.un (by omega) (by omega)
            have hU : untilL r = [32, 117, 110, 116, 105, 108, 32] ++ Cal.text y m d := by unfold untilL; rw [if_pos (by omega), dayT_at hat]
            have htx := fun W => dayText_at r.un y m d W hat
            have hlt10 : (Cal.text y m d).length ≤ 10 := Nat.le_refl _
            obtain ⟨X, hX⟩ : ∃ X, Cal.text y m d = X := ⟨_, rfl⟩
            rw [hX] at hlt10 hU
            simp only [hX] at htx
            have HTX := Lib.hid htx
            have HU := Lib.hid hU
            clear hU htx hX hat
            go_wp2_with fail
            (with_reducible refine (HTX.out _).mono ?_)
            rintro e2 w2 ⟨rfl, hb2⟩
            have HF2 := Lib.hid (HF1.out.trans (hb2.mono HF1.out.size))
            clear hb2
            go_wp2
            go_ret
            exact ⟨ret_val (by (first | rw [HTT.out] | rw [← List.append_assoc, ← List.append_assoc, HTT.out]); rw [HC.out, HU.out]; (repeat rw [← List.append_assoc]); (repeat (first | rw [← mk_cat] | rw [← cat])); (first | done | rfl)), HB.out.trans (HF2.out.mono HB.out.size)⟩
          · have hU : untilL r = [] := by unfold untilL; rw [if_neg (by omega)]
            have HU := Lib.hid hU
            clear hU
            go_wp2
            go_ret
            exact ⟨ret_val (by (first | rw [HTT.out] | rw [← List.append_assoc, ← List.append_assoc, HTT.out]); rw [HC.out, HU.out, List.append_nil]; (repeat rw [← List.append_assoc]); (repeat (first | rw [← mk_cat] | rw [← cat])); (first | done | rfl)), HB.out.trans (HF1.out.mono HB.out.size)⟩
        · have hC : countL r = [] := by unfold countL; rw [if_neg hcp]
          have HC := Lib.hid hC
          clear hC
          by_cases hu : 0 ≤ r.un
          · obtain ⟨y, m, d, hat⟩ := Cal.at_exists r.un (by omega) (by omega)
            have hU : untilL r = [32, 117, 110, 116, 105, 108, 32] ++ Cal.text y m d := by unfold untilL; rw [if_pos (by omega), dayT_at hat]
            have htx := fun W => dayText_at r.un y m d W hat
            have hlt10 : (Cal.text y m d).length ≤ 10 := Nat.le_refl _
            obtain ⟨X, hX⟩ : ∃ X, Cal.text y m d = X := ⟨_, rfl⟩
            rw [hX] at hlt10 hU
            simp only [hX] at htx
            have HTX := Lib.hid htx
            have HU := Lib.hid hU
            clear hU htx hX hat
            go_wp2_with fail
            (with_reducible refine (HTX.out _).mono ?_)
            rintro e2 w2 ⟨rfl, hb2⟩
            have HF2 := Lib.hid (HBR.out.trans (hb2.mono HBR.out.size))
            clear hb2
            go_wp2
            go_ret
            exact ⟨ret_val (by (first | rw [HTT.out] | rw [← List.append_assoc, ← List.append_assoc, HTT.out]); rw [HC.out, HU.out, List.append_nil]; (repeat rw [← List.append_assoc]); (repeat (first | rw [← mk_cat] | rw [← cat])); (first | done | rfl)), HB.out.trans (HF2.out.mono HB.out.size)⟩
          · have hU : untilL r = [] := by unfold untilL; rw [if_neg (by omega)]
            have HU := Lib.hid hU
            clear hU
            go_wp2
            go_ret
            exact ⟨ret_val (by (first | rw [HTT.out] | rw [← List.append_assoc, ← List.append_assoc, HTT.out]); rw [HC.out, HU.out, List.append_nil, List.append_nil]; (repeat rw [← List.append_assoc]); (repeat (first | rw [← mk_cat] | rw [← cat])); (first | done | rfl)), HB.out.trans (HBR.out.mono HB.out.size)⟩
end Rrt
end Go.Proofs.YtkhkhbeolhhomaaGreatDoor
