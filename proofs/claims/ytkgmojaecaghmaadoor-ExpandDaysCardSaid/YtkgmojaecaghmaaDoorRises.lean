/- The walk of the law ExpandRises (printed by gen_rises.py). -/
import Derived.Test.YtkgmojaecaghmaaDoorMany
namespace Go.Proofs.YtkgmojaecaghmaaDoor
open Go Go.RowKit Go.Shelf Lmd
namespace Cand
open Rul Day Er

theorem is_agg (start : Int) (r : Ru) (v : Value) (n : Int) (l : List Int) (e : Nat → Addr) (w : World) (hG : Gives start r v l w) (he : E4 w e) (hr : Ints.Reads w v r.ds) :
    Calls Tryd.prog 21 #[.int .i64 start, .agg #[.string r.fq, .int .i64 r.ev, v, .int .i64 r.ct, .int .i64 r.un], .int .i64 n] w fun e' w' => e' = .returned (.bool (isB l n)) ∧ Below w.heap.size w w' := is_any start r v n l e w hG he hr
theorem nth_mem {l : List Int} {i : Nat} (h : nthB l i = true) : nthV l i ∈ l := by
  have hl : i < l.length := by have := of_decide_eq_true h; omega
  rw [nth_el hl]; exact List.getElem_mem _
theorem nth_rise {l : List Int} (h : l.Pairwise (· < ·)) {i k : Nat} (hik : i < k) (hk : nthB l k = true) : nthV l i < nthV l k := by
  have hl : k < l.length := by have := of_decide_eq_true hk; omega
  rw [nth_el hl, nth_el (by omega : i < l.length)]
  exact List.pairwise_iff_getElem.1 h i k (by omega) hl hik
theorem rises_lens {c : List Int} {n : Int} (hn : 1 ≤ n) : ((daysOf n (-1) c).length : Int) ≤ n ∧ ((daysOf (n + 1) (-1) c).length : Int) ≤ n + 1 ∧ (daysOf n (-1) c).length ≤ (daysOf (n + 1) (-1) c).length ∧ (((daysOf n (-1) c).length : Int) < n → (daysOf (n + 1) (-1) c).length = (daysOf n (-1) c).length) := by
  rw [daysOf_count hn, daysOf_count (by omega : 1 ≤ n + 1), List.length_take, List.length_take]
  omega

set_option maxRecDepth 100000 in
set_option maxHeartbeats 8000000 in
theorem expandRises_any (start : Int) (r : Ru) (v : Value) (n : Int) (e : Nat → Addr) (w : World) (he : E4 w e) (hr : Ints.Reads w v r.ds) (hf : r.fq.size ≤ 9223372036854775807) (hd : r.ds.length ≤ 9223372036854775807) :
    Calls Tryd.prog 5 #[.int .i64 start, r.val v, .int .i64 n] w fun e' w' => e' = .returned (.bool true) ∧ Below w.heap.size w w' := by
  obtain ⟨a, cap, rfl⟩ := hr.shape
  have hlr := fun w => longRule_any r a cap w hf hd
  have HLR := Lib.hid hlr
  have HE := Lib.hid he
  have HR := Lib.hid hr
  clear hlr he hr
  obtain ⟨w0, hw0⟩ : ∃ w0, w.alloc (.cells #[.string r.fq, .int .i64 r.ev, .slice a r.ds.length cap, .int .i64 r.ct, .int .i64 r.un] 24) = w0 := ⟨_, rfl⟩
  have hB0 : Below w.heap.size w w0 := by rw [← hw0]; exact (Below.refl _ w).alloc (Nat.le_refl _) _
  have hx0 := heap_new w (.cells #[.string r.fq, .int .i64 r.ev, .slice a r.ds.length cap, .int .i64 r.ct, .int .i64 r.un] 24)
  rw [hw0] at hx0
  have hz0 : w0.heap.size = w.heap.size + 1 := by rw [← hw0]; simp
  have HX0 := Lib.hid hx0
  go_enter Tryd.func5, Tryd.ntmps5
  simp only [Ru.val]
  go_wp2_with (go_at_call 12; refine (expanded_any e _ (HE.out.below hB0)).mono ?_; rintro e' w1 ⟨rfl, hb1⟩
               have k0 := cell_later hb1 (cell_of HX0.out (i := 0) rfl)
               have k1 := cell_later hb1 (cell_of HX0.out (i := 1) rfl)
               have k2 := cell_later hb1 (cell_of HX0.out (i := 2) rfl)
               have k3 := cell_later hb1 (cell_of HX0.out (i := 3) rfl)
               have k4 := cell_later hb1 (cell_of HX0.out (i := 4) rfl))
  by_cases hlong : 20 < r.fq.size ∨ 20 < r.ds.length
  · have h := HLR.out w1
    rw [if_pos hlong] at h
    refine h.mono ?_
    rintro e' w2 ⟨rfl, hb2⟩
    have HBW := Lib.hid ((hB0.trans (hb1.mono (by omega))).trans (hb2.mono (by have := hb1.size; omega)))
    clear h
    go_wp2
    go_ret
    exact ⟨rfl, HBW.out⟩
  have h := HLR.out w1
  rw [if_neg hlong] at h
  refine h.mono ?_
  rintro e' w2 ⟨rfl, hb2⟩
  have hbw := (hB0.trans (hb1.mono (by omega))).trans (hb2.mono (by have := hb1.size; omega))
  have HBW := Lib.hid hbw
  replace k0 := cell_later hb2 k0
  replace k1 := cell_later hb2 k1
  replace k2 := cell_later hb2 k2
  replace k3 := cell_later hb2 k3
  replace k4 := cell_later hb2 k4
  have hE2 := HE.out.below hbw
  have hR2 := HR.out.below hbw
  have hs2 := hbw.size
  have HE2 := Lib.hid hE2
  have HR2 := Lib.hid hR2
  clear h HLR HE HR hb1 hb2 hB0 HX0 hw0 hx0 hbw hE2 hR2
  by_cases h1 : n < 1
  · go_wp2; go_ret; exact ⟨rfl, HBW.out⟩
  by_cases h2 : 40 < n
  · go_wp2; go_ret; exact ⟨rfl, HBW.out⟩
  have hown := own_any r _ w2 HR2.out (by omega)
  have HOWN := Lib.hid hown
  clear hown
  go_wp2_with (go_at_call 14; refine HOWN.out.mono ?_; rintro e' w3 ⟨v3, rfl, hr3, hb3⟩; obtain ⟨a3, c3, rfl⟩ := hr3.shape)
  have hB4 : Below w3.heap.size w3 (w3.alloc (.cells #[.string r.fq, .int .i64 r.ev, .slice a3 r.ds.length c3, .int .i64 r.ct, .int .i64 r.un] 24)) := (Below.refl _ w3).alloc (Nat.le_refl _) _
  have hx4 := heap_new w3 (.cells #[.string r.fq, .int .i64 r.ev, .slice a3 r.ds.length c3, .int .i64 r.ct, .int .i64 r.un] 24)
  have hz4 : (w3.alloc (.cells #[.string r.fq, .int .i64 r.ev, .slice a3 r.ds.length c3, .int .i64 r.ct, .int .i64 r.un] 24)).heap.size = w3.heap.size + 1 := by simp
  generalize w3.alloc (.cells #[.string r.fq, .int .i64 r.ev, .slice a3 r.ds.length c3, .int .i64 r.ct, .int .i64 r.un] 24) = w4 at *
  have hE3 := HE2.out.below hb3
  have hck := chk_any r (.slice a3 r.ds.length c3) e w4 (hE3.below hB4) (hr3.below hB4) (by omega)
  have hs3 := hb3.size
  have hbw3 := HBW.out.trans (hb3.mono hs2)
  have HBW3 := Lib.hid hbw3
  have HB4 := Lib.hid hB4
  have HX4 := Lib.hid hx4
  have HR3 := Lib.hid hr3
  have HE3 := Lib.hid hE3
  have hsw3 := hbw3.size
  clear hB4 hx4 hr3 hE3 HBW HOWN k0 k1 k2 k3 k4 HE2 HR2 hbw3 hb3
  by_cases hbad : bad r = 0
  case neg =>
    obtain ⟨q, hq⟩ : ∃ q, bad r = q + 1 := ⟨bad r - 1, by omega⟩
    rw [hq] at hck
    refine hck.mono ?_
    rintro e' w5 ⟨rfl, hb5⟩
    have HB5 := Lib.hid hb5
    have hbf := (HBW3.out.trans (HB4.out.mono hsw3)).trans (hb5.mono (by omega))
    have HBF := Lib.hid hbf
    clear hb5 hbf hck
    simp only [errV, ev]
    go_wp2
    go_ret
    exact ⟨rfl, HBF.out⟩
  rw [hbad] at hck
  refine hck.mono ?_
  rintro e' w5 ⟨rfl, hb5⟩
  have hB5 : Below w3.heap.size w3 w5 := HB4.out.trans (hb5.mono (by omega))
  have hx5 := row_below HX4.out hb5
  have hbz : w3.heap.size < w5.heap.size := by have := hb5.size; omega
  have HB5 := Lib.hid hB5
  have HX5 := Lib.hid hx5
  obtain ⟨q0, q1, q2, q3, q4, f3, f4, _⟩ := cells5 hx5
  simp only [errV]
  have hbf := HBW3.out.trans (HB5.out.mono hsw3)
  have HBF := Lib.hid hbf
  clear hck hb5 hB5 hx5 HB4 HX4 hbf
  by_cases hone : r.fq.toList = [111, 110, 99, 101]
  · go_wp2
    go_ret
    exact ⟨rfl, HBF.out⟩
  have hone' : (r.fq.toList == [111, 110, 99, 101]) = false := by simpa using hone
  clear hone
  by_cases h3 : start < 0
  · go_wp2; go_ret; exact ⟨rfl, HBF.out⟩
  by_cases h4 : 73048 < start
  · go_wp2; go_ret; exact ⟨rfl, HBF.out⟩
  go_wp2_with fail
  -- own, with a count and no end
  have hB6 : Below w3.heap.size w3 ((w5.setCell ⟨w3.heap.size, 4, none⟩ (.int .i64 (-1))).setCell ⟨w3.heap.size, 3, none⟩ (.int .i64 n)) := (HB5.out.setCell (p := ⟨w3.heap.size, 4, none⟩) (Nat.le_refl _) _).setCell (p := ⟨w3.heap.size, 3, none⟩) (Nat.le_refl _) _
  have hx6 : ((w5.setCell ⟨w3.heap.size, 4, none⟩ (.int .i64 (-1))).setCell ⟨w3.heap.size, 3, none⟩ (.int .i64 n)).heap[w3.heap.size]? = some (.cells #[.string r.fq, .int .i64 r.ev, .slice a3 r.ds.length c3, .int .i64 n, .int .i64 (-1)] 24 (0, 0)) :=
    row_set (row_set HX5.out 4 (.int .i64 (-1))) 3 (.int .i64 n)
  have hz6 : w3.heap.size < ((w5.setCell ⟨w3.heap.size, 4, none⟩ (.int .i64 (-1))).setCell ⟨w3.heap.size, 3, none⟩ (.int .i64 n)).heap.size := by simpa [World.setCell] using hbz
  generalize (w5.setCell ⟨w3.heap.size, 4, none⟩ (.int .i64 (-1))).setCell ⟨w3.heap.size, 3, none⟩ (.int .i64 n) = w6 at *
  have hr6 := HR3.out.below hB6
  have hE6 := HE3.out.below hB6
  have hBw6 := HBW3.out.trans (hB6.mono hsw3)
  obtain ⟨y, m, d, ha⟩ := Cal.at_exists start (by omega) (by omega)
  obtain ⟨p1, p2, p3, p4, p5⟩ := bad_parts hbad
  obtain ⟨⟨p6, p7⟩, _⟩ := bound_parts p2
  have hrise := cands_rise (start := start) (y := y) (m := m) (d := d) p6 p5 p3
  have hbdc := cands_bd ha p6
  have hwide := cands_wide (start := start) (y := y) (m := m) (d := d) p6
  -- what the four rules give, in any world behind this one
  have gg : ∀ (ev ct : Int) (sl : Value) (W' : World), Below w6.heap.size w6 W' → (1 ≤ ev ∧ ev ≤ 100) → (0 ≤ ct ∧ ct ≤ 1000) → Gives start { r with ev := ev, ct := ct, un := -1 } sl (daysOf ct (-1) (cands start y m d { r with ev := ev })) W' :=
    fun ev ct sl W' hb h5 h6 => gives_all start y m d { r with ev := ev, ct := ct, un := -1 } sl e W' (hE6.below hb) (bad_change ev ct (-1) hbad hone' h6 (by omega) (by omega) h5) (by dsimp only; omega) ha
  obtain ⟨C, hC⟩ : ∃ C, cands start y m d r = C := ⟨_, rfl⟩
  obtain ⟨C2, hC2⟩ : ∃ C2, cands start y m d { r with ev := 2 * r.ev } = C2 := ⟨_, rfl⟩
  rw [hC] at hrise hbdc hwide
  rw [hC2] at hwide
  have gg1 : ∀ (ct : Int) (sl : Value) (W' : World), Below w6.heap.size w6 W' → (0 ≤ ct ∧ ct ≤ 1000) → Gives start { r with ct := ct, un := -1 } sl (daysOf ct (-1) C) W' := fun ct sl W' hb h6 => by
    have := gg r.ev ct sl W' hb ⟨p6, p7⟩ h6
    rw [show cands start y m d { r with ev := r.ev } = C from hC] at this
    exact this
  have gg2 : ∀ (sl : Value) (W' : World), Below w6.heap.size w6 W' → r.ev ≤ 50 → Gives start { r with ev := 2 * r.ev, ct := n, un := -1 } sl (daysOf n (-1) C2) W' := fun sl W' hb h5 => by
    have := gg (2 * r.ev) n sl W' hb ⟨by omega, by omega⟩ (by omega)
    rw [hC2] at this
    exact this
  obtain ⟨L1, hL1⟩ : ∃ L1, daysOf n (-1) C = L1 := ⟨_, rfl⟩
  obtain ⟨L2, hL2⟩ : ∃ L2, daysOf n (-1) C2 = L2 := ⟨_, rfl⟩
  have hlens := rises_lens (c := C) (n := n) (by omega)
  have hL1r : L1.Pairwise (· < ·) := by rw [← hL1]; exact hrise.sublist (daysOf_sub _ _ _)
  have hL1b : ∀ x ∈ L1, start ≤ x := fun x hx => (hbdc x ((daysOf_sub n (-1) C).subset (by rw [hL1]; exact hx))).1
  have hL2m : ∀ x ∈ L2, x ∈ C := fun x hx => hwide x ((daysOf_sub n (-1) C2).subset (by rw [hL2]; exact hx))
  rw [hL1] at hlens
  have N1 := Lib.hid (fun (W' : World) (k : Int) (hb : Below w6.heap.size w6 W') => by
    have h := gg1 n (.slice a3 r.ds.length c3) W' hb (by omega)
    rw [hL1] at h
    exact nth_agg start { r with ct := n, un := -1 } (.slice a3 r.ds.length c3) k L1 e W' h (hE6.below hb) (hr6.below hb))
  have I1 := Lib.hid (fun (W' : World) (k : Int) (hb : Below w6.heap.size w6 W') => by
    have h := gg1 n (.slice a3 r.ds.length c3) W' hb (by omega)
    rw [hL1] at h
    exact is_agg start { r with ct := n, un := -1 } (.slice a3 r.ds.length c3) k L1 e W' h (hE6.below hb) (hr6.below hb))
  have M1 := Lib.hid (fun (W' : World) (hb : Below w6.heap.size w6 W') => by
    have h := gg1 n (.slice a3 r.ds.length c3) W' hb (by omega)
    rw [hL1] at h
    exact many_any start { r with ct := n, un := -1 } (.slice a3 r.ds.length c3) L1 e W' h (hE6.below hb) (hr6.below hb))
  have M2 := Lib.hid (fun (a7 : Option Addr) (c7 : Nat) (W' : World) (hb : Below w6.heap.size w6 W') (hr7 : Ints.Reads W' (.slice a7 r.ds.length c7) r.ds) =>
    many_any start { r with ct := n + 1, un := -1 } (.slice a7 r.ds.length c7) _ e W' (gg1 (n + 1) _ W' hb (by omega)) (hE6.below hb) hr7)
  have N3 := Lib.hid (fun (a7 : Option Addr) (c7 : Nat) (W' : World) (k : Int) (hb : Below w6.heap.size w6 W') (h5 : r.ev ≤ 50) (hr7 : Ints.Reads W' (.slice a7 r.ds.length c7) r.ds) => by
    have h := gg2 (.slice a7 r.ds.length c7) W' hb h5
    rw [hL2] at h
    exact nth_agg start { r with ev := 2 * r.ev, ct := n, un := -1 } (.slice a7 r.ds.length c7) k L2 e W' h (hE6.below hb) hr7)
  have I4 := Lib.hid (fun (a7 : Option Addr) (c7 : Nat) (W' : World) (k : Int) (hb : Below w6.heap.size w6 W') (hr7 : Ints.Reads W' (.slice a7 r.ds.length c7) r.ds) => by
    have h := gg1 0 (.slice a7 r.ds.length c7) W' hb (by omega)
    rw [daysOf_free] at h
    exact is_agg start { r with ct := 0, un := -1 } (.slice a7 r.ds.length c7) k C e W' h (hE6.below hb) hr7)
  have OW := Lib.hid (fun (W' : World) (hb : Below w6.heap.size w6 W') => own_any { r with ct := n, un := -1 } (.slice a3 r.ds.length c3) W' (hr6.below hb) (by dsimp only; omega))
  have HX6 := Lib.hid hx6
  have HBW6 := Lib.hid hBw6
  have HRISE := Lib.hid hrise
  have HL1R := Lib.hid hL1r
  have HL1B := Lib.hid hL1b
  have HL2M := Lib.hid hL2m
  have HLENS := Lib.hid hlens
  have hs6 := hBw6.size
  clear hx6 hB6 hr6 hE6 hBw6 HB5 HX5 q0 q1 q2 q3 q4 f3 f4 gg gg1 gg2 hrise hbdc hwide hL1 hL2 hC hC2 hlens hL1r hL1b hL2m ha p1 p2 p3 p4 p5 HBF HR3 HE3 HBW3 hbad hone'
  go_loopw [9, 10] (fun p9 p10 wr => ∃ (i : Nat) (last : Int), (i : Int) ≤ n ∧ p9 = .int .i64 last ∧ p10 = .int .i64 (i : Int) ∧ Below w6.heap.size w6 wr ∧ ∀ k : Nat, i ≤ k → nthB L1 k = true → last < nthV L1 k) (fun _ p10 _ => (n - intOf p10).toNat)
  case atStart => exact ⟨0, start - 1, by omega, rfl, rfl, Below.refl _ _, fun k _ hk => by have := HL1B.out _ (nth_mem hk); omega⟩
  case round =>
    obtain ⟨i, last, hi, rfl, rfl, hbr, hlast⟩ := hrel
    obtain ⟨q0, q1, q2, q3, q4, _⟩ := cells5 (row_below HX6.out hbr)
    have hsr := hbr.size
    have HBR := Lib.hid hbr
    have HLAST := Lib.hid hlast
    clear hbr hlast
    by_cases hlt : (i : Int) < n
    · obtain ⟨V, hV⟩ : ∃ V, nthV L1 i = V := ⟨_, rfl⟩
      have c1 := N1.out wr i HBR.out
      try dsimp only at c1
      rw [hV] at c1
      by_cases hB : nthB L1 i = true
      · have hlv := HLAST.out i (Nat.le_refl _) hB
        have hisb : isB L1 V = true := by rw [← hV]; exact (isB_iff HL1R.out _).2 (nth_mem hB)
        have hnext : ∀ k : Nat, i + 1 ≤ k → nthB L1 k = true → V < nthV L1 k := fun k hk hkb => by rw [← hV]; exact nth_rise HL1R.out (by omega) hkb
        rw [hV] at hlv
        rw [hB] at c1
        have HC1 := Lib.hid c1
        have HIS := Lib.hid hisb
        have HNEXT := Lib.hid hnext
        clear c1 hV hB hisb hnext
        go_wp2_with fail
        refine HC1.out.mono ?_
        rintro e' wa ⟨rfl, hba⟩
        have hbr1 := HBR.out.trans (hba.mono hsr)
        obtain ⟨q0, q1, q2, q3, q4, _⟩ := cells5 (row_below HX6.out hbr1)
        have c2 := I1.out wa V hbr1
        try dsimp only at c2
        rw [HIS.out] at c2
        have HC2 := Lib.hid c2
        have HBR1 := Lib.hid hbr1
        clear hba hbr1 c2
        go_wp2_with fail
        refine HC2.out.mono ?_
        rintro e' wb ⟨rfl, hbb⟩
        have HBR2 := Lib.hid (HBR1.out.trans (hbb.mono HBR1.out.size))
        clear hbb
        go_wp2
        go_roundw
        case rel => exact ⟨i + 1, V, by omega, rfl, by simp, HBR2.out, HNEXT.out⟩
        case measure => simp [intOf]; omega
      · have hB' : nthB L1 i = false := by simpa using hB
        rw [hB'] at c1
        have HC1 := Lib.hid c1
        clear c1 hV hB hB'
        go_wp2_with fail
        refine HC1.out.mono ?_
        rintro e' wz ⟨rfl, hba⟩
        have HBZ := Lib.hid (HBR.out.trans (hba.mono hsr))
        clear hba HBR HC1 HLAST q0 q1 q2 q3 q4
        obtain ⟨q0, q1, q2, q3, q4, _⟩ := cells5 (row_below HX6.out HBZ.out)
        go_wp2_with fail
        refine (OW.out wz HBZ.out).mono ?_
        rintro e' w7 ⟨v7, rfl, hr7, hb7⟩
        obtain ⟨a7, c7, rfl⟩ := hr7.shape
        try dsimp only at hr7 ⊢
        have hx7 := row_below (row_below HX6.out HBZ.out) hb7
        have hb67 := HBZ.out.trans (hb7.mono HBZ.out.size)
        have hB8 : Below w7.heap.size w7 (w7.alloc (.cells #[.string r.fq, .int .i64 r.ev, .slice a7 r.ds.length c7, .int .i64 (n + 1), .int .i64 (-1)] 24)) := (Below.refl _ w7).alloc (Nat.le_refl _) _
        have hx8 := heap_new w7 (.cells #[.string r.fq, .int .i64 r.ev, .slice a7 r.ds.length c7, .int .i64 (n + 1), .int .i64 (-1)] 24)
        have hb68 := hb67.trans (hB8.mono hb67.size)
        obtain ⟨q0, q1, q2, q3, q4, _⟩ := cells5 (row_below hx7 hB8)
        have hr8 := hr7.below hB8
        have HB68 := Lib.hid hb68
        have HX8 := Lib.hid hx8
        have HR8 := Lib.hid hr8
        clear hr7 hb7 hx7 hb67 hB8 hx8 hb68 hr8 HBZ
        go_wp2_with fail
        generalize w7.alloc (.cells #[.string r.fq, .int .i64 r.ev, .slice a7 r.ds.length c7, .int .i64 (n + 1), .int .i64 (-1)] 24) = w8 at *
        have c1 := M1.out w8 HB68.out
        try dsimp only at c1
        refine c1.mono ?_
        rintro e' w9 ⟨rfl, hb9⟩
        have hb69 := HB68.out.trans (hb9.mono HB68.out.size)
        obtain ⟨q0, q1, q2, q3, q4, _⟩ := cells5 (row_below HX8.out hb9)
        have c2 := M2.out a7 c7 w9 hb69 (HR8.out.below hb9)
        try dsimp only at c2
        have HC2 := Lib.hid c2
        have HB69 := Lib.hid hb69
        clear c1 c2 hb9 hb69 HB68 HX8 HR8
        go_wp2_with fail
        refine HC2.out.mono ?_
        rintro e' w10 ⟨rfl, hb10⟩
        obtain ⟨l1, l2, l3, l4⟩ := HLENS.out
        generalize (daysOf (n + 1) (-1) C).length = B at *
        generalize L1.length = A at *
        have HB610 := Lib.hid (HB69.out.trans (hb10.mono HB69.out.size))
        clear hb10 HC2 HB69
        obtain ⟨q0, q1, q2, q3, q4, _⟩ := cells5 (row_below HX6.out HB610.out)
        have l3' : (A : Int) ≤ B := by omega
        have l4' : (A : Int) < n → (B : Int) = A := fun h => by have := l4 h; omega
        clear l3 l4
        by_cases hAn : (A : Int) < n
        · obtain rfl : B = A := by have := l4' hAn; omega
          clear l4' l3' l2
          go_wp2_with fail
          refine (OW.out w10 HB610.out).mono ?_
          rintro e' w11 ⟨v11, rfl, hr11, hb11⟩
          obtain ⟨a11, c11, rfl⟩ := hr11.shape
          try dsimp only at hr11 ⊢
          have hx11 := row_below (row_below HX6.out HB610.out) hb11
          have hb611 := HB610.out.trans (hb11.mono HB610.out.size)
          have HX11 := Lib.hid hx11
          have HB611 := Lib.hid hb611
          have HR11 := Lib.hid hr11
          clear hr11 hb11 hx11 hb611 HB610
          have hs611 := HB611.out.size
          by_cases h50 : 50 < r.ev
          · have hbf := HBW6.out.trans ((HB611.out.trans ((Below.refl _ w11).alloc (Nat.le_refl _) (.cells #[.string r.fq, .int .i64 r.ev, .slice a11 r.ds.length c11, .int .i64 n, .int .i64 (-1)] 24) |>.mono hs611)).mono hs6)
            have HBF := Lib.hid hbf
            clear hbf
            go_wp2
            go_ret
            exact ⟨rfl, HBF.out⟩
          have hB12 : Below w11.heap.size w11 (w11.alloc (.cells #[.string r.fq, .int .i64 (2 * r.ev), .slice a11 r.ds.length c11, .int .i64 n, .int .i64 (-1)] 24)) := (Below.refl _ w11).alloc (Nat.le_refl _) _
          have hx12 := heap_new w11 (.cells #[.string r.fq, .int .i64 (2 * r.ev), .slice a11 r.ds.length c11, .int .i64 n, .int .i64 (-1)] 24)
          have hb612 := HB611.out.trans (hB12.mono hs611)
          obtain ⟨q0, q1, q2, q3, q4, _⟩ := cells5 (row_below HX11.out hB12)
          have hr12 := HR11.out.below hB12
          have HB612 := Lib.hid hb612
          have HX12 := Lib.hid hx12
          have HR12 := Lib.hid hr12
          clear hB12 hx12 hb612 hr12 HB611 HX11 HR11
          go_wp2_with fail
          generalize w11.alloc (.cells #[.string r.fq, .int .i64 (2 * r.ev), .slice a11 r.ds.length c11, .int .i64 n, .int .i64 (-1)] 24) = w12 at *
          refine (OW.out w12 HB612.out).mono ?_
          rintro e' w13 ⟨v13, rfl, hr13, hb13⟩
          obtain ⟨a13, c13, rfl⟩ := hr13.shape
          try dsimp only at hr13 ⊢
          have hb613 := HB612.out.trans (hb13.mono HB612.out.size)
          have hx13 := row_below HX12.out hb13
          have hrw13 := HR12.out.below hb13
          have HB613 := Lib.hid hb613
          have HX13 := Lib.hid hx13
          have HRW := Lib.hid hrw13
          have HR13 := Lib.hid hr13
          clear hr13 hb13 hb613 hx13 hrw13 HB612 HX12 HR12
          go_wp2_with fail
          have hB14 : Below w13.heap.size w13 (w13.alloc (.cells #[.string r.fq, .int .i64 r.ev, .slice a13 r.ds.length c13, .int .i64 0, .int .i64 (-1)] 24)) := (Below.refl _ w13).alloc (Nat.le_refl _) _
          have hx14 := heap_new w13 (.cells #[.string r.fq, .int .i64 r.ev, .slice a13 r.ds.length c13, .int .i64 0, .int .i64 (-1)] 24)
          generalize w13.alloc (.cells #[.string r.fq, .int .i64 r.ev, .slice a13 r.ds.length c13, .int .i64 0, .int .i64 (-1)] 24) = w14 at *
          have hb614 := HB613.out.trans (hB14.mono HB613.out.size)
          have HB614 := Lib.hid hb614
          have HXW := Lib.hid (row_below HX13.out hB14)
          have HXF := Lib.hid hx14
          have HRW14 := Lib.hid (HRW.out.below hB14)
          have HRF14 := Lib.hid (HR13.out.below hB14)
          have hs614 := hb614.size
          clear hB14 hx14 hb614 HB613 HX13 HRW HR13
          go_loopw [19] (fun p wr => ∃ i : Nat, (i : Int) ≤ n ∧ p = .int .i64 (i : Int) ∧ Below w14.heap.size w14 wr) (fun p _ => (n - intOf p).toNat)
          case atStart => exact ⟨0, by omega, rfl, Below.refl _ _⟩
          case round =>
            obtain ⟨i, hi, rfl, hbr⟩ := hrel
            obtain ⟨q0, q1, q2, q3, q4, _⟩ := cells5 (row_below HXW.out hbr)
            have hsr := hbr.size
            have HBR := Lib.hid hbr
            clear hbr
            by_cases hlt : (i : Int) < n
            · obtain ⟨V, hV⟩ : ∃ V, nthV L2 i = V := ⟨_, rfl⟩
              have c1 := N3.out a11 c11 wr i (HB614.out.trans (HBR.out.mono hs614)) (by omega) (HRW14.out.below HBR.out)
              try dsimp only at c1
              rw [hV] at c1
              by_cases hB : nthB L2 i = true
              · have hisb : isB C V = true := by rw [← hV]; exact (isB_iff HRISE.out _).2 (HL2M.out _ (nth_mem hB))
                rw [hB] at c1
                have HC1 := Lib.hid c1
                have HIS := Lib.hid hisb
                clear c1 hV hB hisb
                go_wp2_with fail
                refine HC1.out.mono ?_
                rintro e' wa ⟨rfl, hba⟩
                have hbr1 := HBR.out.trans (hba.mono hsr)
                obtain ⟨q0, q1, q2, q3, q4, _⟩ := cells5 (row_below HXF.out hbr1)
                have c2 := I4.out a13 c13 wa V (HB614.out.trans (hbr1.mono hs614)) (HRF14.out.below hbr1)
                try dsimp only at c2
                rw [HIS.out] at c2
                have HC2 := Lib.hid c2
                have HBR1 := Lib.hid hbr1
                clear hba hbr1 c2
                go_wp2_with fail
                refine HC2.out.mono ?_
                rintro e' wb ⟨rfl, hbb⟩
                have HBR2 := Lib.hid (HBR1.out.trans (hbb.mono HBR1.out.size))
                clear hbb
                go_wp2
                go_roundw
                case rel => exact ⟨i + 1, by omega, by simp, HBR2.out⟩
                case measure => simp [intOf]; omega
              · have hB' : nthB L2 i = false := by simpa using hB
                rw [hB'] at c1
                have HC1 := Lib.hid c1
                clear c1 hV hB hB'
                go_wp2_with fail
                refine HC1.out.mono ?_
                rintro e' wq ⟨rfl, hba⟩
                have HF := Lib.hid (HBW6.out.trans ((HB614.out.trans ((HBR.out.trans (hba.mono hsr)).mono hs614)).mono hs6))
                clear hba
                go_wp2
                go_ret
                exact ⟨rfl, HF.out⟩
            · have HF := Lib.hid (HBW6.out.trans ((HB614.out.trans (HBR.out.mono hs614)).mono hs6))
              go_wp2
              go_ret
              exact ⟨rfl, HF.out⟩
        · clear l4'
          go_wp2_with fail
          refine (OW.out w10 HB610.out).mono ?_
          rintro e' w11 ⟨v11, rfl, hr11, hb11⟩
          obtain ⟨a11, c11, rfl⟩ := hr11.shape
          try dsimp only at hr11 ⊢
          have hx11 := row_below (row_below HX6.out HB610.out) hb11
          have hb611 := HB610.out.trans (hb11.mono HB610.out.size)
          have HX11 := Lib.hid hx11
          have HB611 := Lib.hid hb611
          have HR11 := Lib.hid hr11
          clear hr11 hb11 hx11 hb611 HB610
          have hs611 := HB611.out.size
          by_cases h50 : 50 < r.ev
          · have hbf := HBW6.out.trans ((HB611.out.trans ((Below.refl _ w11).alloc (Nat.le_refl _) (.cells #[.string r.fq, .int .i64 r.ev, .slice a11 r.ds.length c11, .int .i64 n, .int .i64 (-1)] 24) |>.mono hs611)).mono hs6)
            have HBF := Lib.hid hbf
            clear hbf
            go_wp2
            go_ret
            exact ⟨rfl, HBF.out⟩
          have hB12 : Below w11.heap.size w11 (w11.alloc (.cells #[.string r.fq, .int .i64 (2 * r.ev), .slice a11 r.ds.length c11, .int .i64 n, .int .i64 (-1)] 24)) := (Below.refl _ w11).alloc (Nat.le_refl _) _
          have hx12 := heap_new w11 (.cells #[.string r.fq, .int .i64 (2 * r.ev), .slice a11 r.ds.length c11, .int .i64 n, .int .i64 (-1)] 24)
          have hb612 := HB611.out.trans (hB12.mono hs611)
          obtain ⟨q0, q1, q2, q3, q4, _⟩ := cells5 (row_below HX11.out hB12)
          have hr12 := HR11.out.below hB12
          have HB612 := Lib.hid hb612
          have HX12 := Lib.hid hx12
          have HR12 := Lib.hid hr12
          clear hB12 hx12 hb612 hr12 HB611 HX11 HR11
          go_wp2_with fail
          generalize w11.alloc (.cells #[.string r.fq, .int .i64 (2 * r.ev), .slice a11 r.ds.length c11, .int .i64 n, .int .i64 (-1)] 24) = w12 at *
          refine (OW.out w12 HB612.out).mono ?_
          rintro e' w13 ⟨v13, rfl, hr13, hb13⟩
          obtain ⟨a13, c13, rfl⟩ := hr13.shape
          try dsimp only at hr13 ⊢
          have hb613 := HB612.out.trans (hb13.mono HB612.out.size)
          have hx13 := row_below HX12.out hb13
          have hrw13 := HR12.out.below hb13
          have HB613 := Lib.hid hb613
          have HX13 := Lib.hid hx13
          have HRW := Lib.hid hrw13
          have HR13 := Lib.hid hr13
          clear hr13 hb13 hb613 hx13 hrw13 HB612 HX12 HR12
          go_wp2_with fail
          have hB14 : Below w13.heap.size w13 (w13.alloc (.cells #[.string r.fq, .int .i64 r.ev, .slice a13 r.ds.length c13, .int .i64 0, .int .i64 (-1)] 24)) := (Below.refl _ w13).alloc (Nat.le_refl _) _
          have hx14 := heap_new w13 (.cells #[.string r.fq, .int .i64 r.ev, .slice a13 r.ds.length c13, .int .i64 0, .int .i64 (-1)] 24)
          generalize w13.alloc (.cells #[.string r.fq, .int .i64 r.ev, .slice a13 r.ds.length c13, .int .i64 0, .int .i64 (-1)] 24) = w14 at *
          have hb614 := HB613.out.trans (hB14.mono HB613.out.size)
          have HB614 := Lib.hid hb614
          have HXW := Lib.hid (row_below HX13.out hB14)
          have HXF := Lib.hid hx14
          have HRW14 := Lib.hid (HRW.out.below hB14)
          have HRF14 := Lib.hid (HR13.out.below hB14)
          have hs614 := hb614.size
          clear hB14 hx14 hb614 HB613 HX13 HRW HR13
          go_loopw [19] (fun p wr => ∃ i : Nat, (i : Int) ≤ n ∧ p = .int .i64 (i : Int) ∧ Below w14.heap.size w14 wr) (fun p _ => (n - intOf p).toNat)
          case atStart => exact ⟨0, by omega, rfl, Below.refl _ _⟩
          case round =>
            obtain ⟨i, hi, rfl, hbr⟩ := hrel
            obtain ⟨q0, q1, q2, q3, q4, _⟩ := cells5 (row_below HXW.out hbr)
            have hsr := hbr.size
            have HBR := Lib.hid hbr
            clear hbr
            by_cases hlt : (i : Int) < n
            · obtain ⟨V, hV⟩ : ∃ V, nthV L2 i = V := ⟨_, rfl⟩
              have c1 := N3.out a11 c11 wr i (HB614.out.trans (HBR.out.mono hs614)) (by omega) (HRW14.out.below HBR.out)
              try dsimp only at c1
              rw [hV] at c1
              by_cases hB : nthB L2 i = true
              · have hisb : isB C V = true := by rw [← hV]; exact (isB_iff HRISE.out _).2 (HL2M.out _ (nth_mem hB))
                rw [hB] at c1
                have HC1 := Lib.hid c1
                have HIS := Lib.hid hisb
                clear c1 hV hB hisb
                go_wp2_with fail
                refine HC1.out.mono ?_
                rintro e' wa ⟨rfl, hba⟩
                have hbr1 := HBR.out.trans (hba.mono hsr)
                obtain ⟨q0, q1, q2, q3, q4, _⟩ := cells5 (row_below HXF.out hbr1)
                have c2 := I4.out a13 c13 wa V (HB614.out.trans (hbr1.mono hs614)) (HRF14.out.below hbr1)
                try dsimp only at c2
                rw [HIS.out] at c2
                have HC2 := Lib.hid c2
                have HBR1 := Lib.hid hbr1
                clear hba hbr1 c2
                go_wp2_with fail
                refine HC2.out.mono ?_
                rintro e' wb ⟨rfl, hbb⟩
                have HBR2 := Lib.hid (HBR1.out.trans (hbb.mono HBR1.out.size))
                clear hbb
                go_wp2
                go_roundw
                case rel => exact ⟨i + 1, by omega, by simp, HBR2.out⟩
                case measure => simp [intOf]; omega
              · have hB' : nthB L2 i = false := by simpa using hB
                rw [hB'] at c1
                have HC1 := Lib.hid c1
                clear c1 hV hB hB'
                go_wp2_with fail
                refine HC1.out.mono ?_
                rintro e' wq ⟨rfl, hba⟩
                have HF := Lib.hid (HBW6.out.trans ((HB614.out.trans ((HBR.out.trans (hba.mono hsr)).mono hs614)).mono hs6))
                clear hba
                go_wp2
                go_ret
                exact ⟨rfl, HF.out⟩
            · have HF := Lib.hid (HBW6.out.trans ((HB614.out.trans (HBR.out.mono hs614)).mono hs6))
              go_wp2
              go_ret
              exact ⟨rfl, HF.out⟩
    · have HBZ := HBR
      generalize wr = wz at *
      go_wp2_with fail
      refine (OW.out wz HBZ.out).mono ?_
      rintro e' w7 ⟨v7, rfl, hr7, hb7⟩
      obtain ⟨a7, c7, rfl⟩ := hr7.shape
      try dsimp only at hr7 ⊢
      have hx7 := row_below (row_below HX6.out HBZ.out) hb7
      have hb67 := HBZ.out.trans (hb7.mono HBZ.out.size)
      have hB8 : Below w7.heap.size w7 (w7.alloc (.cells #[.string r.fq, .int .i64 r.ev, .slice a7 r.ds.length c7, .int .i64 (n + 1), .int .i64 (-1)] 24)) := (Below.refl _ w7).alloc (Nat.le_refl _) _
      have hx8 := heap_new w7 (.cells #[.string r.fq, .int .i64 r.ev, .slice a7 r.ds.length c7, .int .i64 (n + 1), .int .i64 (-1)] 24)
      have hb68 := hb67.trans (hB8.mono hb67.size)
      obtain ⟨q0, q1, q2, q3, q4, _⟩ := cells5 (row_below hx7 hB8)
      have hr8 := hr7.below hB8
      have HB68 := Lib.hid hb68
      have HX8 := Lib.hid hx8
      have HR8 := Lib.hid hr8
      clear hr7 hb7 hx7 hb67 hB8 hx8 hb68 hr8 HBZ
      go_wp2_with fail
      generalize w7.alloc (.cells #[.string r.fq, .int .i64 r.ev, .slice a7 r.ds.length c7, .int .i64 (n + 1), .int .i64 (-1)] 24) = w8 at *
      have c1 := M1.out w8 HB68.out
      try dsimp only at c1
      refine c1.mono ?_
      rintro e' w9 ⟨rfl, hb9⟩
      have hb69 := HB68.out.trans (hb9.mono HB68.out.size)
      obtain ⟨q0, q1, q2, q3, q4, _⟩ := cells5 (row_below HX8.out hb9)
      have c2 := M2.out a7 c7 w9 hb69 (HR8.out.below hb9)
      try dsimp only at c2
      have HC2 := Lib.hid c2
      have HB69 := Lib.hid hb69
      clear c1 c2 hb9 hb69 HB68 HX8 HR8
      go_wp2_with fail
      refine HC2.out.mono ?_
      rintro e' w10 ⟨rfl, hb10⟩
      obtain ⟨l1, l2, l3, l4⟩ := HLENS.out
      generalize (daysOf (n + 1) (-1) C).length = B at *
      generalize L1.length = A at *
      have HB610 := Lib.hid (HB69.out.trans (hb10.mono HB69.out.size))
      clear hb10 HC2 HB69
      obtain ⟨q0, q1, q2, q3, q4, _⟩ := cells5 (row_below HX6.out HB610.out)
      have l3' : (A : Int) ≤ B := by omega
      have l4' : (A : Int) < n → (B : Int) = A := fun h => by have := l4 h; omega
      clear l3 l4
      by_cases hAn : (A : Int) < n
      · obtain rfl : B = A := by have := l4' hAn; omega
        clear l4' l3' l2
        go_wp2_with fail
        refine (OW.out w10 HB610.out).mono ?_
        rintro e' w11 ⟨v11, rfl, hr11, hb11⟩
        obtain ⟨a11, c11, rfl⟩ := hr11.shape
        try dsimp only at hr11 ⊢
        have hx11 := row_below (row_below HX6.out HB610.out) hb11
        have hb611 := HB610.out.trans (hb11.mono HB610.out.size)
        have HX11 := Lib.hid hx11
        have HB611 := Lib.hid hb611
        have HR11 := Lib.hid hr11
        clear hr11 hb11 hx11 hb611 HB610
        have hs611 := HB611.out.size
        by_cases h50 : 50 < r.ev
        · have hbf := HBW6.out.trans ((HB611.out.trans ((Below.refl _ w11).alloc (Nat.le_refl _) (.cells #[.string r.fq, .int .i64 r.ev, .slice a11 r.ds.length c11, .int .i64 n, .int .i64 (-1)] 24) |>.mono hs611)).mono hs6)
          have HBF := Lib.hid hbf
          clear hbf
          go_wp2
          go_ret
          exact ⟨rfl, HBF.out⟩
        have hB12 : Below w11.heap.size w11 (w11.alloc (.cells #[.string r.fq, .int .i64 (2 * r.ev), .slice a11 r.ds.length c11, .int .i64 n, .int .i64 (-1)] 24)) := (Below.refl _ w11).alloc (Nat.le_refl _) _
        have hx12 := heap_new w11 (.cells #[.string r.fq, .int .i64 (2 * r.ev), .slice a11 r.ds.length c11, .int .i64 n, .int .i64 (-1)] 24)
        have hb612 := HB611.out.trans (hB12.mono hs611)
        obtain ⟨q0, q1, q2, q3, q4, _⟩ := cells5 (row_below HX11.out hB12)
        have hr12 := HR11.out.below hB12
        have HB612 := Lib.hid hb612
        have HX12 := Lib.hid hx12
        have HR12 := Lib.hid hr12
        clear hB12 hx12 hb612 hr12 HB611 HX11 HR11
        go_wp2_with fail
        generalize w11.alloc (.cells #[.string r.fq, .int .i64 (2 * r.ev), .slice a11 r.ds.length c11, .int .i64 n, .int .i64 (-1)] 24) = w12 at *
        refine (OW.out w12 HB612.out).mono ?_
        rintro e' w13 ⟨v13, rfl, hr13, hb13⟩
        obtain ⟨a13, c13, rfl⟩ := hr13.shape
        try dsimp only at hr13 ⊢
        have hb613 := HB612.out.trans (hb13.mono HB612.out.size)
        have hx13 := row_below HX12.out hb13
        have hrw13 := HR12.out.below hb13
        have HB613 := Lib.hid hb613
        have HX13 := Lib.hid hx13
        have HRW := Lib.hid hrw13
        have HR13 := Lib.hid hr13
        clear hr13 hb13 hb613 hx13 hrw13 HB612 HX12 HR12
        go_wp2_with fail
        have hB14 : Below w13.heap.size w13 (w13.alloc (.cells #[.string r.fq, .int .i64 r.ev, .slice a13 r.ds.length c13, .int .i64 0, .int .i64 (-1)] 24)) := (Below.refl _ w13).alloc (Nat.le_refl _) _
        have hx14 := heap_new w13 (.cells #[.string r.fq, .int .i64 r.ev, .slice a13 r.ds.length c13, .int .i64 0, .int .i64 (-1)] 24)
        generalize w13.alloc (.cells #[.string r.fq, .int .i64 r.ev, .slice a13 r.ds.length c13, .int .i64 0, .int .i64 (-1)] 24) = w14 at *
        have hb614 := HB613.out.trans (hB14.mono HB613.out.size)
        have HB614 := Lib.hid hb614
        have HXW := Lib.hid (row_below HX13.out hB14)
        have HXF := Lib.hid hx14
        have HRW14 := Lib.hid (HRW.out.below hB14)
        have HRF14 := Lib.hid (HR13.out.below hB14)
        have hs614 := hb614.size
        clear hB14 hx14 hb614 HB613 HX13 HRW HR13
        go_loopw [19] (fun p wr => ∃ i : Nat, (i : Int) ≤ n ∧ p = .int .i64 (i : Int) ∧ Below w14.heap.size w14 wr) (fun p _ => (n - intOf p).toNat)
        case atStart => exact ⟨0, by omega, rfl, Below.refl _ _⟩
        case round =>
          obtain ⟨i, hi, rfl, hbr⟩ := hrel
          obtain ⟨q0, q1, q2, q3, q4, _⟩ := cells5 (row_below HXW.out hbr)
          have hsr := hbr.size
          have HBR := Lib.hid hbr
          clear hbr
          by_cases hlt : (i : Int) < n
          · obtain ⟨V, hV⟩ : ∃ V, nthV L2 i = V := ⟨_, rfl⟩
            have c1 := N3.out a11 c11 wr i (HB614.out.trans (HBR.out.mono hs614)) (by omega) (HRW14.out.below HBR.out)
            try dsimp only at c1
            rw [hV] at c1
            by_cases hB : nthB L2 i = true
            · have hisb : isB C V = true := by rw [← hV]; exact (isB_iff HRISE.out _).2 (HL2M.out _ (nth_mem hB))
              rw [hB] at c1
              have HC1 := Lib.hid c1
              have HIS := Lib.hid hisb
              clear c1 hV hB hisb
              go_wp2_with fail
              refine HC1.out.mono ?_
              rintro e' wa ⟨rfl, hba⟩
              have hbr1 := HBR.out.trans (hba.mono hsr)
              obtain ⟨q0, q1, q2, q3, q4, _⟩ := cells5 (row_below HXF.out hbr1)
              have c2 := I4.out a13 c13 wa V (HB614.out.trans (hbr1.mono hs614)) (HRF14.out.below hbr1)
              try dsimp only at c2
              rw [HIS.out] at c2
              have HC2 := Lib.hid c2
              have HBR1 := Lib.hid hbr1
              clear hba hbr1 c2
              go_wp2_with fail
              refine HC2.out.mono ?_
              rintro e' wb ⟨rfl, hbb⟩
              have HBR2 := Lib.hid (HBR1.out.trans (hbb.mono HBR1.out.size))
              clear hbb
              go_wp2
              go_roundw
              case rel => exact ⟨i + 1, by omega, by simp, HBR2.out⟩
              case measure => simp [intOf]; omega
            · have hB' : nthB L2 i = false := by simpa using hB
              rw [hB'] at c1
              have HC1 := Lib.hid c1
              clear c1 hV hB hB'
              go_wp2_with fail
              refine HC1.out.mono ?_
              rintro e' wq ⟨rfl, hba⟩
              have HF := Lib.hid (HBW6.out.trans ((HB614.out.trans ((HBR.out.trans (hba.mono hsr)).mono hs614)).mono hs6))
              clear hba
              go_wp2
              go_ret
              exact ⟨rfl, HF.out⟩
          · have HF := Lib.hid (HBW6.out.trans ((HB614.out.trans (HBR.out.mono hs614)).mono hs6))
            go_wp2
            go_ret
            exact ⟨rfl, HF.out⟩
      · clear l4'
        go_wp2_with fail
        refine (OW.out w10 HB610.out).mono ?_
        rintro e' w11 ⟨v11, rfl, hr11, hb11⟩
        obtain ⟨a11, c11, rfl⟩ := hr11.shape
        try dsimp only at hr11 ⊢
        have hx11 := row_below (row_below HX6.out HB610.out) hb11
        have hb611 := HB610.out.trans (hb11.mono HB610.out.size)
        have HX11 := Lib.hid hx11
        have HB611 := Lib.hid hb611
        have HR11 := Lib.hid hr11
        clear hr11 hb11 hx11 hb611 HB610
        have hs611 := HB611.out.size
        by_cases h50 : 50 < r.ev
        · have hbf := HBW6.out.trans ((HB611.out.trans ((Below.refl _ w11).alloc (Nat.le_refl _) (.cells #[.string r.fq, .int .i64 r.ev, .slice a11 r.ds.length c11, .int .i64 n, .int .i64 (-1)] 24) |>.mono hs611)).mono hs6)
          have HBF := Lib.hid hbf
          clear hbf
          go_wp2
          go_ret
          exact ⟨rfl, HBF.out⟩
        have hB12 : Below w11.heap.size w11 (w11.alloc (.cells #[.string r.fq, .int .i64 (2 * r.ev), .slice a11 r.ds.length c11, .int .i64 n, .int .i64 (-1)] 24)) := (Below.refl _ w11).alloc (Nat.le_refl _) _
        have hx12 := heap_new w11 (.cells #[.string r.fq, .int .i64 (2 * r.ev), .slice a11 r.ds.length c11, .int .i64 n, .int .i64 (-1)] 24)
        have hb612 := HB611.out.trans (hB12.mono hs611)
        obtain ⟨q0, q1, q2, q3, q4, _⟩ := cells5 (row_below HX11.out hB12)
        have hr12 := HR11.out.below hB12
        have HB612 := Lib.hid hb612
        have HX12 := Lib.hid hx12
        have HR12 := Lib.hid hr12
        clear hB12 hx12 hb612 hr12 HB611 HX11 HR11
        go_wp2_with fail
        generalize w11.alloc (.cells #[.string r.fq, .int .i64 (2 * r.ev), .slice a11 r.ds.length c11, .int .i64 n, .int .i64 (-1)] 24) = w12 at *
        refine (OW.out w12 HB612.out).mono ?_
        rintro e' w13 ⟨v13, rfl, hr13, hb13⟩
        obtain ⟨a13, c13, rfl⟩ := hr13.shape
        try dsimp only at hr13 ⊢
        have hb613 := HB612.out.trans (hb13.mono HB612.out.size)
        have hx13 := row_below HX12.out hb13
        have hrw13 := HR12.out.below hb13
        have HB613 := Lib.hid hb613
        have HX13 := Lib.hid hx13
        have HRW := Lib.hid hrw13
        have HR13 := Lib.hid hr13
        clear hr13 hb13 hb613 hx13 hrw13 HB612 HX12 HR12
        go_wp2_with fail
        have hB14 : Below w13.heap.size w13 (w13.alloc (.cells #[.string r.fq, .int .i64 r.ev, .slice a13 r.ds.length c13, .int .i64 0, .int .i64 (-1)] 24)) := (Below.refl _ w13).alloc (Nat.le_refl _) _
        have hx14 := heap_new w13 (.cells #[.string r.fq, .int .i64 r.ev, .slice a13 r.ds.length c13, .int .i64 0, .int .i64 (-1)] 24)
        generalize w13.alloc (.cells #[.string r.fq, .int .i64 r.ev, .slice a13 r.ds.length c13, .int .i64 0, .int .i64 (-1)] 24) = w14 at *
        have hb614 := HB613.out.trans (hB14.mono HB613.out.size)
        have HB614 := Lib.hid hb614
        have HXW := Lib.hid (row_below HX13.out hB14)
        have HXF := Lib.hid hx14
        have HRW14 := Lib.hid (HRW.out.below hB14)
        have HRF14 := Lib.hid (HR13.out.below hB14)
        have hs614 := hb614.size
        clear hB14 hx14 hb614 HB613 HX13 HRW HR13
        go_loopw [19] (fun p wr => ∃ i : Nat, (i : Int) ≤ n ∧ p = .int .i64 (i : Int) ∧ Below w14.heap.size w14 wr) (fun p _ => (n - intOf p).toNat)
        case atStart => exact ⟨0, by omega, rfl, Below.refl _ _⟩
        case round =>
          obtain ⟨i, hi, rfl, hbr⟩ := hrel
          obtain ⟨q0, q1, q2, q3, q4, _⟩ := cells5 (row_below HXW.out hbr)
          have hsr := hbr.size
          have HBR := Lib.hid hbr
          clear hbr
          by_cases hlt : (i : Int) < n
          · obtain ⟨V, hV⟩ : ∃ V, nthV L2 i = V := ⟨_, rfl⟩
            have c1 := N3.out a11 c11 wr i (HB614.out.trans (HBR.out.mono hs614)) (by omega) (HRW14.out.below HBR.out)
            try dsimp only at c1
            rw [hV] at c1
            by_cases hB : nthB L2 i = true
            · have hisb : isB C V = true := by rw [← hV]; exact (isB_iff HRISE.out _).2 (HL2M.out _ (nth_mem hB))
              rw [hB] at c1
              have HC1 := Lib.hid c1
              have HIS := Lib.hid hisb
              clear c1 hV hB hisb
              go_wp2_with fail
              refine HC1.out.mono ?_
              rintro e' wa ⟨rfl, hba⟩
              have hbr1 := HBR.out.trans (hba.mono hsr)
              obtain ⟨q0, q1, q2, q3, q4, _⟩ := cells5 (row_below HXF.out hbr1)
              have c2 := I4.out a13 c13 wa V (HB614.out.trans (hbr1.mono hs614)) (HRF14.out.below hbr1)
              try dsimp only at c2
              rw [HIS.out] at c2
              have HC2 := Lib.hid c2
              have HBR1 := Lib.hid hbr1
              clear hba hbr1 c2
              go_wp2_with fail
              refine HC2.out.mono ?_
              rintro e' wb ⟨rfl, hbb⟩
              have HBR2 := Lib.hid (HBR1.out.trans (hbb.mono HBR1.out.size))
              clear hbb
              go_wp2
              go_roundw
              case rel => exact ⟨i + 1, by omega, by simp, HBR2.out⟩
              case measure => simp [intOf]; omega
            · have hB' : nthB L2 i = false := by simpa using hB
              rw [hB'] at c1
              have HC1 := Lib.hid c1
              clear c1 hV hB hB'
              go_wp2_with fail
              refine HC1.out.mono ?_
              rintro e' wq ⟨rfl, hba⟩
              have HF := Lib.hid (HBW6.out.trans ((HB614.out.trans ((HBR.out.trans (hba.mono hsr)).mono hs614)).mono hs6))
              clear hba
              go_wp2
              go_ret
              exact ⟨rfl, HF.out⟩
          · have HF := Lib.hid (HBW6.out.trans ((HB614.out.trans (HBR.out.mono hs614)).mono hs6))
            go_wp2
            go_ret
            exact ⟨rfl, HF.out⟩
end Cand
end Go.Proofs.YtkgmojaecaghmaaDoor
