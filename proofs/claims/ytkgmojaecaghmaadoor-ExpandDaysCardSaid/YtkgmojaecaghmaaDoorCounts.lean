/- The walk of the law ExpandCounts. -/
import Derived.Test.YtkgmojaecaghmaaDoorExpanded
namespace Go.Proofs.YtkgmojaecaghmaaDoor
open Go Go.RowKit Go.Shelf Lmd
namespace Cand
open Rul Day Er

theorem own_any (r : Ru) (v : Value) (w : World) (hr : Ints.Reads w v r.ds) (hl : r.ds.length ≤ 65536) :
    Calls Tryd.prog 14 #[.agg #[.string r.fq, .int .i64 r.ev, v, .int .i64 r.ct, .int .i64 r.un]] w fun e w' => ∃ v', e = .returned (.agg #[.string r.fq, .int .i64 r.ev, v', .int .i64 r.ct, .int .i64 r.un]) ∧ Ints.Reads w' v' r.ds ∧ Below w.heap.size w w' := ownRule_any r v w hr hl
theorem chk_any (r : Ru) (v : Value) (e : Nat → Addr) (w : World) (he : E4 w e) (hr : Ints.Reads w v r.ds) (hl : r.ds.length < 1000) :
    Calls Tryd.prog 15 #[.agg #[.string r.fq, .int .i64 r.ev, v, .int .i64 r.ct, .int .i64 r.un]] w fun e' w' => e' = .returned (errV e (bad r)) ∧ Below w.heap.size w w' := check_any r v e w he hr hl

theorem row_below {w w' : World} {b : Nat} {o : Obj} (h : w.heap[b]? = some o) (hb : Below w.heap.size w w') : w'.heap[b]? = some o := by
  rw [hb.block b (Array.getElem?_eq_some_iff.1 h).1]; exact h
theorem cells5 {w : World} {b : Nat} {a0 a1 a2 a3 a4 : Value} {t : TypeId} (h : w.heap[b]? = some (.cells #[a0, a1, a2, a3, a4] t (0, 0))) :
    w.cell? ⟨b, 0, none⟩ = some a0 ∧ w.cell? ⟨b, 1, none⟩ = some a1 ∧ w.cell? ⟨b, 2, none⟩ = some a2 ∧ w.cell? ⟨b, 3, none⟩ = some a3 ∧ w.cell? ⟨b, 4, none⟩ = some a4 ∧ (w.frozen? ⟨b, 3, none⟩ = false ∧ w.frozen? ⟨b, 4, none⟩ = false ∧ w.frozen? ⟨b, 1, none⟩ = false) := by
  simp [World.cell?, World.frozen?, h]

theorem bad_change {r : Ru} (ev ct un : Int) (h : bad r = 0) (hone : (r.fq.toList == [111, 110, 99, 101]) = false) (h1 : 0 ≤ ct ∧ ct ≤ 1000) (h2 : -1 ≤ un ∧ un ≤ 73048) (h3 : ct = 0 ∨ un = -1) (h4 : 1 ≤ ev ∧ ev ≤ 100) : bad { r with ev := ev, ct := ct, un := un } = 0 := by
  obtain ⟨a1, a2, a3, a4, a5⟩ := bad_parts h
  have ho : ¬ r.fq.toList = [111, 110, 99, 101] := by simpa using hone
  refine bad_none a1 ?_ ?_ a5
  · have : boundB { r with ev := ev, ct := ct, un := un } = true := by simp [boundB, inB, h1, h2, h4]
    rw [this]; exact a3
  · simp only [shapeB, ho, decide_false, Bool.not_false, Bool.true_or, Bool.true_and, Bool.and_eq_true] at a4 ⊢
    refine ⟨a4.1, ?_⟩
    simpa using h3
theorem nth_agg (start : Int) (r : Ru) (v : Value) (n : Int) (l : List Int) (e : Nat → Addr) (w : World) (hG : Gives start r v l w) (he : E4 w e) (hr : Ints.Reads w v r.ds) :
    Calls Tryd.prog 16 #[.int .i64 start, .agg #[.string r.fq, .int .i64 r.ev, v, .int .i64 r.ct, .int .i64 r.un], .int .i64 n] w fun e' w' => e' = .returned (.tuple #[.int .i64 (nthV l n), .bool (nthB l n)]) ∧ Below w.heap.size w w' := nth_any start r v n l e w hG he hr

set_option maxRecDepth 100000 in
set_option maxHeartbeats 4000000 in
theorem expandCounts_any (start : Int) (r : Ru) (v : Value) (n u : Int) (e : Nat → Addr) (w : World) (he : E4 w e) (hr : Ints.Reads w v r.ds) (hf : r.fq.size ≤ 9223372036854775807) (hd : r.ds.length ≤ 9223372036854775807) :
    Calls Tryd.prog 3 #[.int .i64 start, r.val v, .int .i64 n, .int .i64 u] w fun e' w' => e' = .returned (.bool true) ∧ Below w.heap.size w w' := by
  obtain ⟨a, cap, rfl⟩ := hr.shape
  have hlr := fun w => longRule_any r a cap w hf hd
  have hex := fun w => expanded_any e w
  have HLR := Lib.hid hlr
  have HE := Lib.hid he
  have HR := Lib.hid hr
  clear hlr hex he hr
  obtain ⟨w0, hw0⟩ : ∃ w0, w.alloc (.cells #[.string r.fq, .int .i64 r.ev, .slice a r.ds.length cap, .int .i64 r.ct, .int .i64 r.un] 24) = w0 := ⟨_, rfl⟩
  have hB0 : Below w.heap.size w w0 := by rw [← hw0]; exact (Below.refl _ w).alloc (Nat.le_refl _) _
  have hx0 := heap_new w (.cells #[.string r.fq, .int .i64 r.ev, .slice a r.ds.length cap, .int .i64 r.ct, .int .i64 r.un] 24)
  rw [hw0] at hx0
  have hz0 : w0.heap.size = w.heap.size + 1 := by rw [← hw0]; simp
  have HX0 := Lib.hid hx0
  go_enter Tryd.func3, Tryd.ntmps3
  simp only [Ru.val]
  go_wp2_with (go_at_call 12; refine (expanded_any e _ (HE.out.below hB0)).mono ?_; rintro e' w1 ⟨rfl, hb1⟩
               have k0 := cell_later hb1 (cell_of HX0.out (i := 0) rfl)
               have k1 := cell_later hb1 (cell_of HX0.out (i := 1) rfl)
               have k2 := cell_later hb1 (cell_of HX0.out (i := 2) rfl)
               have k3 := cell_later hb1 (cell_of HX0.out (i := 3) rfl)
               have k4 := cell_later hb1 (cell_of HX0.out (i := 4) rfl))
  by_cases hlong : 20 < r.fq.size ∨ 20 < r.ds.length
  · have h := HLR.out w1
    rw [if_pos hlong] at h
    refine h.mono ?_
    rintro e' w2 ⟨rfl, hb2⟩
    have HBW := Lib.hid ((hB0.trans (hb1.mono (by omega))).trans (hb2.mono (by have := hb1.size; omega)))
    clear h
    go_wp2
    go_ret
    exact ⟨rfl, HBW.out⟩
  have h := HLR.out w1
  rw [if_neg hlong] at h
  refine h.mono ?_
  rintro e' w2 ⟨rfl, hb2⟩
  have hbw := (hB0.trans (hb1.mono (by omega))).trans (hb2.mono (by have := hb1.size; omega))
  have HBW := Lib.hid hbw
  replace k0 := cell_later hb2 k0
  replace k1 := cell_later hb2 k1
  replace k2 := cell_later hb2 k2
  replace k3 := cell_later hb2 k3
  replace k4 := cell_later hb2 k4
  have hE2 := HE.out.below hbw
  have hR2 := HR.out.below hbw
  have hs2 := hbw.size
  have HE2 := Lib.hid hE2
  have HR2 := Lib.hid hR2
  clear h HLR HE HR hb1 hb2 hB0 HX0 hw0 hx0 hbw hE2 hR2
  by_cases h1 : n < 1
  · go_wp2; go_ret; exact ⟨rfl, HBW.out⟩
  by_cases h2 : 60 < n
  · go_wp2; go_ret; exact ⟨rfl, HBW.out⟩
  by_cases h3 : u < start
  · go_wp2; go_ret; exact ⟨rfl, HBW.out⟩
  by_cases h4 : 73048 < u
  · go_wp2; go_ret; exact ⟨rfl, HBW.out⟩
  by_cases h5 : start < 0
  · go_wp2; go_ret; exact ⟨rfl, HBW.out⟩
  have hown := own_any r _ w2 HR2.out (by omega)
  have HOWN := Lib.hid hown
  clear hown
  go_wp2_with (go_at_call 14; refine HOWN.out.mono ?_; rintro e' w3 ⟨v3, rfl, hr3, hb3⟩; obtain ⟨a3, c3, rfl⟩ := hr3.shape)
  have hB4 : Below w3.heap.size w3 (w3.alloc (.cells #[.string r.fq, .int .i64 r.ev, .slice a3 r.ds.length c3, .int .i64 r.ct, .int .i64 r.un] 24)) := (Below.refl _ w3).alloc (Nat.le_refl _) _
  have hx4 := heap_new w3 (.cells #[.string r.fq, .int .i64 r.ev, .slice a3 r.ds.length c3, .int .i64 r.ct, .int .i64 r.un] 24)
  have hz4 : (w3.alloc (.cells #[.string r.fq, .int .i64 r.ev, .slice a3 r.ds.length c3, .int .i64 r.ct, .int .i64 r.un] 24)).heap.size = w3.heap.size + 1 := by simp
  generalize w3.alloc (.cells #[.string r.fq, .int .i64 r.ev, .slice a3 r.ds.length c3, .int .i64 r.ct, .int .i64 r.un] 24) = w4 at *
  have hE3 := HE2.out.below hb3
  have hck := chk_any r (.slice a3 r.ds.length c3) e w4 (hE3.below hB4) (hr3.below hB4) (by omega)
  have hs3 := hb3.size
  have hbw3 := HBW.out.trans (hb3.mono hs2)
  have HBW3 := Lib.hid hbw3
  have HB4 := Lib.hid hB4
  have HX4 := Lib.hid hx4
  have HR3 := Lib.hid hr3
  have HE3 := Lib.hid hE3
  have hsw3 := hbw3.size
  clear hB4 hx4 hr3 hE3 HBW HOWN k0 k1 k2 k3 k4 HE2 HR2 hbw3 hb3
  by_cases hbad : bad r = 0
  case neg =>
    obtain ⟨q, hq⟩ : ∃ q, bad r = q + 1 := ⟨bad r - 1, by omega⟩
    rw [hq] at hck
    refine hck.mono ?_
    rintro e' w5 ⟨rfl, hb5⟩
    have HB5 := Lib.hid hb5
    have hbf := (HBW3.out.trans (HB4.out.mono hsw3)).trans (hb5.mono (by omega))
    have HBF := Lib.hid hbf
    clear hb5 hbf hck
    simp only [errV, ev]
    go_wp2
    go_ret
    exact ⟨rfl, HBF.out⟩
  rw [hbad] at hck
  refine hck.mono ?_
  rintro e' w5 ⟨rfl, hb5⟩
  have hB5 : Below w3.heap.size w3 w5 := HB4.out.trans (hb5.mono (by omega))
  have hx5 := row_below HX4.out hb5
  have hbz : w3.heap.size < w5.heap.size := by have := hb5.size; omega
  have HB5 := Lib.hid hB5
  have HX5 := Lib.hid hx5
  obtain ⟨q0, q1, q2, q3, q4, f3, f4, _⟩ := cells5 hx5
  simp only [errV]
  clear hck hb5 hB5 hx5 HB4 HX4
  by_cases hone : r.fq.toList = [111, 110, 99, 101]
  · have hbf := HBW3.out.trans (HB5.out.mono hsw3)
    have HBF := Lib.hid hbf
    clear hbf
    go_wp2
    go_ret
    exact ⟨rfl, HBF.out⟩
  have hone' : (r.fq.toList == [111, 110, 99, 101]) = false := by simpa using hone
  clear hone
  go_wp2_with fail
  -- own, with no count and no end
  have hB6 : Below w3.heap.size w3 ((w5.setCell ⟨w3.heap.size, 3, none⟩ (.int .i64 0)).setCell ⟨w3.heap.size, 4, none⟩ (.int .i64 (-1))) := (HB5.out.setCell (p := ⟨w3.heap.size, 3, none⟩) (Nat.le_refl _) _).setCell (p := ⟨w3.heap.size, 4, none⟩) (Nat.le_refl _) _
  have hx6 : ((w5.setCell ⟨w3.heap.size, 3, none⟩ (.int .i64 0)).setCell ⟨w3.heap.size, 4, none⟩ (.int .i64 (-1))).heap[w3.heap.size]? = some (.cells #[.string r.fq, .int .i64 r.ev, .slice a3 r.ds.length c3, .int .i64 0, .int .i64 (-1)] 24 (0, 0)) :=
    row_set (row_set HX5.out 3 (.int .i64 0)) 4 (.int .i64 (-1))
  have hz6 : w3.heap.size < ((w5.setCell ⟨w3.heap.size, 3, none⟩ (.int .i64 0)).setCell ⟨w3.heap.size, 4, none⟩ (.int .i64 (-1))).heap.size := by simpa [World.setCell] using hbz
  generalize (w5.setCell ⟨w3.heap.size, 3, none⟩ (.int .i64 0)).setCell ⟨w3.heap.size, 4, none⟩ (.int .i64 (-1)) = w6 at *
  have hr6 := HR3.out.below hB6
  have HX6 := Lib.hid hx6
  have HB6 := Lib.hid hB6
  have HR6 := Lib.hid hr6
  clear hx6 hB6 hr6 HB5 HX5 q0 q1 q2 q3 q4 f3 f4
  refine (own_any { r with ct := 0, un := -1 } (.slice a3 r.ds.length c3) w6 HR6.out (by dsimp only; omega)).mono ?_
  rintro e' w7 ⟨v7, rfl, hr7, hb7⟩
  obtain ⟨a7, c7, rfl⟩ := hr7.shape
  dsimp only at hr7 ⊢
  have hx7 := row_below HX6.out hb7
  have hs7 := hb7.size
  have HB7 := Lib.hid hb7
  have HR7 := Lib.hid hr7
  have HX7 := Lib.hid hx7
  clear hb7 hr7 hx7
  have hB8 : Below w7.heap.size w7 (w7.alloc (.cells #[.string r.fq, .int .i64 r.ev, .slice a7 r.ds.length c7, .int .i64 n, .int .i64 (-1)] 24)) := (Below.refl _ w7).alloc (Nat.le_refl _) _
  have hx8 := heap_new w7 (.cells #[.string r.fq, .int .i64 r.ev, .slice a7 r.ds.length c7, .int .i64 n, .int .i64 (-1)] 24)
  obtain ⟨q0, q1, q2, q3, q4, _⟩ := cells5 (row_below HX7.out hB8)
  have HB8 := Lib.hid hB8
  have HX8 := Lib.hid hx8
  clear hB8 hx8
  go_wp2_with fail
  -- the rule with a count
  have hB8 := HB8.out
  have hx8 := HX8.out
  clear HB8 HX8 q0 q1 q2 q3 q4
  have hz8 : (w7.alloc (.cells #[.string r.fq, .int .i64 r.ev, .slice a7 r.ds.length c7, .int .i64 n, .int .i64 (-1)] 24)).heap.size = w7.heap.size + 1 := by simp
  generalize w7.alloc (.cells #[.string r.fq, .int .i64 r.ev, .slice a7 r.ds.length c7, .int .i64 n, .int .i64 (-1)] 24) = w8 at *
  refine (own_any { r with ct := 0, un := -1 } (.slice a3 r.ds.length c3) w8 ((HR6.out.below HB7.out).below hB8) (by dsimp only; omega)).mono ?_
  rintro e' w9 ⟨v9, rfl, hr9, hb9⟩
  obtain ⟨a9, c9, rfl⟩ := hr9.shape
  dsimp only at hr9 ⊢
  have hxa := row_below (row_below HX7.out hB8) hb9
  have hxb := row_below hx8 hb9
  have hra := ((HR6.out.below HB7.out).below hB8).below hb9
  have hrb := (HR7.out.below hB8).below hb9
  have hB9 : Below w3.heap.size w3 w9 := ((HB6.out.trans (HB7.out.mono (by omega))).trans (hB8.mono (by omega))).trans (hb9.mono (by omega))
  have hs9 := hb9.size
  have HB9 := Lib.hid hB9
  have HXA := Lib.hid hxa
  have HXB := Lib.hid hxb
  have HRA := Lib.hid hra
  have HRB := Lib.hid hrb
  have HRC := Lib.hid hr9
  clear hB8 hx8 hxa hxb hra hrb hB9 hb9 hr9 HB7 HB6 HR6 HR7 HX7 HX6
  go_wp2_with fail
  have hB10 : Below w9.heap.size w9 (w9.alloc (.cells #[.string r.fq, .int .i64 r.ev, .slice a9 r.ds.length c9, .int .i64 0, .int .i64 u] 24)) := (Below.refl _ w9).alloc (Nat.le_refl _) _
  have hxc := heap_new w9 (.cells #[.string r.fq, .int .i64 r.ev, .slice a9 r.ds.length c9, .int .i64 0, .int .i64 u] 24)
  generalize w9.alloc (.cells #[.string r.fq, .int .i64 r.ev, .slice a9 r.ds.length c9, .int .i64 0, .int .i64 u] 24) = w10 at *
  have hBw : Below w3.heap.size w3 w10 := HB9.out.trans (hB10.mono (by have := HB9.out.size; omega))
  have hE10 := HE3.out.below hBw
  have hBww := HBW3.out.trans (hBw.mono hsw3)
  obtain ⟨y, m, d, ha⟩ := Cal.at_exists start (by omega) (by omega)
  obtain ⟨p1, p2, p3, p4, p5⟩ := bad_parts hbad
  obtain ⟨⟨p6, p7⟩, _⟩ := bound_parts p2
  have hrise := cands_rise (start := start) (y := y) (m := m) (d := d) p6 p5 p3
  have g1 := gives_all start y m d { r with ct := 0, un := -1 } (.slice a3 r.ds.length c3) e w10 hE10 (bad_change r.ev 0 (-1) hbad hone' (by omega) (by omega) (by omega) ⟨p6, p7⟩) (by dsimp only; omega) ha
  have g2 := gives_all start y m d { r with ct := n, un := -1 } (.slice a7 r.ds.length c7) e w10 hE10 (bad_change r.ev n (-1) hbad hone' (by omega) (by omega) (by omega) ⟨p6, p7⟩) (by dsimp only; omega) ha
  have g3 := gives_all start y m d { r with ct := 0, un := u } (.slice a9 r.ds.length c9) e w10 hE10 (bad_change r.ev 0 u hbad hone' (by omega) (by omega) (by omega) ⟨p6, p7⟩) (by dsimp only; omega) ha
  dsimp only at g1 g2 g3
  rw [cands_other] at g1 g2 g3
  obtain ⟨C, hC⟩ : ∃ C, cands start y m d r = C := ⟨_, rfl⟩
  rw [hC] at g1 g2 g3 hrise
  rw [daysOf_free] at g1
  have n1 : ∀ W' k, Below w10.heap.size w10 W' → Calls Tryd.prog 16 #[.int .i64 start, .agg #[.string r.fq, .int .i64 r.ev, .slice a3 r.ds.length c3, .int .i64 0, .int .i64 (-1)], .int .i64 k] W' fun e' w' => e' = .returned (.tuple #[.int .i64 (nthV C k), .bool (nthB C k)]) ∧ Below W'.heap.size W' w' :=
    fun W' k hb => nth_agg start { r with ct := 0, un := -1 } _ k C e W' (g1.below hb) (hE10.below hb) ((HRA.out.below hB10).below hb)
  have n2 : ∀ W' k, Below w10.heap.size w10 W' → Calls Tryd.prog 16 #[.int .i64 start, .agg #[.string r.fq, .int .i64 r.ev, .slice a7 r.ds.length c7, .int .i64 n, .int .i64 (-1)], .int .i64 k] W' fun e' w' => e' = .returned (.tuple #[.int .i64 (nthV (daysOf n (-1) C) k), .bool (nthB (daysOf n (-1) C) k)]) ∧ Below W'.heap.size W' w' :=
    fun W' k hb => nth_agg start { r with ct := n, un := -1 } _ k _ e W' (g2.below hb) (hE10.below hb) ((HRB.out.below hB10).below hb)
  have n3 : ∀ W' k, Below w10.heap.size w10 W' → Calls Tryd.prog 16 #[.int .i64 start, .agg #[.string r.fq, .int .i64 r.ev, .slice a9 r.ds.length c9, .int .i64 0, .int .i64 u], .int .i64 k] W' fun e' w' => e' = .returned (.tuple #[.int .i64 (nthV (daysOf 0 u C) k), .bool (nthB (daysOf 0 u C) k)]) ∧ Below W'.heap.size W' w' :=
    fun W' k hb => nth_agg start { r with ct := 0, un := u } _ k _ e W' (g3.below hb) (hE10.below hb) ((HRC.out.below hB10).below hb)
  have HN1 := Lib.hid n1
  have HN2 := Lib.hid n2
  have HN3 := Lib.hid n3
  have HXA' := Lib.hid (row_below HXA.out hB10)
  have HXB' := Lib.hid (row_below HXB.out hB10)
  have HXC := Lib.hid hxc
  have HBWW := Lib.hid hBww
  have HRISE := Lib.hid hrise
  have hsz := hBww.size
  have hend := counts_end (c := C) (n := n) (by omega)
  have HEND := Lib.hid hend
  clear n1 n2 n3 g1 g2 g3 hxc hBw hBww hrise hend hE10 ha hC p1 p2 p3 p4 p5 p6 p7 HRA HRB HRC HXA HXB HR3 HE3 HB9 HBW3 hB10 hbad hone'
  go_loopw [13] (fun p wr => ∃ i : Nat, (i : Int) ≤ n ∧ p = .int .i64 (i : Int) ∧ Below w10.heap.size w10 wr) (fun p _ => (n - intOf p).toNat)
  case atStart => exact ⟨0, by omega, rfl, Below.refl _ _⟩
  case round =>
    obtain ⟨i, hi, rfl, hbr⟩ := hrel
    obtain ⟨q0, q1, q2, q3, q4, _⟩ := cells5 (row_below HXA'.out hbr)
    have hsr := hbr.size
    have HBR := Lib.hid hbr
    clear hbr
    by_cases hlt : (i : Int) < n
    · obtain ⟨e1, e2, e3, e4⟩ := counts_round HRISE.out (n := n) (u := u) (by omega) (by omega) hlt
      obtain ⟨V, hV⟩ : ∃ V, nthV C i = V := ⟨_, rfl⟩
      obtain ⟨X, hX⟩ : ∃ X, nthV (daysOf 0 u C) i = X := ⟨_, rfl⟩
      obtain ⟨B, hB⟩ : ∃ B, nthB C i = B := ⟨_, rfl⟩
      have c1 := fun W' => HN1.out W' i
      have c2 := fun W' => HN2.out W' i
      have c3' := fun W' => HN3.out W' i
      rw [hV, hB] at c1
      rw [← e1, ← e2, hV, hB] at c2
      rw [e3, hX, hV, hB] at c3'
      rw [e3, hX, hV, hB] at e4
      have HC1 := Lib.hid c1
      have HC2 := Lib.hid c2
      have HC3 := Lib.hid c3'
      clear c1 c2 c3' e1 e2 e3 hV hX hB
      go_wp2_with fail
      refine (HC1.out wr HBR.out).mono ?_
      rintro e' wa ⟨rfl, hba⟩
      have hbr1 := HBR.out.trans (hba.mono hsr)
      obtain ⟨q0, q1, q2, q3, q4, _⟩ := cells5 (row_below HXB'.out hbr1)
      have HBR1 := Lib.hid hbr1
      clear hba hbr1
      go_wp2_with fail
      refine (HC2.out wa HBR1.out).mono ?_
      rintro e' wb ⟨rfl, hbb⟩
      have hbr2 := HBR1.out.trans (hbb.mono HBR1.out.size)
      obtain ⟨q0, q1, q2, q3, q4, _⟩ := cells5 (row_below HXC.out hbr2)
      have HBR2 := Lib.hid hbr2
      clear hbb hbr2
      go_wp2_with fail
      refine (HC3.out wb HBR2.out).mono ?_
      rintro e' wc ⟨rfl, hbc⟩
      have HBR3 := Lib.hid (HBR2.out.trans (hbc.mono HBR2.out.size))
      clear hbc HC1 HC2 HC3
      cases B with
      | false =>
        simp only [Bool.false_and]
        go_wp2
        go_roundw
        case rel => exact ⟨i + 1, by omega, by simp, HBR3.out⟩
        case measure => simp [intOf]; omega
      | true =>
        by_cases hvu : V ≤ u
        · obtain rfl := e4 (by simp [hvu])
          simp only [hvu, decide_true, Bool.and_true]
          clear e4
          go_wp2
          go_roundw
          case rel => exact ⟨i + 1, by omega, by simp, HBR3.out⟩
          case measure => simp [intOf]; omega
        · simp only [hvu, decide_false, Bool.and_false]
          clear e4
          go_wp2
          go_roundw
          case rel => exact ⟨i + 1, by omega, by simp, HBR3.out⟩
          case measure => simp [intOf]; omega
    · obtain ⟨q0, q1, q2, q3, q4, _⟩ := cells5 (row_below HXB'.out HBR.out)
      have c2 := HN2.out wr n HBR.out
      rw [HEND.out] at c2
      have HC2 := Lib.hid c2
      clear c2
      go_wp2_with fail
      refine HC2.out.mono ?_
      rintro e' wa ⟨rfl, hba⟩
      have HF := Lib.hid (HBWW.out.trans ((HBR.out.trans (hba.mono hsr)).mono hsz))
      clear hba
      go_wp2
      go_ret
      exact ⟨rfl, HF.out⟩
end Cand
end Go.Proofs.YtkgmojaecaghmaaDoor
