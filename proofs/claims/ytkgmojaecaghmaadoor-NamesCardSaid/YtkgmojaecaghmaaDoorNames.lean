/- The walk of the law Names. -/
import Derived.Test.YtkgmojaecaghmaaDoorDayDates
import Derived.Test.YtkgmojaecaghmaaDoorInts
namespace Go.Proofs.YtkgmojaecaghmaaDoor
open Go.RowKit Lmd
namespace Day
open Er

/-- the numbers that the law names -/
abbrev nums : List Int := [2000, 2199, 73048, 100, 1000, 1000, 60, 20, 12, 40, 60, 1000, 10000, 40, 20, 1099511627776, 1048576, 80, 16]
abbrev numsV : Array Value := #[.int .i64 2000, .int .i64 2199, .int .i64 73048, .int .i64 100, .int .i64 1000, .int .i64 1000, .int .i64 60, .int .i64 20, .int .i64 12, .int .i64 40, .int .i64 60, .int .i64 1000, .int .i64 10000, .int .i64 40, .int .i64 20, .int .i64 1099511627776, .int .i64 1048576, .int .i64 80, .int .i64 16]
theorem nums_at (i : Nat) (h : i < 19) : numsV[i]? = some (.int .i64 (Ints.el nums i)) := by
  have : i = 0 ∨ i = 1 ∨ i = 2 ∨ i = 3 ∨ i = 4 ∨ i = 5 ∨ i = 6 ∨ i = 7 ∨ i = 8 ∨ i = 9 ∨ i = 10 ∨ i = 11 ∨ i = 12 ∨ i = 13 ∨ i = 14 ∨ i = 15 ∨ i = 16 ∨ i = 17 ∨ i = 18 := by omega
  rcases this with rfl | rfl | rfl | rfl | rfl | rfl | rfl | rfl | rfl | rfl | rfl | rfl | rfl | rfl | rfl | rfl | rfl | rfl | rfl <;> rfl
theorem heap_new (w : World) (o : Obj) : (w.alloc o).heap[w.heap.size]? = some o := by show (w.heap.push o)[w.heap.size]? = _; simp
theorem nums_reads (W : World) (B : Nat) (h : W.heap[B]? = some (.cells numsV 3)) : Ints.Reads W (.slice (some ⟨B, 0, none⟩) 19 19) nums :=
  Or.inr ⟨B, 0, 19, rfl, fun i hi => by
    simp only [World.cell?, h, Nat.zero_add]
    exact nums_at i hi⟩

set_option maxRecDepth 100000 in
set_option maxHeartbeats 2000000 in
theorem names_any (e : Nat → Addr) (w : World) (he : Errs w e) :
    Calls Tryd.prog 4 #[] w fun e' w' => e' = .returned (.bool true) ∧ Below w.heap.size w w' := by
  have r1 := nums_reads ((w.alloc (.cells numsV 3)).alloc (.cells numsV 3)) w.heap.size (by rw [Below.heap_alloc _ _ _ (by simp)]; exact heap_new w _)
  have r2 := nums_reads ((w.alloc (.cells numsV 3)).alloc (.cells numsV 3)) (w.heap.size + 1) (by have := heap_new (w.alloc (.cells numsV 3)) (.cells numsV 3); rwa [World.size_alloc] at this)
  have hS := Ints.sameInts_any _ _ _ nums nums r1 r2 (by decide) (by decide)
  rw [decide_eq_true rfl] at hS
  have HS := Lib.hid hS
  clear hS r1 r2
  go_enter Tryd.func4, Tryd.ntmps4
  go_wp2_with fail
  refine HS.out.mono ?_; rintro e' w1 ⟨rfl, q, rfl⟩
  have hb1 : Below w.heap.size w (((w.alloc (.cells numsV 3)).alloc (.cells numsV 3)).drewN q) := below_draw (((Below.refl _ w).alloc (Nat.le_refl _) _).alloc (by simp) _) q
  have he1 := he.below hb1
  generalize ((w.alloc (.cells numsV 3)).alloc (.cells numsV 3)).drewN q = w1 at *
  have g0 := he1.s0.cell
  have g1 := he1.s1.cell
  have g2 := he1.s2.cell
  have g3 := he1.s3.cell
  have g4 := he1.s4.cell
  have g5 := he1.s5.cell
  have g6 := he1.s6.cell
  have g7 := he1.s7.cell
  have g8 := he1.s8.cell
  have g9 := he1.s9.cell
  have g10 := he1.s10.cell
  clear HS he
  go_wp2_with fail
  have hcell := evs_cell e w1
  have hE : Errs (w1.alloc (.cells (evs e) 29)) e := he1.below ((Below.refl _ w1).alloc (Nat.le_refl _) _)
  have hbW : Below w.heap.size w (w1.alloc (.cells (evs e) 29)) := hb1.alloc hb1.size _
  have hlt : w1.heap.size < (w1.alloc (.cells (evs e) 29)).heap.size := by simp
  clear g0 g1 g2 g3 g4 g5 g6 g7 g8 g9 g10 he1 hb1
  generalize w1.alloc (.cells (evs e) 29) = W at *
  generalize w1.heap.size = B at *
  go_loopw [4] (fun i wr => ∃ j : Nat, j ≤ 11 ∧ i = .int .i64 j ∧ Below W.heap.size W wr) (fun i _ => 11 - (intOf i).toNat)
  case atStart => exact ⟨0, Nat.zero_le _, rfl, Below.refl _ _⟩
  case round =>
    obtain ⟨j, hj, rfl, hbr⟩ := hrel
    by_cases hj1 : j < 11
    · have hc := cell_later hbr (hcell j hj1)
      have hj2 : (j : Int) < 11 := by omega
      have he2 := hE.below hbr
      have hbo : Below wr.heap.size wr (wr.alloc (.cells #[.int .i64 7, ev (e j)] 40)) := (Below.refl _ _).alloc (Nat.le_refl _) _
      have hF := code_fault e j hj1 ⟨wr.heap.size, 0, none⟩ 7 _ (he2.below hbo) (by simp) (by simp)
      have HF := Lib.hid hF
      have hc1 := cell_later hbo hc
      clear hF hcell
      go_wp2_with fail
      refine HF.out.mono ?_; rintro e' w2 ⟨rfl, hb2⟩
      have hc2 := cell_later hb2 hc1
      have he3 := (he2.below hbo).below hb2
      have hb3 := below2 (below2 hbr hbo) hb2
      clear hc hc1 hbo he2 hb2 HF
      go_wp2_with fail
      refine (coded_sent e j hj1 _ rfl _ he3).mono ?_; rintro e' w3 ⟨rfl, hb4⟩
      have hb5 := below2 hb3 hb4
      clear hc2 he3
      go_wp2
      go_roundw
      case rel => exact ⟨j + 1, by omega, by go_num, hb5⟩
      case measure => simp [intOf]; omega
    · obtain rfl : j = 11 := by omega
      have he2 := hE.below hbr
      have hb6 := hbW.trans (hbr.mono hbW.size)
      clear hcell hbr hE
      go_wp2_with (go_at_call 20; go_in)
      have hbn := (Below.refl wr.heap.size wr).alloc (Nat.le_refl _) (.cells #[.string ⟨#[97, 110, 111, 116, 104, 101, 114, 32, 111, 110, 101]⟩] 82)
      have hx : ∀ k, k < 11 → (⟨wr.heap.size, 0, none⟩ : Addr) ≠ e k := fun k hk hcon => by
        obtain ⟨c, t, hr⟩ := he2.row k hk
        rw [← hcon, Array.getElem?_eq_none (Nat.le_refl _)] at hr
        cases hr
      refine (code_other e ⟨wr.heap.size, 0, none⟩ _ _ _ (he2.below hbn) hx (heap_new wr _)).mono ?_; rintro e' w2 ⟨rfl, hb2⟩
      have hb3 := below2 (below2 hb6 hbn) hb2
      go_wp2_with fail
      refine (coded_nil _).mono ?_; rintro e' w3 ⟨rfl, rfl⟩
      go_wp2
      go_ret
      exact ⟨rfl, hb3⟩
end Day
end Go.Proofs.YtkgmojaecaghmaaDoor
