/- OwnRule, LongRule. -/
import Derived.Test.YtmlndamkcipebaaDoorRule
import Derived.Test.YtmlndamkcipebaaDoorDayText
import Derived.Maps.AppendAt
import Derived.OwnWalk
namespace Go.Proofs.YtmlndamkcipebaaDoor
open Go Go.RowKit Lmd
namespace Rul
open Day

/-- the cells of a list of numbers -/
def cellsOf (xs : List Int) : List Value := (List.range xs.length).map fun i => .int .i64 (Ints.el xs i)
theorem cellsOf_get {xs : List Int} {j : Nat} (h : j < xs.length) : (cellsOf xs)[j]? = some (.int .i64 (Ints.el xs j)) := by
  simp [cellsOf, h]
theorem cellsOf_at {xs : List Int} {j : Nat} {u : Value} (h : (cellsOf xs)[j]? = some u) : j < xs.length ∧ u = .int .i64 (Ints.el xs j) := by
  have hl : j < (cellsOf xs).length := (List.getElem?_eq_some_iff.1 h).1
  have hj : j < xs.length := by simpa [cellsOf] using hl
  rw [cellsOf_get hj] at h
  exact ⟨hj, (Option.some.inj h).symm⟩
theorem cellsOf_one {xs : List Int} (u : Value) (h : u ∈ cellsOf xs) : u.oneCell' = true := by
  simp only [cellsOf, List.mem_map] at h
  obtain ⟨_, _, rfl⟩ := h
  rfl
theorem cellsOf_len (xs : List Int) : (cellsOf xs).length = xs.length := by simp [cellsOf]
theorem int_info : (Tryd.prog.info? 3).map (fun i => (i.zero, i.size, i.bytes)) = some (some (.int .i64 0), 1, 8) := by kernel_rfl
theorem reads_own {w : World} {base : Nat} {e : TypeId} {v : Value} {xs : List Int} (h : w.ownsRow base e 1 v xs.length (cellsOf xs)) : Ints.Reads w v xs := by
  rcases h.2 with ⟨rfl, h0⟩ | ⟨g, cap, cur, rfl, _, hh, _, _, _, ht⟩
  · exact Or.inl ⟨List.length_eq_zero_iff.1 h0, none, 0, rfl⟩
  · refine Or.inr ⟨g, 0, cap, rfl, fun i hi => ?_⟩
    have h1 := cellsOf_get hi
    rw [← ht, Nat.mul_one, List.getElem?_take_of_lt hi] at h1
    simp only [World.cell?, hh, Nat.zero_add]
    simpa using h1

theorem row_set {w : World} {g : Nat} {t : TypeId} {cs : Array Value} {fr : Nat × Nat} (h : w.heap[g]? = some (.cells cs t fr)) (i : Nat) (u : Value) : (w.setCell ⟨g, i, none⟩ u).heap[g]? = some (.cells (cs.setIfInBounds i u) t fr) := by
  simp [World.setCell, Array.getElem?_modify, h]
theorem row_far {w : World} {g : Nat} {p : Addr} {u : Value} (h : g ≠ p.block) : (w.setCell p u).heap[g]? = w.heap[g]? := Below.heap_setCell _ _ _ _ h
theorem own_far {w : World} {base n : Nat} {e : TypeId} {v u : Value} {xs : List Value} {p : Addr} (h : w.ownsRow base e 1 v n xs) (hp : p.block < base) : (w.setCell p u).ownsRow base e 1 v n xs := by
  refine ⟨h.1, ?_⟩
  rcases h.2 with h2 | ⟨g, cap, cur, h1, h2, hh, hr⟩
  · exact .inl h2
  · exact .inr ⟨g, cap, cur, h1, h2, (row_far (by omega)).trans hh, hr⟩
/-- a nil slice behind a nil one, whatever its capacity -/
theorem wpList_append_nil {P : Program} {w : World} {ops : Array Oper} {rest : List Oper} {o : Oper} {a : Act} {Q : Exit → Act → World → Prop} (hgd : o.guard = none) (s x : Operand) (t : TypeId)
    (ho : o.op = .call { callee := .builtin .append, args := #[s, x], argTypes := #[t, t] }) (e : TypeId) (i : TypeInfo) (size : Nat) (ht : P.underlying t = some (.slice e)) (hi : P.info? e = some i) (_hz : i.size = size)
    (c : Nat) (hs : a.eval s = .slice none 0 0) (hx : a.eval x = .slice none 0 c)
    (h : wpList P ops Q rest (a.put o.dst (.slice none 0 0)) w) : wpList P ops Q (o :: rest) a w := by
  refine wpList_plain hgd fun K hK => ?_
  have hrun : (Builtin.append_ #[t, t] o.type #[.slice none 0 0, .slice none 0 c]).run P w = .ok (.slice none 0 0) w := by
    simp [Builtin.append_, run_underlying ht, sizeOf, typeInfo, hi, Builtin.lenOf, Builtin.firstCells]
  unfold Oper.wp
  simp [execOp, ho, resolve, invoke, builtin, hs, hx, hrun, Result.andThen]
  exact hK _ _ h
theorem longRule_any (r : Ru) (a : Option Addr) (cap : Nat) (w : World) (hf : r.fq.size ≤ 9223372036854775807) (hd : r.ds.length ≤ 9223372036854775807) :
    Calls Tryd.prog 39 #[r.val (.slice a r.ds.length cap)] w fun e w' => e = .returned (.int .i64 (if 20 < r.fq.size ∨ 20 < r.ds.length then 1 else 0)) ∧ Below w.heap.size w w' := by
  obtain ⟨fq, ev, ct, un, ds⟩ := r
  simp only [Ru.val] at *
  by_cases h1 : (20 : Int) < fq.size
  · go_enter Tryd.func39, Tryd.ntmps39
    go_wp2
    go_ret
    exact ⟨rfl, (Below.refl _ w).alloc (Nat.le_refl _) _⟩
  · by_cases h2 : (20 : Int) < ds.length
    · go_enter Tryd.func39, Tryd.ntmps39
      go_wp2
      go_ret
      exact ⟨rfl, (Below.refl _ w).alloc (Nat.le_refl _) _⟩
    · go_enter Tryd.func39, Tryd.ntmps39
      go_wp2
      go_ret
      exact ⟨rfl, (Below.refl _ w).alloc (Nat.le_refl _) _⟩

set_option maxRecDepth 100000 in
set_option maxHeartbeats 1000000 in
theorem ownRule_any (r : Ru) (v : Value) (w : World) (hr : Ints.Reads w v r.ds) (hl : r.ds.length ≤ 65536) :
    Calls Tryd.prog 40 #[r.val v] w fun e w' => ∃ v', e = .returned (r.val v') ∧ Ints.Reads w' v' r.ds ∧ Below w.heap.size w w' := by
  obtain ⟨fq, ev, ct, un, ds⟩ := r
  obtain ⟨a, cap, rfl⟩ := hr.shape
  obtain ⟨i0, hi0, hz0, hz1, hz2⟩ := info_parts int_info
  simp only [Ru.val] at *
  have HR := Lib.hid hr
  obtain ⟨W, hW⟩ : ∃ W, (w.alloc (.cells #[.string fq, .int .i64 ev, .slice a ds.length cap, .int .i64 ct, .int .i64 un] 67)).alloc (.cells #[.string ⟨#[]⟩, .int .i64 0, .slice none 0 0, .int .i64 0, .int .i64 0] 67) = W := ⟨_, rfl⟩
  have hbW : Below w.heap.size w W := by rw [← hW]; exact ((Below.refl _ w).alloc (Nat.le_refl _) _).alloc (by simp) _
  have hsW : W.heap.size = w.heap.size + 2 := by rw [← hW]; simp
  have hB1 : W.heap[w.heap.size]? = some (.cells #[.string fq, .int .i64 ev, .slice a ds.length cap, .int .i64 ct, .int .i64 un] 67) := by rw [← hW, Below.heap_alloc _ _ _ (by simp)]; exact heap_new w _
  have hB2 : W.heap[w.heap.size + 1]? = some (.cells #[.string ⟨#[]⟩, .int .i64 0, .slice none 0 0, .int .i64 0, .int .i64 0] 67) := by
    rw [← hW]; have := heap_new (w.alloc (.cells #[.string fq, .int .i64 ev, .slice a ds.length cap, .int .i64 ct, .int .i64 un] 67)) (.cells #[.string ⟨#[]⟩, .int .i64 0, .slice none 0 0, .int .i64 0, .int .i64 0] 67); rwa [World.size_alloc] at this
  have HB2 := Lib.hid hB2
  have HW := Lib.hid hW
  have HBW := Lib.hid hbW
  have HSW := Lib.hid hsW
  have HB1 := Lib.hid hB1
  clear hr hW hbW hsW hB1 hB2
  cases a with
  | none =>
    have hd : ds = [] := by
      rcases HR.out with ⟨h, _⟩ | ⟨b, off, cap', h, _⟩
      · exact h
      · cases h
    subst hd
    have hB1 := HB1.out
    have hB2 := HB2.out
    have k0 : W.cell? ⟨w.heap.size, 0, none⟩ = some (.string fq) := cell_of hB1 rfl
    have k1 : W.cell? ⟨w.heap.size, 1, none⟩ = some (.int .i64 ev) := cell_of hB1 rfl
    have k2 : W.cell? ⟨w.heap.size, 2, none⟩ = some (.slice none 0 cap) := cell_of hB1 rfl
    have k3 : W.cell? ⟨w.heap.size, 3, none⟩ = some (.int .i64 ct) := cell_of hB1 rfl
    have k4 : W.cell? ⟨w.heap.size, 4, none⟩ = some (.int .i64 un) := cell_of hB1 rfl
    have f2 : W.frozen? ⟨w.heap.size, 2, none⟩ = false := by simp [World.frozen?, hB1]
    have q0 : W.cell? ⟨w.heap.size + 1, 0, none⟩ = some (.string ⟨#[]⟩) := cell_of hB2 rfl
    have q1 : W.cell? ⟨w.heap.size + 1, 1, none⟩ = some (.int .i64 0) := cell_of hB2 rfl
    have q2 : W.cell? ⟨w.heap.size + 1, 2, none⟩ = some (.slice none 0 0) := cell_of hB2 rfl
    have q3 : W.cell? ⟨w.heap.size + 1, 3, none⟩ = some (.int .i64 0) := cell_of hB2 rfl
    have q4 : W.cell? ⟨w.heap.size + 1, 4, none⟩ = some (.int .i64 0) := cell_of hB2 rfl
    have g0 : W.frozen? ⟨w.heap.size + 1, 0, none⟩ = false := by simp [World.frozen?, hB2]
    have g1 : W.frozen? ⟨w.heap.size + 1, 1, none⟩ = false := by simp [World.frozen?, hB2]
    have g2 : W.frozen? ⟨w.heap.size + 1, 2, none⟩ = false := by simp [World.frozen?, hB2]
    have g3 : W.frozen? ⟨w.heap.size + 1, 3, none⟩ = false := by simp [World.frozen?, hB2]
    have g4 : W.frozen? ⟨w.heap.size + 1, 4, none⟩ = false := by simp [World.frozen?, hB2]
    clear hB1 hB2
    simp only [List.length_nil] at *
    go_enter Tryd.func40, Tryd.ntmps40
    go_wp2_with (at_builtin
                 refine wpList_append_nil rfl (.tmp 4) (.tmp 6) _ rfl 3 i0 1 Tryd.underlying44 hi0 hz1 cap rfl rfl ?_
                 change wpList _ _ _ _ _ (World.alloc _ _)
                 rw [HW.out])
    have hfin := row_set (row_set (row_set (row_set (row_set ((row_far (p := ⟨w.heap.size, 2, none⟩) (u := .slice none 0 0) (by show w.heap.size + 1 ≠ w.heap.size; omega)).trans HB2.out) 0 (.string fq)) 1 (.int .i64 ev)) 2 (.slice none 0 0)) 3 (.int .i64 ct)) 4 (.int .i64 un)
    (try simp only [Exit.inBlock, Exit.then])
    refine bodyPost_ret (results_cell_row rfl _ _ (w.heap.size + 1) _ _ _ _ rfl hfin Tryd.underlying67 rfl (by kernel_rfl)) rfl ?_
    refine ⟨_, rfl, Or.inl ⟨rfl, none, 0, rfl⟩, ?_⟩
    exact (((((HBW.out.setCell (p := ⟨w.heap.size, 2, none⟩) (Nat.le_refl _) _).setCell (p := ⟨w.heap.size + 1, 0, none⟩) (Nat.le_succ _) _).setCell (p := ⟨w.heap.size + 1, 1, none⟩) (Nat.le_succ _) _).setCell (p := ⟨w.heap.size + 1, 2, none⟩) (Nat.le_succ _) _).setCell (p := ⟨w.heap.size + 1, 3, none⟩) (Nat.le_succ _) _).setCell (p := ⟨w.heap.size + 1, 4, none⟩) (Nat.le_succ _) _
  | some ad =>
    have hnews : ∀ j u, (cellsOf ds)[j]? = some u → W.cell? (ad.add j) = some u := fun j u hu => by
      obtain ⟨hj, rfl⟩ := cellsOf_at hu
      obtain ⟨_, b, o, ha, hc⟩ := (HR.out.below HBW.out).at (by rintro rfl; exact absurd hj (Nat.not_lt_zero _))
      cases ha
      have := hc j hj
      by_cases hz : j = 0
      · subst hz; exact this
      · rw [Addr.add, if_neg hz]; exact this
    have HN := Lib.hid hnews
    clear hnews
    go_enter Tryd.func40, Tryd.ntmps40
    go_wp2_with (at_builtin
                 rw [HW.out]
                 refine wpList_append_own _ rfl (.tmp 4) (.tmp 6) _ rfl W.heap.size 3 i0 _ 1 8 Tryd.underlying44 hi0 hz0 hz1 hz2 rfl (by omega) (.slice none 0 0) 0 [] rfl
                   ⟨by simp, .inl ⟨rfl, rfl⟩⟩ ad ds.length cap (cellsOf ds) rfl (by rw [cellsOf_len, Nat.mul_one]) HN.out cellsOf_one (by simp only [maxLen]; omega) (by omega) (Nat.le_refl _) ?_
                 intro v1 w1 hown hg hnil
                 have hown' : w1.ownsRow W.heap.size 3 1 v1 ds.length (cellsOf ds) := by simpa using hown
                 have hrd := reads_own hown'
                 obtain ⟨av, cv, rfl⟩ := hrd.shape
                 have hb1 : Below W.heap.size W w1 := (Below.refl _ W).grown hg (Nat.le_refl _) (by simp [Value.ownBlock])
                 have hB1 := (hb1.block w.heap.size (by rw [HSW.out]; omega)).trans HB1.out
                 have hB2 := (hb1.block (w.heap.size + 1) (by rw [HSW.out]; omega)).trans HB2.out
                 have k0 : w1.cell? ⟨w.heap.size, 0, none⟩ = some (.string fq) := cell_of hB1 rfl
                 have k1 : w1.cell? ⟨w.heap.size, 1, none⟩ = some (.int .i64 ev) := cell_of hB1 rfl
                 have k2 : w1.cell? ⟨w.heap.size, 2, none⟩ = some (.slice (some ad) ds.length cap) := cell_of hB1 rfl
                 have k3 : w1.cell? ⟨w.heap.size, 3, none⟩ = some (.int .i64 ct) := cell_of hB1 rfl
                 have k4 : w1.cell? ⟨w.heap.size, 4, none⟩ = some (.int .i64 un) := cell_of hB1 rfl
                 have f2 : w1.frozen? ⟨w.heap.size, 2, none⟩ = false := by simp [World.frozen?, hB1]
                 have q0 : w1.cell? ⟨w.heap.size + 1, 0, none⟩ = some (.string ⟨#[]⟩) := cell_of hB2 rfl
                 have q1 : w1.cell? ⟨w.heap.size + 1, 1, none⟩ = some (.int .i64 0) := cell_of hB2 rfl
                 have q2 : w1.cell? ⟨w.heap.size + 1, 2, none⟩ = some (.slice none 0 0) := cell_of hB2 rfl
                 have q3 : w1.cell? ⟨w.heap.size + 1, 3, none⟩ = some (.int .i64 0) := cell_of hB2 rfl
                 have q4 : w1.cell? ⟨w.heap.size + 1, 4, none⟩ = some (.int .i64 0) := cell_of hB2 rfl
                 have g0 : w1.frozen? ⟨w.heap.size + 1, 0, none⟩ = false := by simp [World.frozen?, hB2]
                 have g1 : w1.frozen? ⟨w.heap.size + 1, 1, none⟩ = false := by simp [World.frozen?, hB2]
                 have g2 : w1.frozen? ⟨w.heap.size + 1, 2, none⟩ = false := by simp [World.frozen?, hB2]
                 have g3 : w1.frozen? ⟨w.heap.size + 1, 3, none⟩ = false := by simp [World.frozen?, hB2]
                 have g4 : w1.frozen? ⟨w.heap.size + 1, 4, none⟩ = false := by simp [World.frozen?, hB2]
                 have HG := Lib.hid hb1
                 have HRD := Lib.hid hown'
                 have HX := Lib.hid hB2
                 clear hown hown' hg hnil hB1 hB2 hb1 hrd)
    have hfin := row_set (row_set (row_set (row_set (row_set ((row_far (p := ⟨w.heap.size, 2, none⟩) (u := .slice av ds.length cv) (by show w.heap.size + 1 ≠ w.heap.size; omega)).trans HX.out) 0 (.string fq)) 1 (.int .i64 ev)) 2 (.slice av ds.length cv)) 3 (.int .i64 ct)) 4 (.int .i64 un)
    (try simp only [Exit.inBlock, Exit.then])
    refine bodyPost_ret (results_cell_row rfl _ _ (w.heap.size + 1) _ _ _ _ rfl hfin Tryd.underlying67 rfl (by kernel_rfl)) rfl ?_
    have hl1 : w.heap.size < W.heap.size := by rw [HSW.out]; omega
    have hl2 : w.heap.size + 1 < W.heap.size := by rw [HSW.out]; omega
    refine ⟨_, rfl, reads_own (own_far (own_far (own_far (own_far (own_far (own_far HRD.out hl1) hl2) hl2) hl2) hl2) hl2), ?_⟩
    exact ((((((HBW.out.trans (HG.out.mono HBW.out.size)).setCell (p := ⟨w.heap.size, 2, none⟩) (Nat.le_refl _) _).setCell (p := ⟨w.heap.size + 1, 0, none⟩) (Nat.le_succ _) _).setCell (p := ⟨w.heap.size + 1, 1, none⟩) (Nat.le_succ _) _).setCell (p := ⟨w.heap.size + 1, 2, none⟩) (Nat.le_succ _) _).setCell (p := ⟨w.heap.size + 1, 3, none⟩) (Nat.le_succ _) _).setCell (p := ⟨w.heap.size + 1, 4, none⟩) (Nat.le_succ _) _
end Rul
end Go.Proofs.YtmlndamkcipebaaDoor
