/- The laws' helpers for events: LongEvent, OwnEvent. -/
import Derived.Test.YtghkalamlcfnnaaGreatDoorQEvLists
import Derived.Laws.AppendOwnNone
namespace Go.Proofs.YtghkalamlcfnnaaGreatDoor
open Go Go.RowKit Go.Shelf Lmd
attribute [local go_sem] Oper.semAt_some
namespace Evt
open Rul Day Cand Er
def LongP (e : Ev) : Prop := (20 < e.ru.fq.size ∨ 20 < e.ru.ds.length) ∨ 30 < e.id.size ∨ 60 < e.ti.size ∨ 25 < e.sk.length ∨ 25 < e.mv.length
instance (e : Ev) : Decidable (LongP e) := by unfold LongP; infer_instance
theorem size_of {e : Ev} (h : ¬ LongP e) : Size e := by
  unfold LongP at h
  exact ⟨by omega, by omega, by omega, by omega, by omega⟩
set_option maxRecDepth 100000 in
set_option maxHeartbeats 4000000 in
theorem longEvent_any (e : Ev) (vd vs vm : Value) (w : World) (hr : Rv w e vd vs vm) (hf : Fin64 e) :
    Calls Tryz.prog 34 #[.agg (e.cells vd vs vm)] w fun r w' => r = .returned (.int .i64 (if LongP e then 1 else 0)) ∧ Below w.heap.size w w' := by
  obtain ⟨a6, c6, rfl⟩ := hr.d.shape
  obtain ⟨a9, c9, rfl⟩ := hr.s.shape
  obtain ⟨a10, c10, rfl⟩ := hr.m.shape
  have hL := fun W => longRule_any e.ru a6 c6 W hf.fq hf.ds
  simp only [Ru.val] at hL
  obtain ⟨q, hq⟩ : ∃ q : Int, (if LongP e then (1 : Int) else 0) = q := ⟨_, rfl⟩
  obtain ⟨q1, hq1⟩ : ∃ q : Int, (if 20 < e.ru.fq.size ∨ 20 < e.ru.ds.length then (1 : Int) else 0) = q := ⟨_, rfl⟩
  rw [hq1] at hL
  rw [hq]
  obtain ⟨f1, f2, f3, f4, f5, f6⟩ := hf
  obtain ⟨n6, hn6⟩ : ∃ n, e.ru.ds.length = n := ⟨_, rfl⟩
  obtain ⟨n9, hn9⟩ : ∃ n, e.sk.length = n := ⟨_, rfl⟩
  obtain ⟨n10, hn10⟩ : ∃ n, e.mv.length = n := ⟨_, rfl⟩
  have hLP : (q = 1 ∧ LongP e) ∨ (q = 0 ∧ ¬ LongP e) := by
    by_cases h : LongP e
    · left; rw [if_pos h] at hq; exact ⟨hq.symm, h⟩
    · right; rw [if_neg h] at hq; exact ⟨hq.symm, h⟩
  have hQ1 : (q1 = 1 ∧ (20 < e.ru.fq.size ∨ 20 < e.ru.ds.length)) ∨ (q1 = 0 ∧ ¬ (20 < e.ru.fq.size ∨ 20 < e.ru.ds.length)) := by
    by_cases h : 20 < e.ru.fq.size ∨ 20 < e.ru.ds.length
    · left; rw [if_pos h] at hq1; exact ⟨hq1.symm, h⟩
    · right; rw [if_neg h] at hq1; exact ⟨hq1.symm, h⟩
  unfold LongP at hLP
  rw [hn9, hn10] at hLP
  rw [hn6] at hL hLP hQ1 ⊢
  rw [hn9] at f5 ⊢
  rw [hn10] at f6 ⊢
  obtain ⟨Wa, hWa⟩ : ∃ Wa, w.alloc (.cells (e.cells (.slice a6 n6 c6) (.slice a9 n9 c9) (.slice a10 n10 c10)) 40) = Wa := ⟨_, rfl⟩
  have hBa : Below w.heap.size w Wa := by rw [← hWa]; exact (Below.refl _ w).alloc (Nat.le_refl _) _
  have x0 : Wa.heap[w.heap.size]? = some (.cells (e.cells (.slice a6 n6 c6) (.slice a9 n9 c9) (.slice a10 n10 c10)) 40) := by rw [← hWa]; exact heap_new w _
  have HL := Lib.hid hL
  have HWA := Lib.hid hWa
  have HBA := Lib.hid hBa
  have HX := Lib.hid x0
  have HLP := Lib.hid hLP
  have HQ1 := Lib.hid hQ1
  clear hr hL hq hq1 hLP hQ1 hn6 hn9 hn10 hWa hBa x0 f3 f4
  go_enter Tryz.func34, Tryz.ntmps34
  obtain ⟨k0, k1, k2, k3, k4, k5, k6, k7, k8, k9, k10⟩ := cells11 HX.out
  go_upto_region 1 with fail
  rw [HWA.out]
  go_wp2_with fail
  (with_reducible refine (HL.out _).mono ?_)
  rintro e1 w1 ⟨rfl, hb1⟩
  have HB1 := Lib.hid (HBA.out.trans (hb1.mono HBA.out.size))
  have HX1 := Lib.hid (row_below HX.out hb1)
  clear hb1 k0 k1 k2 k3 k4 k5 k6 k7 k8 k9 k10
  obtain ⟨k0, k1, k2, k3, k4, k5, k6, k7, k8, k9, k10⟩ := cells11 HX1.out
  by_cases h1 : (0 : Int) < q1
  · go_wp2
    go_ret
    obtain rfl : q = 1 := by have := HLP.out; have := HQ1.out; omega
    exact ⟨rfl, HB1.out⟩
  by_cases h2 : (30 : Int) < (e.id.size : Int)
  · go_wp2
    go_ret
    obtain rfl : q = 1 := by have := HLP.out; have := HQ1.out; omega
    exact ⟨rfl, HB1.out⟩
  by_cases h3 : (60 : Int) < (e.ti.size : Int)
  · go_wp2
    go_ret
    obtain rfl : q = 1 := by have := HLP.out; have := HQ1.out; omega
    exact ⟨rfl, HB1.out⟩
  by_cases h4 : (25 : Int) < (n9 : Int)
  · go_wp2
    go_ret
    obtain rfl : q = 1 := by have := HLP.out; have := HQ1.out; omega
    exact ⟨rfl, HB1.out⟩
  by_cases h5 : (25 : Int) < (n10 : Int)
  · go_wp2
    go_ret
    obtain rfl : q = 1 := by have := HLP.out; have := HQ1.out; omega
    exact ⟨rfl, HB1.out⟩
  · go_wp2
    go_ret
    obtain rfl : q = 0 := by have := HLP.out; have := HQ1.out; omega
    exact ⟨rfl, HB1.out⟩
theorem frozen11 {w : World} {b : Nat} {a0 a1 a2 a3 a4 a5 a6 a7 a8 a9 a10 : Value} {t : TypeId} (h : w.heap[b]? = some (.cells #[a0, a1, a2, a3, a4, a5, a6, a7, a8, a9, a10] t (0, 0))) :
    w.frozen? ⟨b, 0, none⟩ = false ∧ w.frozen? ⟨b, 1, none⟩ = false ∧ w.frozen? ⟨b, 2, none⟩ = false ∧ w.frozen? ⟨b, 3, none⟩ = false ∧ w.frozen? ⟨b, 4, none⟩ = false ∧ w.frozen? ⟨b, 5, none⟩ = false ∧ w.frozen? ⟨b, 6, none⟩ = false ∧ w.frozen? ⟨b, 7, none⟩ = false ∧ w.frozen? ⟨b, 8, none⟩ = false ∧ w.frozen? ⟨b, 9, none⟩ = false ∧ w.frozen? ⟨b, 10, none⟩ = false := by
  simp [World.frozen?, h]
def From (B : Nat) (v : Value) : Prop := ∀ g, v.ownBlock = some g → B ≤ g
theorem reads_far {w : World} {v : Value} {xs : List Int} {B b i : Nat} {u : Value} (h : Ints.Reads w v xs) (hf : From B v) (hb : b < B) : Ints.Reads (w.setCell ⟨b, i, none⟩ u) v xs := by
  rcases h with h | ⟨g, off, c, rfl, hc⟩
  · exact .inl h
  · have hne : g ≠ b := by have := hf g rfl; omega
    refine .inr ⟨g, off, c, rfl, fun j hj => ?_⟩
    have := hc j hj
    simp only [World.cell?] at this ⊢
    rw [row_far (p := ⟨b, i, none⟩) hne]; exact this
theorem mreads_far {w : World} {v : Value} {xs : List (Int × Int)} {B b i : Nat} {u : Value} (h : MReads w v xs) (hf : From B v) (hb : b < B) : MReads (w.setCell ⟨b, i, none⟩ u) v xs := by
  rcases h with h | ⟨g, off, c, rfl, hc⟩
  · exact .inl h
  · have hne : g ≠ b := by have := hf g rfl; omega
    refine .inr ⟨g, off, c, rfl, fun j hj => ?_⟩
    have := hc j hj
    simp only [World.cell?] at this ⊢
    rw [row_far (p := ⟨b, i, none⟩) hne]; exact this
theorem own_from {w : World} {base size : Nat} {e : TypeId} {v : Value} {n : Nat} {xs : List Value} (h : w.ownsRow base e size v n xs) : From base v := fun _ hg => own_ge h hg
theorem From.mono {B B' : Nat} {v : Value} (h : From B v) (hb : B' ≤ B) : From B' v := fun g hg => Nat.le_trans hb (h g hg)
theorem append_ints {w : World} {ops : Array Oper} {rest : List Oper} {o : Oper} {a : Act} {Q : Exit → Act → World → Prop} (hgd : o.guard = none) (s x : Operand)
    (ho : o.op = .call { callee := .builtin .append, args := #[s, x], argTypes := #[35, 35] }) (hs : a.eval s = .slice none 0 0) (v : Value) (ys : List Int) (hx : a.eval x = v) (hr : Ints.Reads w v ys) (hb : ys.length ≤ 3000000)
    (h : ∀ a' c' w', w'.ownsRow w.heap.size 3 1 (.slice a' ys.length c') ys.length (cellsOf ys) → Below w.heap.size w w' → wpList Tryz.prog ops Q rest (a.put o.dst (.slice a' ys.length c')) w') : wpList Tryz.prog ops Q (o :: rest) a w := by
  obtain ⟨i0, hi0, hz0, hz1, hz2⟩ := info_parts int_info
  obtain ⟨a9, c9, rfl⟩ := hr.shape
  cases a9 with
  | none =>
    have hy : ys = [] := by
      rcases hr with ⟨h, _⟩ | ⟨b, off, cap', h, _⟩
      · exact h
      · cases h
    subst hy
    exact wpList_append_nil hgd s x _ ho 3 i0 1 Tryz.underlying35 hi0 hz1 c9 hs hx (h none 0 w ⟨by simp [cellsOf], .inl ⟨rfl, rfl⟩⟩ (Below.refl _ _))
  | some ad =>
    refine wpList_append_own _ hgd s x 35 ho w.heap.size 3 i0 _ 1 8 Tryz.underlying35 hi0 hz0 hz1 hz2 rfl (by omega) (.slice none 0 0) 0 [] hs ⟨by simp, .inl ⟨rfl, rfl⟩⟩ ad ys.length c9 (cellsOf ys) hx (by rw [cellsOf_len, Nat.mul_one])
      (fun j u hu => by
        obtain ⟨hj, rfl⟩ := cellsOf_at hu
        obtain ⟨_, b, o', ha, hc⟩ := hr.at (by rintro rfl; exact absurd hj (Nat.not_lt_zero _))
        cases ha
        rw [add_plain]; exact hc j hj) cellsOf_one (by simp only [maxLen]; omega) (by omega) (Nat.le_refl _) ?_
    intro v' w' h1 h2 _
    rw [Nat.zero_add, List.nil_append] at h1
    obtain ⟨a1, c1, rfl⟩ := own_at h1
    exact h a1 c1 w' h1 ((Below.refl _ w).grown h2 (Nat.le_refl _) (fun j ej => by simp [Value.ownBlock] at ej))
theorem cellsM_one {xs : List (Int × Int)} (u : Value) (h : u ∈ cellsM xs) : u.oneCell' = true := by
  simp only [cellsM, List.mem_flatMap] at h
  obtain ⟨m, _, h⟩ := h
  simp at h
  rcases h with rfl | rfl <;> rfl
theorem cellsM_get : ∀ {xs : List (Int × Int)} {j : Nat} {u : Value}, (cellsM xs)[j]? = some u → ∃ k, k < xs.length ∧ ((j = k * 2 ∧ u = .int .i64 (ml xs k).1) ∨ (j = k * 2 + 1 ∧ u = .int .i64 (ml xs k).2)) := by
  intro xs j u h
  have hl : j < xs.length * 2 := by rw [← cellsM_len]; exact (List.getElem?_eq_some_iff.1 h).1
  have hk : j / 2 < xs.length := by omega
  obtain ⟨h1, h2⟩ := cellsM_at hk
  by_cases e : j % 2 = 0
  · have e2 : j / 2 * 2 = j := by omega
    rw [e2, h] at h1
    exact ⟨j / 2, hk, .inl ⟨e2.symm, Option.some.inj h1⟩⟩
  · have e2 : j / 2 * 2 + 1 = j := by omega
    rw [e2, h] at h2
    exact ⟨j / 2, hk, .inr ⟨e2.symm, Option.some.inj h2⟩⟩
theorem append_moves {w : World} {ops : Array Oper} {rest : List Oper} {o : Oper} {a : Act} {Q : Exit → Act → World → Prop} (hgd : o.guard = none) (s x : Operand)
    (ho : o.op = .call { callee := .builtin .append, args := #[s, x], argTypes := #[38, 38] }) (hs : a.eval s = .slice none 0 0) (v : Value) (ys : List (Int × Int)) (hx : a.eval x = v) (hr : MReads w v ys) (hb : ys.length ≤ 3000000)
    (h : ∀ a' c' w', w'.ownsRow w.heap.size 95 2 (.slice a' ys.length c') ys.length (cellsM ys) → Below w.heap.size w w' → wpList Tryz.prog ops Q rest (a.put o.dst (.slice a' ys.length c')) w') : wpList Tryz.prog ops Q (o :: rest) a w := by
  obtain ⟨i0, hi0, hz0, hz1, hz2⟩ := info_parts move_info
  obtain ⟨a9, c9, rfl⟩ := hr.shape
  cases a9 with
  | none =>
    have hy : ys = [] := by
      rcases hr with ⟨h, _⟩ | ⟨b, off, cap', h, _⟩
      · exact h
      · cases h
    subst hy
    exact wpList_append_nil hgd s x _ ho 95 i0 2 Tryz.underlying38 hi0 hz1 c9 hs hx (h none 0 w ⟨by simp [cellsM], .inl ⟨rfl, rfl⟩⟩ (Below.refl _ _))
  | some ad =>
    refine wpList_append_own _ hgd s x 38 ho w.heap.size 95 i0 _ 2 16 Tryz.underlying38 hi0 hz0 hz1 hz2 rfl (by omega) (.slice none 0 0) 0 [] hs ⟨by simp, .inl ⟨rfl, rfl⟩⟩ ad ys.length c9 (cellsM ys) hx (by rw [cellsM_len])
      (fun j u hu => by
        obtain ⟨k, hk, hu⟩ := cellsM_get hu
        obtain ⟨_, b, o', ha, hc⟩ := hr.at (by rintro rfl; exact absurd hk (Nat.not_lt_zero _))
        cases ha
        rw [add_plain]
        rcases hu with ⟨rfl, rfl⟩ | ⟨rfl, rfl⟩
        · exact (hc k hk).1
        · exact (hc k hk).2) cellsM_one (by simp only [maxLen]; omega) (by omega) (Nat.le_refl _) ?_
    intro v' w' h1 h2 _
    rw [Nat.zero_add, List.nil_append] at h1
    obtain ⟨a1, c1, rfl⟩ := own_at h1
    exact h a1 c1 w' h1 ((Below.refl _ w).grown h2 (Nat.le_refl _) (fun j ej => by simp [Value.ownBlock] at ej))
set_option maxRecDepth 100000 in
set_option maxHeartbeats 8000000 in
theorem ownEvent_any (e : Ev) (vd vs vm : Value) (w : World) (hr : Rv w e vd vs vm) (hz : Size e) :
    Calls Tryz.prog 35 #[.agg (e.cells vd vs vm)] w fun r w' => ∃ vd' vs' vm', r = .returned (.agg (e.cells vd' vs' vm')) ∧ Rv w' e vd' vs' vm' ∧ Below w.heap.size w w' := by
  obtain ⟨a6, c6, rfl⟩ := hr.d.shape
  obtain ⟨a9, c9, rfl⟩ := hr.s.shape
  obtain ⟨a10, c10, rfl⟩ := hr.m.shape
  obtain ⟨hz1, hz2, hz3, hz4, hz5⟩ := hz
  obtain ⟨W, hW⟩ : ∃ W, (w.alloc (.cells (e.cells (.slice a6 e.ru.ds.length c6) (.slice a9 e.sk.length c9) (.slice a10 e.mv.length c10)) 40)).alloc (.cells #[.string ⟨#[]⟩, .string ⟨#[]⟩, .int .i64 0, .int .i64 0, .string ⟨#[]⟩, .int .i64 0, .slice none 0 0, .int .i64 0, .int .i64 0, .slice none 0 0, .slice none 0 0] 40) = W := ⟨_, rfl⟩
  have hB : Below w.heap.size w W := by rw [← hW]; exact ((Below.refl _ w).alloc (Nat.le_refl _) _).alloc (by simp) _
  have hsz : W.heap.size = w.heap.size + 1 + 1 := by rw [← hW]; simp
  have x1 : W.heap[w.heap.size]? = some (.cells (e.cells (.slice a6 e.ru.ds.length c6) (.slice a9 e.sk.length c9) (.slice a10 e.mv.length c10)) 40) := by
    rw [← hW]; exact (Below.heap_alloc _ _ _ (by simp)).trans (heap_new w _)
  have x2 : W.heap[w.heap.size + 1]? = some (.cells #[.string ⟨#[]⟩, .string ⟨#[]⟩, .int .i64 0, .int .i64 0, .string ⟨#[]⟩, .int .i64 0, .slice none 0 0, .int .i64 0, .int .i64 0, .slice none 0 0, .slice none 0 0] 40) := by
    rw [← hW]
    have h := heap_new (w.alloc (.cells (e.cells (.slice a6 e.ru.ds.length c6) (.slice a9 e.sk.length c9) (.slice a10 e.mv.length c10)) 40)) (.cells #[.string ⟨#[]⟩, .string ⟨#[]⟩, .int .i64 0, .int .i64 0, .string ⟨#[]⟩, .int .i64 0, .slice none 0 0, .int .i64 0, .int .i64 0, .slice none 0 0, .slice none 0 0] 40)
    rwa [World.size_alloc] at h
  have hO := ownRule_far e.ru _ W (hr.d.below hB) (by omega)
  simp only [Ru.val] at hO
  have HO := Lib.hid hO
  have HR := Lib.hid hr
  have HW := Lib.hid hW
  have HB := Lib.hid hB
  have HSZ := Lib.hid hsz
  have X1 := Lib.hid x1
  have X2 := Lib.hid x2
  have HZ4 := Lib.hid hz4
  have HZ5 := Lib.hid hz5
  obtain ⟨n6, hn6⟩ : ∃ n, e.ru.ds.length = n := ⟨_, rfl⟩
  obtain ⟨n9, hn9⟩ : ∃ n, e.sk.length = n := ⟨_, rfl⟩
  obtain ⟨n10, hn10⟩ : ∃ n, e.mv.length = n := ⟨_, rfl⟩
  have HN6 := Lib.hid hn6
  have HN9 := Lib.hid hn9
  have HN10 := Lib.hid hn10
  rw [hn6] at HO HR HW X1 ⊢
  rw [hn9] at HR HW X1 ⊢
  rw [hn10] at HR HW X1 ⊢
  clear hr hW hB hsz x1 x2 hO hn6 hn9 hn10 hz1 hz2 hz3 hz4 hz5
  go_enter Tryz.func35, Tryz.ntmps35
  obtain ⟨k0, k1, k2, k3, k4, k5, k6, k7, k8, k9, k10⟩ := cells11 X1.out
  go_upto_region 3 with fail
  rw [HW.out]
  go_wp2_with fail
  (with_reducible refine HO.out.mono ?_)
  rintro e1 w1 ⟨vd', rfl, hr1, hf1, hb1⟩
  obtain ⟨a1, c1, rfl⟩ := hr1.shape
  rw [HN6.out] at hr1 hf1 ⊢
  have hs1 := hb1.size
  have y1 := row_below X1.out hb1
  have y2 := row_below X2.out hb1
  clear k0 k1 k2 k3 k4 k5 k6 k7 k8 k9 k10
  obtain ⟨k0, k1, k2, k3, k4, k5, k6, k7, k8, k9, k10⟩ := cells11 y1
  obtain ⟨f0, f1, f2, f3, f4, f5, f6, f7, f8, f9, f10⟩ := frozen11 y1
  have Y1 := Lib.hid y1
  have Y2 := Lib.hid y2
  have HR1 := Lib.hid hr1
  have HF1 := Lib.hid hf1
  have HB1 := Lib.hid hb1
  have HS1 := Lib.hid hs1
  clear y1 y2 hr1 hf1 hb1 hs1
  go_upto_region 4 with fail
  obtain ⟨W3, hW3⟩ : ∃ W3, (((((w1.setCell ⟨w.heap.size, 4, none⟩ (.string e.ru.fq)).setCell ⟨w.heap.size, 5, none⟩ (.int .i64 e.ru.ev)).setCell ⟨w.heap.size, 6, none⟩ (.slice a1 n6 c1)).setCell ⟨w.heap.size, 7, none⟩ (.int .i64 e.ru.ct)).setCell ⟨w.heap.size, 8, none⟩ (.int .i64 e.ru.un)) = W3 := ⟨_, rfl⟩
  have hsw := HSZ.out
  have hs1 := HS1.out
  have hb3 : Below w.heap.size w W3 := by
    rw [← hW3]
    exact (((((HB.out.trans (HB1.out.mono HB.out.size)).setCell (p := ⟨w.heap.size, 4, none⟩) (Nat.le_refl _) _).setCell (p := ⟨w.heap.size, 5, none⟩) (Nat.le_refl _) _).setCell (p := ⟨w.heap.size, 6, none⟩) (Nat.le_refl _) _).setCell (p := ⟨w.heap.size, 7, none⟩) (Nat.le_refl _) _).setCell (p := ⟨w.heap.size, 8, none⟩) (Nat.le_refl _) _
  have z1 : W3.heap[w.heap.size]? = some (.cells (e.cells (.slice a1 n6 c1) (.slice a9 n9 c9) (.slice a10 n10 c10)) 40) := by
    rw [← hW3]
    exact (row_set (row_set (row_set (row_set (row_set Y1.out 4 (.string e.ru.fq)) 5 (.int .i64 e.ru.ev)) 6 (.slice a1 n6 c1)) 7 (.int .i64 e.ru.ct)) 8 (.int .i64 e.ru.un))
  have z2 : W3.heap[w.heap.size + 1]? = some (.cells #[.string ⟨#[]⟩, .string ⟨#[]⟩, .int .i64 0, .int .i64 0, .string ⟨#[]⟩, .int .i64 0, .slice none 0 0, .int .i64 0, .int .i64 0, .slice none 0 0, .slice none 0 0] 40) := by
    rw [← hW3]
    exact ((row_far (by show w.heap.size + 1 ≠ w.heap.size; omega)).trans ((row_far (by show w.heap.size + 1 ≠ w.heap.size; omega)).trans ((row_far (by show w.heap.size + 1 ≠ w.heap.size; omega)).trans ((row_far (by show w.heap.size + 1 ≠ w.heap.size; omega)).trans ((row_far (by show w.heap.size + 1 ≠ w.heap.size; omega)).trans Y2.out)))))
  have hrd : Ints.Reads W3 (.slice a1 n6 c1) e.ru.ds := by
    rw [← hW3]
    exact (reads_far (reads_far (reads_far (reads_far (reads_far HR1.out HF1.out (by omega)) HF1.out (by omega)) HF1.out (by omega)) HF1.out (by omega)) HF1.out (by omega))
  have hs3 : w1.heap.size = W3.heap.size := by rw [← hW3]; simp [World.setCell]
  rw [hW3]
  have Z1 := Lib.hid z1
  have Z2 := Lib.hid z2
  have HRD := Lib.hid hrd
  have HB3 := Lib.hid hb3
  have HS3 := Lib.hid hs3
  have HS := Lib.hid (HR.out.s.below hb3)
  have HM := Lib.hid (HR.out.m.below hb3)
  obtain ⟨j0, j1, j2, j3, j4, j5, j6, j7, j8, j9, j10⟩ := cells11 z1
  clear hW3 z1 z2 hrd hb3 hs3 hsw hs1 k0 k1 k2 k3 k4 k5 k6 k7 k8 k9 k10 f0 f1 f2 f3 f4 f5 f6 f7 f8 f9 f10 Y1 Y2
  go_upto_region 5 with (
    at_builtin
    refine append_ints rfl (.tmp 9) (.tmp 11) rfl rfl _ e.sk rfl HS.out (by have := HZ4.out; omega) ?_
    intro a2 c2 w4 hown hb4
    rw [HN9.out] at hown ⊢
    have y1 := row_below Z1.out hb4
    obtain ⟨k0, k1, k2, k3, k4, k5, k6, k7, k8, k9, k10⟩ := cells11 y1
    obtain ⟨f0, f1, f2, f3, f4, f5, f6, f7, f8, f9, f10⟩ := frozen11 y1
    have Y1 := Lib.hid y1
    have HOWN := Lib.hid hown
    have HB4 := Lib.hid hb4
    clear y1 hown hb4)
  obtain ⟨W5, hW5⟩ : ∃ W5, w4.setCell ⟨w.heap.size, 9, none⟩ (.slice a2 n9 c2) = W5 := ⟨_, rfl⟩
  have hsw := HSZ.out
  have hs1 := HS1.out
  have hs3 := HS3.out
  have hs4 := HB4.out.size
  have hb5 : Below w.heap.size w W5 := by rw [← hW5]; exact (HB3.out.trans (HB4.out.mono (by omega))).setCell (p := ⟨w.heap.size, 9, none⟩) (Nat.le_refl _) _
  have z1 : W5.heap[w.heap.size]? = some (.cells (e.cells (.slice a1 n6 c1) (.slice a2 n9 c2) (.slice a10 n10 c10)) 40) := by rw [← hW5]; exact row_set Y1.out 9 _
  have z2 : W5.heap[w.heap.size + 1]? = some (.cells #[.string ⟨#[]⟩, .string ⟨#[]⟩, .int .i64 0, .int .i64 0, .string ⟨#[]⟩, .int .i64 0, .slice none 0 0, .int .i64 0, .int .i64 0, .slice none 0 0, .slice none 0 0] 40) := by rw [← hW5]; exact (row_far (by show w.heap.size + 1 ≠ w.heap.size; omega)).trans (row_below Z2.out HB4.out)
  have hrd : Ints.Reads W5 (.slice a1 n6 c1) e.ru.ds := by rw [← hW5]; exact reads_far (HRD.out.below HB4.out) HF1.out (by omega)
  have hsr : W5.ownsRow W3.heap.size 3 1 (.slice a2 n9 c2) n9 (cellsOf e.sk) := by rw [← hW5]; exact own_far HOWN.out (by show w.heap.size < _; omega)
  have hs5 : w4.heap.size = W5.heap.size := by rw [← hW5]; simp [World.setCell]
  rw [hW5]
  have Z3 := Lib.hid z1
  have Z4 := Lib.hid z2
  have HRD5 := Lib.hid hrd
  have HB5 := Lib.hid hb5
  have HS5 := Lib.hid hs5
  have HSR := Lib.hid hsr
  have HM5 := Lib.hid (HR.out.m.below hb5)
  clear hW5 z1 z2 hrd hb5 hs3 hs4 hs5 hsr hsw hs1 k0 k1 k2 k3 k4 k5 k6 k7 k8 k9 k10 f0 f1 f2 f3 f4 f5 f6 f7 f8 f9 f10 j0 j1 j2 j3 j4 j5 j6 j7 j8 j9 j10 Y1
  obtain ⟨j0, j1, j2, j3, j4, j5, j6, j7, j8, j9, j10⟩ := cells11 Z3.out
  go_upto_region 6 with (
    at_builtin
    refine append_moves rfl (.tmp 14) (.tmp 16) rfl rfl _ e.mv rfl HM5.out (by have := HZ5.out; omega) ?_
    intro a3 c3 w6 hown hb6
    rw [HN10.out] at hown ⊢
    have y1 := row_below Z3.out hb6
    obtain ⟨k0, k1, k2, k3, k4, k5, k6, k7, k8, k9, k10⟩ := cells11 y1
    obtain ⟨f0, f1, f2, f3, f4, f5, f6, f7, f8, f9, f10⟩ := frozen11 y1
    have Y1 := Lib.hid y1
    have HOWM := Lib.hid hown
    have HB6 := Lib.hid hb6
    clear y1 hown hb6)
  obtain ⟨W7, hW7⟩ : ∃ W7, w6.setCell ⟨w.heap.size, 10, none⟩ (.slice a3 n10 c3) = W7 := ⟨_, rfl⟩
  have hsw := HSZ.out
  have hs1 := HS1.out
  have hs3 := HS3.out
  have hs4 := HB4.out.size
  have hs5 := HS5.out
  have hs6 := HB6.out.size
  have hb7 : Below w.heap.size w W7 := by rw [← hW7]; exact (HB5.out.trans (HB6.out.mono (by omega))).setCell (p := ⟨w.heap.size, 10, none⟩) (Nat.le_refl _) _
  have z1 : W7.heap[w.heap.size]? = some (.cells (e.cells (.slice a1 n6 c1) (.slice a2 n9 c2) (.slice a3 n10 c3)) 40) := by rw [← hW7]; exact row_set Y1.out 10 _
  have z2 : W7.heap[w.heap.size + 1]? = some (.cells #[.string ⟨#[]⟩, .string ⟨#[]⟩, .int .i64 0, .int .i64 0, .string ⟨#[]⟩, .int .i64 0, .slice none 0 0, .int .i64 0, .int .i64 0, .slice none 0 0, .slice none 0 0] 40) := by rw [← hW7]; exact (row_far (by show w.heap.size + 1 ≠ w.heap.size; omega)).trans (row_below Z4.out HB6.out)
  have hrd : Ints.Reads W7 (.slice a1 n6 c1) e.ru.ds := by rw [← hW7]; exact reads_far (HRD5.out.below HB6.out) HF1.out (by omega)
  have hsr : Ints.Reads W7 (.slice a2 n9 c2) e.sk := by rw [← hW7]; exact reads_far ((reads_own (by rw [HN9.out]; exact HSR.out)).below HB6.out) (own_from HSR.out) (by omega)
  have hmr : MReads W7 (.slice a3 n10 c3) e.mv := by rw [← hW7]; exact mreads_far (mreads_own HOWM.out HN10.out.symm) (own_from HOWM.out) (by omega)
  have f1 : From (w.heap.size + 1 + 1) (.slice a1 n6 c1) := From.mono (B := W.heap.size) HF1.out (by omega)
  have f2 : From (w.heap.size + 1 + 1) (.slice a2 n9 c2) := (own_from HSR.out).mono (by omega)
  have f3 : From (w.heap.size + 1 + 1) (.slice a3 n10 c3) := (own_from HOWM.out).mono (by omega)
  rw [hW7]
  have Z5 := Lib.hid z1
  have Z6 := Lib.hid z2
  have HRV := Lib.hid (show Rv W7 e (.slice a1 n6 c1) (.slice a2 n9 c2) (.slice a3 n10 c3) from ⟨hrd, hsr, hmr⟩)
  have HB7 := Lib.hid hb7
  have F1 := Lib.hid f1
  have F2 := Lib.hid f2
  have F3 := Lib.hid f3
  clear hW7 z1 z2 hrd hsr hmr hb7 hs3 hs4 hs5 hs6 hsw hs1 f1 f2 f3 k0 k1 k2 k3 k4 k5 k6 k7 k8 k9 k10 f0 f4 f5 f6 f7 f8 f9 f10 j0 j1 j2 j3 j4 j5 j6 j7 j8 j9 j10 Y1
  obtain ⟨k0, k1, k2, k3, k4, k5, k6, k7, k8, k9, k10⟩ := cells11 Z5.out
  obtain ⟨j0, j1, j2, j3, j4, j5, j6, j7, j8, j9, j10⟩ := cells11 Z6.out
  obtain ⟨f0, f1, f2, f3, f4, f5, f6, f7, f8, f9, f10⟩ := frozen11 Z6.out
  go_wp2
  have r0 := Z6.out
  have q0 := HRV.out
  have p0 := HB7.out
  obtain ⟨V0, hV⟩ : ∃ V, W7.setCell ⟨w.heap.size + 1, 0, none⟩ (.string e.id) = V := ⟨_, rfl⟩
  have r1 : V0.heap[w.heap.size + 1]? = some (.cells #[.string e.id, .string ⟨#[]⟩, .int .i64 0, .int .i64 0, .string ⟨#[]⟩, .int .i64 0, .slice none 0 0, .int .i64 0, .int .i64 0, .slice none 0 0, .slice none 0 0] 40) := by rw [← hV]; exact row_set r0 0 _
  have q1 : Rv V0 e (.slice a1 n6 c1) (.slice a2 n9 c2) (.slice a3 n10 c3) := by rw [← hV]; exact ⟨reads_far q0.d F1.out (by omega), reads_far q0.s F2.out (by omega), mreads_far q0.m F3.out (by omega)⟩
  have p1 : Below w.heap.size w V0 := by rw [← hV]; exact p0.setCell (p := ⟨w.heap.size + 1, 0, none⟩) (Nat.le_succ _) _
  rw [hV]
  clear hV r0 q0 p0
  obtain ⟨V1, hV⟩ : ∃ V, V0.setCell ⟨w.heap.size + 1, 1, none⟩ (.string e.ti) = V := ⟨_, rfl⟩
  have r2 : V1.heap[w.heap.size + 1]? = some (.cells #[.string e.id, .string e.ti, .int .i64 0, .int .i64 0, .string ⟨#[]⟩, .int .i64 0, .slice none 0 0, .int .i64 0, .int .i64 0, .slice none 0 0, .slice none 0 0] 40) := by rw [← hV]; exact row_set r1 1 _
  have q2 : Rv V1 e (.slice a1 n6 c1) (.slice a2 n9 c2) (.slice a3 n10 c3) := by rw [← hV]; exact ⟨reads_far q1.d F1.out (by omega), reads_far q1.s F2.out (by omega), mreads_far q1.m F3.out (by omega)⟩
  have p2 : Below w.heap.size w V1 := by rw [← hV]; exact p1.setCell (p := ⟨w.heap.size + 1, 1, none⟩) (Nat.le_succ _) _
  rw [hV]
  clear hV r1 q1 p1
  obtain ⟨V2, hV⟩ : ∃ V, V1.setCell ⟨w.heap.size + 1, 2, none⟩ (.int .i64 e.st) = V := ⟨_, rfl⟩
  have r3 : V2.heap[w.heap.size + 1]? = some (.cells #[.string e.id, .string e.ti, .int .i64 e.st, .int .i64 0, .string ⟨#[]⟩, .int .i64 0, .slice none 0 0, .int .i64 0, .int .i64 0, .slice none 0 0, .slice none 0 0] 40) := by rw [← hV]; exact row_set r2 2 _
  have q3 : Rv V2 e (.slice a1 n6 c1) (.slice a2 n9 c2) (.slice a3 n10 c3) := by rw [← hV]; exact ⟨reads_far q2.d F1.out (by omega), reads_far q2.s F2.out (by omega), mreads_far q2.m F3.out (by omega)⟩
  have p3 : Below w.heap.size w V2 := by rw [← hV]; exact p2.setCell (p := ⟨w.heap.size + 1, 2, none⟩) (Nat.le_succ _) _
  rw [hV]
  clear hV r2 q2 p2
  obtain ⟨V3, hV⟩ : ∃ V, V2.setCell ⟨w.heap.size + 1, 3, none⟩ (.int .i64 e.lg) = V := ⟨_, rfl⟩
  have r4 : V3.heap[w.heap.size + 1]? = some (.cells #[.string e.id, .string e.ti, .int .i64 e.st, .int .i64 e.lg, .string ⟨#[]⟩, .int .i64 0, .slice none 0 0, .int .i64 0, .int .i64 0, .slice none 0 0, .slice none 0 0] 40) := by rw [← hV]; exact row_set r3 3 _
  have q4 : Rv V3 e (.slice a1 n6 c1) (.slice a2 n9 c2) (.slice a3 n10 c3) := by rw [← hV]; exact ⟨reads_far q3.d F1.out (by omega), reads_far q3.s F2.out (by omega), mreads_far q3.m F3.out (by omega)⟩
  have p4 : Below w.heap.size w V3 := by rw [← hV]; exact p3.setCell (p := ⟨w.heap.size + 1, 3, none⟩) (Nat.le_succ _) _
  rw [hV]
  clear hV r3 q3 p3
  obtain ⟨V4, hV⟩ : ∃ V, V3.setCell ⟨w.heap.size + 1, 4, none⟩ (.string e.ru.fq) = V := ⟨_, rfl⟩
  have r5 : V4.heap[w.heap.size + 1]? = some (.cells #[.string e.id, .string e.ti, .int .i64 e.st, .int .i64 e.lg, .string e.ru.fq, .int .i64 0, .slice none 0 0, .int .i64 0, .int .i64 0, .slice none 0 0, .slice none 0 0] 40) := by rw [← hV]; exact row_set r4 4 _
  have q5 : Rv V4 e (.slice a1 n6 c1) (.slice a2 n9 c2) (.slice a3 n10 c3) := by rw [← hV]; exact ⟨reads_far q4.d F1.out (by omega), reads_far q4.s F2.out (by omega), mreads_far q4.m F3.out (by omega)⟩
  have p5 : Below w.heap.size w V4 := by rw [← hV]; exact p4.setCell (p := ⟨w.heap.size + 1, 4, none⟩) (Nat.le_succ _) _
  rw [hV]
  clear hV r4 q4 p4
  obtain ⟨V5, hV⟩ : ∃ V, V4.setCell ⟨w.heap.size + 1, 5, none⟩ (.int .i64 e.ru.ev) = V := ⟨_, rfl⟩
  have r6 : V5.heap[w.heap.size + 1]? = some (.cells #[.string e.id, .string e.ti, .int .i64 e.st, .int .i64 e.lg, .string e.ru.fq, .int .i64 e.ru.ev, .slice none 0 0, .int .i64 0, .int .i64 0, .slice none 0 0, .slice none 0 0] 40) := by rw [← hV]; exact row_set r5 5 _
  have q6 : Rv V5 e (.slice a1 n6 c1) (.slice a2 n9 c2) (.slice a3 n10 c3) := by rw [← hV]; exact ⟨reads_far q5.d F1.out (by omega), reads_far q5.s F2.out (by omega), mreads_far q5.m F3.out (by omega)⟩
  have p6 : Below w.heap.size w V5 := by rw [← hV]; exact p5.setCell (p := ⟨w.heap.size + 1, 5, none⟩) (Nat.le_succ _) _
  rw [hV]
  clear hV r5 q5 p5
  obtain ⟨V6, hV⟩ : ∃ V, V5.setCell ⟨w.heap.size + 1, 6, none⟩ (.slice a1 n6 c1) = V := ⟨_, rfl⟩
  have r7 : V6.heap[w.heap.size + 1]? = some (.cells #[.string e.id, .string e.ti, .int .i64 e.st, .int .i64 e.lg, .string e.ru.fq, .int .i64 e.ru.ev, .slice a1 n6 c1, .int .i64 0, .int .i64 0, .slice none 0 0, .slice none 0 0] 40) := by rw [← hV]; exact row_set r6 6 _
  have q7 : Rv V6 e (.slice a1 n6 c1) (.slice a2 n9 c2) (.slice a3 n10 c3) := by rw [← hV]; exact ⟨reads_far q6.d F1.out (by omega), reads_far q6.s F2.out (by omega), mreads_far q6.m F3.out (by omega)⟩
  have p7 : Below w.heap.size w V6 := by rw [← hV]; exact p6.setCell (p := ⟨w.heap.size + 1, 6, none⟩) (Nat.le_succ _) _
  rw [hV]
  clear hV r6 q6 p6
  obtain ⟨V7, hV⟩ : ∃ V, V6.setCell ⟨w.heap.size + 1, 7, none⟩ (.int .i64 e.ru.ct) = V := ⟨_, rfl⟩
  have r8 : V7.heap[w.heap.size + 1]? = some (.cells #[.string e.id, .string e.ti, .int .i64 e.st, .int .i64 e.lg, .string e.ru.fq, .int .i64 e.ru.ev, .slice a1 n6 c1, .int .i64 e.ru.ct, .int .i64 0, .slice none 0 0, .slice none 0 0] 40) := by rw [← hV]; exact row_set r7 7 _
  have q8 : Rv V7 e (.slice a1 n6 c1) (.slice a2 n9 c2) (.slice a3 n10 c3) := by rw [← hV]; exact ⟨reads_far q7.d F1.out (by omega), reads_far q7.s F2.out (by omega), mreads_far q7.m F3.out (by omega)⟩
  have p8 : Below w.heap.size w V7 := by rw [← hV]; exact p7.setCell (p := ⟨w.heap.size + 1, 7, none⟩) (Nat.le_succ _) _
  rw [hV]
  clear hV r7 q7 p7
  obtain ⟨V8, hV⟩ : ∃ V, V7.setCell ⟨w.heap.size + 1, 8, none⟩ (.int .i64 e.ru.un) = V := ⟨_, rfl⟩
  have r9 : V8.heap[w.heap.size + 1]? = some (.cells #[.string e.id, .string e.ti, .int .i64 e.st, .int .i64 e.lg, .string e.ru.fq, .int .i64 e.ru.ev, .slice a1 n6 c1, .int .i64 e.ru.ct, .int .i64 e.ru.un, .slice none 0 0, .slice none 0 0] 40) := by rw [← hV]; exact row_set r8 8 _
  have q9 : Rv V8 e (.slice a1 n6 c1) (.slice a2 n9 c2) (.slice a3 n10 c3) := by rw [← hV]; exact ⟨reads_far q8.d F1.out (by omega), reads_far q8.s F2.out (by omega), mreads_far q8.m F3.out (by omega)⟩
  have p9 : Below w.heap.size w V8 := by rw [← hV]; exact p8.setCell (p := ⟨w.heap.size + 1, 8, none⟩) (Nat.le_succ _) _
  rw [hV]
  clear hV r8 q8 p8
  obtain ⟨V9, hV⟩ : ∃ V, V8.setCell ⟨w.heap.size + 1, 9, none⟩ (.slice a2 n9 c2) = V := ⟨_, rfl⟩
  have r10 : V9.heap[w.heap.size + 1]? = some (.cells #[.string e.id, .string e.ti, .int .i64 e.st, .int .i64 e.lg, .string e.ru.fq, .int .i64 e.ru.ev, .slice a1 n6 c1, .int .i64 e.ru.ct, .int .i64 e.ru.un, .slice a2 n9 c2, .slice none 0 0] 40) := by rw [← hV]; exact row_set r9 9 _
  have q10 : Rv V9 e (.slice a1 n6 c1) (.slice a2 n9 c2) (.slice a3 n10 c3) := by rw [← hV]; exact ⟨reads_far q9.d F1.out (by omega), reads_far q9.s F2.out (by omega), mreads_far q9.m F3.out (by omega)⟩
  have p10 : Below w.heap.size w V9 := by rw [← hV]; exact p9.setCell (p := ⟨w.heap.size + 1, 9, none⟩) (Nat.le_succ _) _
  rw [hV]
  clear hV r9 q9 p9
  obtain ⟨V10, hV⟩ : ∃ V, V9.setCell ⟨w.heap.size + 1, 10, none⟩ (.slice a3 n10 c3) = V := ⟨_, rfl⟩
  have r11 : V10.heap[w.heap.size + 1]? = some (.cells #[.string e.id, .string e.ti, .int .i64 e.st, .int .i64 e.lg, .string e.ru.fq, .int .i64 e.ru.ev, .slice a1 n6 c1, .int .i64 e.ru.ct, .int .i64 e.ru.un, .slice a2 n9 c2, .slice a3 n10 c3] 40) := by rw [← hV]; exact row_set r10 10 _
  have q11 : Rv V10 e (.slice a1 n6 c1) (.slice a2 n9 c2) (.slice a3 n10 c3) := by rw [← hV]; exact ⟨reads_far q10.d F1.out (by omega), reads_far q10.s F2.out (by omega), mreads_far q10.m F3.out (by omega)⟩
  have p11 : Below w.heap.size w V10 := by rw [← hV]; exact p10.setCell (p := ⟨w.heap.size + 1, 10, none⟩) (Nat.le_succ _) _
  rw [hV]
  clear hV r10 q10 p10
  (try simp only [Exit.inBlock, Exit.then])
  refine bodyPost_ret (results_cell_row rfl _ _ (w.heap.size + 1) _ _ _ _ rfl r11 Tryz.underlying40 rfl (by kernel_rfl)) rfl ?_
  exact ⟨.slice a1 n6 c1, .slice a2 n9 c2, .slice a3 n10 c3, rfl, q11, p11⟩
end Evt
end Go.Proofs.YtghkalamlcfnnaaGreatDoor
