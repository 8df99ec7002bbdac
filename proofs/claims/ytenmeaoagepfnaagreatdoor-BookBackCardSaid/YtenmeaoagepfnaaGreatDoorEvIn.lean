/- package event: Days, of an event that passes. -/
import Derived.Test.YtenmeaoagepfnaaGreatDoorA10
import Derived.Stop.RegionWithIn
import Derived.Laws.EntriesVeiled
import Derived.Sort.QuietIn
namespace Go.Proofs.YtenmeaoagepfnaaGreatDoor
open Go Go.RowKit Go.Shelf Lmd
attribute [local go_sem] Oper.semAt_some
namespace Evt
open Rul Day Cand Er

theorem rng_rule {B b : Nat} (e : Ev) (ka kb : Int) (hb : b < B) : Rng.Stable B (fun hi pre W' => Holds b hi (ruleIn e pre ka kb) W') := by
  intro hi s A C row hB hs hg hr
  exact holds_kept hs hg (fun r e => by have := (hr r e).1; omega) (fun r e => (hr r e).2)

/-- a number behind a boxed slice of one's own, inside a fence -/
theorem append_box {F : Fence} {n : Nat} {W : World} {ops : Array Oper} {rest : List Oper} {o : Oper} {a : Act} {Q : Exit → Act → World → Prop} (hgd : o.guard = none) (s x : Operand)
    (ho : o.op = .call { callee := .builtin .append, args := #[s, x], argTypes := #[30, 30] }) (b hi : Nat) (l : List Int) (a0 : Option Addr) (c0 : Nat) (y : Int) (hs : a.eval s = .slice a0 l.length c0)
    (hv : Boxed W b 30 (.slice a0 l.length c0)) (hrow : W.ownsRow hi 3 1 (.slice a0 l.length c0) l.length (cellsOf l)) (hx : a.eval x = .slice (some ⟨W.heap.size, 0, none⟩) 1 1) (O : Nat → Prop) (hO : O b) (hl : l.length ≤ 3000000) (hbase : hi ≤ W.heap.size)
    (h : ∀ a' c' w', Boxed w' b 30 (.slice a0 l.length c0) → Holds b hi (l ++ [y]) (w'.setCell ⟨b, 0, none⟩ (.slice a' (l.length + 1) c')) → Rng.Stay O hi W (w'.setCell ⟨b, 0, none⟩ (.slice a' (l.length + 1) c')) →
      wpListIn F n Tryz.prog ops Q rest (a.put o.dst (.slice a' (l.length + 1) c')) w') : wpListIn F n Tryz.prog ops Q (o :: rest) a (W.alloc (.cells #[.int .i64 y] 3)) := by
  obtain ⟨i0, hi0, hz0, hz1, hz2⟩ := info_parts int_info
  refine wpListIn_append_own _ hgd s x 30 ho hi 3 i0 _ 1 8 Tryz.underlying30 hi0 hz0 hz1 hz2 rfl (by omega) (.slice a0 l.length c0) l.length (cellsOf l) hs (hrow.alloc _) ⟨W.heap.size, 0, none⟩ 1 1 [.int .i64 y] hx rfl
    (fun j u hu => by
      cases j with
      | zero => simp at hu; subst hu; exact (Boxed.new W _ _).cell
      | succ j => simp at hu) (fun u hu => by simp at hu; subst hu; rfl) (by simp only [maxLen]; omega) (by omega) (by simp; omega) ?_
  intro v1 w1 hown' hg hnil
  have hap := holds_append hv hrow hO hown' hg
  obtain ⟨a1, c1, rfl⟩ := own_at hown'
  exact h a1 c1 w1 hap.1 hap.2.1 hap.2.2
theorem own_mono {w : World} {base base' size : Nat} {e : TypeId} {v : Value} {n : Nat} {xs : List Value} (h : w.ownsRow base e size v n xs) (hb : base' ≤ base) : w.ownsRow base' e size v n xs := by
  refine ⟨h.1, h.2.imp id ?_⟩
  rintro ⟨g, cap, cur, h1, h2, h3⟩
  exact ⟨g, cap, cur, h1, by omega, h3⟩
theorem holds_mono {b hi hi' : Nat} {l : List Int} {W : World} (h : Holds b hi l W) (hb : hi' ≤ hi) : Holds b hi' l W := by
  obtain ⟨v, h1, h2⟩ := h
  exact ⟨v, h1, own_mono h2 hb⟩
theorem holds_below {b hi : Nat} {l : List Int} {W W' : World} (h : Holds b hi l W) (hb : Below W.heap.size W W') : Holds b hi l W' :=
  holds_kept h (Rng.grownBy_of_below hb) (fun r e => by cases e) (fun r e => by cases e)

set_option maxRecDepth 100000 in
set_option maxHeartbeats 8000000 in
theorem days_good (e : Ev) (vd vs vm : Value) (ka kb : Int) (L : List Int) (er : Nat → Addr) (w : World) (he : E7 w er) (hr : Rv w e vd vs vm) (hz : Size e) (hbad : badE e = 0) (hG : Gives e.st e.ru vd L w) (hF : Fit e L) :
    Calls Tryz.prog 108 #[.agg (e.cells vd vs vm), .int .i64 ka, .int .i64 kb] w fun r w' =>
      ∃ v' er', r = .returned (.tuple #[v', er']) ∧ ((1000 < (daysIn e L ka kb).length ∧ v' = .slice none 0 0 ∧ er' = ev (er 6)) ∨ ((daysIn e L ka kb).length ≤ 1000 ∧ er' = .nilIface ∧ RowI w' v' (daysIn e L ka kb))) ∧ Below w.heap.size w w' := by
  obtain ⟨a6, c6, rfl⟩ := hr.d.shape
  obtain ⟨a9, c9, rfl⟩ := hr.s.shape
  obtain ⟨a10, c10, rfl⟩ := hr.m.shape
  obtain ⟨i0, hi0, hz0, hz1, hz2⟩ := info_parts int_info
  refine (callsIn_wide (n := Rng.dp + 1)).1 ?_
  refine callsIn_of_wp_marks Tryz.func108 rfl trivial ?_ rfl
  simp only [Tryz.ntmps108, List.size_toArray, List.length_cons, List.length_nil, Nat.reduceAdd, Nat.reduceSub, Array.replicate_succ, Array.replicate_zero, List.push_toArray, List.append_toArray, List.nil_append, List.cons_append]
  have hck : ∀ w', Below w.heap.size w w' → Calls Tryz.prog 53 #[.agg (e.cells (.slice a6 e.ru.ds.length c6) (.slice a9 e.sk.length c9) (.slice a10 e.mv.length c10))] w' fun e' w1 => e' = .returned .nilIface ∧ Below w'.heap.size w' w1 := fun w' h => by
    have := check_any e _ _ _ er w' (he.below h) (hr.below h) hz
    rw [hbad] at this
    exact this
  have hall := fun w' => all_any e.st e.ru (.slice a6 e.ru.ds.length c6) w'
  simp only [Ru.val] at hall
  have hgo := fun (d : Int) w' (h : Below w.heap.size w w') => gone_any e _ _ _ d w' (hr.below h) hz.sk hz.mv
  have his := fun (d : Int) w' (h : Below w.heap.size w w') => is_any e.st e.ru _ d L er w' (hG.below h) (he.below h).four (hr.d.below h)
  simp only [Ru.val] at his
  have HCK := Lib.hid hck
  have HALL := Lib.hid hall
  have HGO := Lib.hid hgo
  have HIS := Lib.hid his
  have HR := Lib.hid hr
  have HE := Lib.hid he
  have HG := Lib.hid hG
  have HF := Lib.hid hF
  have HMV := Lib.hid hz.mv
  obtain ⟨n6, hn6⟩ : ∃ n, e.ru.ds.length = n := ⟨_, rfl⟩
  obtain ⟨n9, hn9⟩ : ∃ n, e.sk.length = n := ⟨_, rfl⟩
  obtain ⟨n10, hn10⟩ : ∃ n, e.mv.length = n := ⟨_, rfl⟩
  rw [hn6] at HCK HALL HGO HIS HR HG ⊢
  rw [hn9] at HCK HGO HR ⊢
  rw [hn10] at HCK HGO HR HMV ⊢
  have HN10 := Lib.hid hn10
  obtain ⟨Wa, hWa⟩ : ∃ Wa, ((w.alloc (.cells (e.cells (.slice a6 n6 c6) (.slice a9 n9 c9) (.slice a10 n10 c10)) 35)).alloc (.cells #[.int .i64 ka] 3)).alloc (.cells #[.int .i64 kb] 3) = Wa := ⟨_, rfl⟩
  have hza : Wa.heap.size = w.heap.size + 1 + 1 + 1 := by rw [← hWa]; simp
  have hBa : Below w.heap.size w Wa := by
    rw [← hWa]
    exact (((Below.refl _ w).alloc (Nat.le_refl _) _).alloc (by simp) _).alloc (by simp; omega) _
  have x0 : Wa.heap[w.heap.size]? = some (.cells (e.cells (.slice a6 n6 c6) (.slice a9 n9 c9) (.slice a10 n10 c10)) 35) := by
    rw [← hWa]
    exact (Below.heap_alloc _ _ _ (by simp; omega)).trans ((Below.heap_alloc _ _ _ (by simp)).trans (heap_new w _))
  have b4 : Boxed Wa (w.heap.size + 1) 3 (.int .i64 ka) := by
    have h := (Boxed.new (w.alloc (.cells (e.cells (.slice a6 n6 c6) (.slice a9 n9 c9) (.slice a10 n10 c10)) 35)) 3 (.int .i64 ka)).alloc (.cells #[.int .i64 kb] 3)
    rw [hWa] at h; simpa only [World.size_alloc] using h
  have b5 : Boxed Wa (w.heap.size + 1 + 1) 3 (.int .i64 kb) := by
    have h := Boxed.new ((w.alloc (.cells (e.cells (.slice a6 n6 c6) (.slice a9 n9 c9) (.slice a10 n10 c10)) 35)).alloc (.cells #[.int .i64 ka] 3)) 3 (.int .i64 kb)
    rw [hWa] at h; simpa only [World.size_alloc] using h
  have HWA := Lib.hid hWa
  have HX0 := Lib.hid x0
  clear hr he hG hF hz hbad hck hall hgo his hn6 hn9 hn10 hWa x0
  obtain ⟨k0, k1, k2, k3, k4, k5, k6, k7, k8, k9, k10⟩ := cells11 HX0.out
  gi_wp2_with fail
  rw [HWA.out]
  refine ⟨trivial, (callsIn_wide.2 (HCK.out Wa hBa)).mono ?_⟩
  rintro e1 w1 ⟨rfl, hb1⟩
  have hs1 := hb1.size
  have HB1 := Lib.hid hb1
  have hb1' : Below w1.heap.size w1 (w1.alloc (.cells #[.slice none 0 0] 30)) := (Below.refl _ w1).alloc (Nat.le_refl _) _
  clear hb1 k0 k1 k2 k3 k4 k5 k6 k7 k8 k9 k10
  obtain ⟨k0, k1, k2, k3, k4, k5, k6, k7, k8, k9, k10⟩ := cells11 (row_below (row_below HX0.out HB1.out) hb1')
  gi_wp2_with (refine ⟨trivial, ?_⟩; gi_at_call 157; refine (callsIn_wide.2 (HALL.out _)).mono ?_; rintro e' w2 ⟨rfl, rfl⟩)
  rename_i K hKK
  have hBX := boxes_new e.st e.ru (.slice a6 n6 c6) (w1.alloc (.cells #[.slice none 0 0] 30)) ((HR.out.d.below hBa).below (HB1.out.trans (hb1'.mono hs1))) 3 32
  have bO := ((Boxed.new w1 30 (.slice none 0 0)).alloc (.cells #[.int .i64 e.st] 3)).alloc (.cells #[.string e.ru.fq, .int .i64 e.ru.ev, .slice a6 n6 c6, .int .i64 e.ru.ct, .int .i64 e.ru.un] 32)
  obtain ⟨W0, hW0⟩ : ∃ W0, ((w1.alloc (.cells #[.slice none 0 0] 30)).alloc (.cells #[.int .i64 e.st] 3)).alloc (.cells #[.string e.ru.fq, .int .i64 e.ru.ev, .slice a6 n6 c6, .int .i64 e.ru.ct, .int .i64 e.ru.un] 32) = W0 := ⟨_, rfl⟩
  have hB01 : Below w1.heap.size w1 W0 := by rw [← hW0]; exact (((Below.refl _ w1).alloc (Nat.le_refl _) _).alloc (by simp) _).alloc (by simp; omega) _
  have hz : W0.heap.size = w1.heap.size + 3 := by rw [← hW0]; simp
  rw [World.size_alloc] at hBX
  rw [hW0] at hBX bO ⊢
  have hBw1 : Below w.heap.size w w1 := hBa.trans (HB1.out.mono (by omega))
  have hBw : Below w.heap.size w W0 := hBw1.trans (hB01.mono (by omega))
  have x1 := row_below HX0.out HB1.out
  have b41 := b4.kept (Rng.grownBy_of_below HB1.out) (by simp)
  have b51 := b5.kept (Rng.grownBy_of_below HB1.out) (by simp)
  have hgl : 2 < w.heap.size := cell_lt HE.out.s1.1
  have X1 := Lib.hid x1
  have B41 := Lib.hid b41
  have B51 := Lib.hid b51
  have BO := Lib.hid bO
  have HBX := Lib.hid hBX
  have HB01 := Lib.hid hB01
  have HBW1 := Lib.hid hBw1
  have HZ := Lib.hid hz
  have HZA := Lib.hid hza
  have HLT := Lib.hid (show w.heap.size + 1 + 1 + 1 ≤ w1.heap.size by omega)
  have HS1 := Lib.hid hs1
  have HBW := Lib.hid hBw
  have HKK := Lib.hid hKK
  clear hW0 b4 b5 k0 k1 k2 k3 k4 k5 k6 k7 k8 k9 k10 hBX bO hB01 hBw1 hBw x1 b41 b51 hKK hBa hb1' HB1 HX0 HWA HCK HALL hz hza hs1
  -- what a world is known by that came from w1 with all below w1's size kept
  have hkn : ∀ W', Below w1.heap.size w1 W' → W'.heap[w.heap.size]? = some (.cells (e.cells (.slice a6 n6 c6) (.slice a9 n9 c9) (.slice a10 n10 c10)) 35) ∧ W'.cell? ⟨w.heap.size + 1, 0, none⟩ = some (.int .i64 ka) ∧ W'.cell? ⟨w.heap.size + 1 + 1, 0, none⟩ = some (.int .i64 kb) ∧ Below w.heap.size w W' := fun W' h =>
    ⟨row_below X1.out h, cell_later h B41.out.cell, cell_later h B51.out.cell, HBW1.out.trans (h.mono HBW1.out.size)⟩
  have HKN := Lib.hid hkn
  clear hkn
  have hmid : ∀ (D hi : Nat) (out : List Int) (W' : World), W0.heap.size ≤ D → D < hi → hi ≤ W'.heap.size → Holds w1.heap.size hi out W' → Got e L ka kb out → out.length ≤ 1001 → Rng.Stay (fun b => b = w1.heap.size) W0.heap.size W0 W' → W'.heap[D]? = some (.deferred (some [])) →
      K { tmps := #[.agg (e.cells (.slice a6 n6 c6) (.slice a9 n9 c9) (.slice a10 n10 c10)), .int .i64 ka, .int .i64 kb, .pointer (some ⟨w.heap.size, 0, none⟩), .pointer (some ⟨w.heap.size + 1, 0, none⟩), .pointer (some ⟨w.heap.size + 1 + 1, 0, none⟩), .slice none 0 0, .nilIface, .nilIface, .pointer (some ⟨w1.heap.size, 0, none⟩), undef, undef, undef, .agg #[.string e.id, .string e.ti, .int .i64 e.st, .int .i64 e.lg, .string e.ru.fq, .int .i64 e.ru.ev, .slice a6 n6 c6, .int .i64 e.ru.ct, .int .i64 e.ru.un, .slice a9 n9 c9, .slice a10 n10 c10], .nilIface, .nilIface, .bool false, undef, .pointer (some ⟨w.heap.size, 2, none⟩), .int .i64 e.st, .pointer (some ⟨w.heap.size, 4, none⟩), .agg #[.string e.ru.fq, .int .i64 e.ru.ev, .slice a6 n6 c6, .int .i64 e.ru.ct, .int .i64 e.ru.un], .func (.func 210) #[] (la (w1.heap.size + 1 + 1) (w1.heap.size + 1)), undef, undef, undef, undef, undef, undef, undef, undef, undef, undef, undef, undef, undef, undef, undef, undef, undef, undef, undef, undef, undef, undef, undef, undef, undef, undef, undef, undef, undef, undef, undef, undef, undef, undef, undef, undef, undef, undef, undef, undef, undef, undef, undef, undef, undef, undef, undef, undef, undef, undef, undef, undef, undef, undef, undef, undef, undef, undef, undef, undef, undef, undef, undef], defers := [{ target := .collected D, args := #[] }] } W' := by
    intro D hi out W' hD hDh hsz hh hgot hlen hst hK
    have hzz := HZ.out
    have hbW := HB01.out.trans (stay_below hst (fun b h => by omega) (by omega) (by omega) : Below w1.heap.size W0 W')
    have hh0 : Holds w1.heap.size (w1.heap.size + 1) out W' := holds_mono hh (by omega)
    have hszW : w1.heap.size + 1 ≤ W'.heap.size := by omega
    have HBWW := Lib.hid hbW
    have HH0 := Lib.hid hh0
    have HGOT := Lib.hid hgot
    have HLEN := Lib.hid hlen
    have HK := Lib.hid hK
    have HD := Lib.hid (show w1.heap.size + 1 ≤ D by omega)
    have HSW := Lib.hid hszW
    obtain ⟨xr, -, -, -⟩ := HKN.out W' hbW
    obtain ⟨k0, k1, k2, k3, k4, k5, k6, k7, k8, k9, k10⟩ := cells11 xr
    refine HKK.out _ _ ?_
    clear hzz hbW hh0 hgot hlen hst hK hh hD hDh hsz hszW xr
    gi_wp2_with fail
    gi_loopw [48] (fun p wr => ∃ k : Nat, k ≤ n10 ∧ p = .int .i64 (k : Int) ∧ Holds w1.heap.size (w1.heap.size + 1) (out ++ movesIn (e.mv.take k) L ka kb) wr ∧ Rng.Stay (fun b => b = w1.heap.size) (w1.heap.size + 1) W' wr) (fun p _ => n10 - (intOf p).toNat)
    case atStart => exact ⟨0, Nat.zero_le _, rfl, by simpa [movesIn] using HH0.out, Rng.Stay.refl _ _ _⟩
    case round =>
      obtain ⟨k, hk, rfl, hh, hst⟩ := hrel
      have hsw := HSW.out
      have hn10 := HMV.out
      have hbr := HBWW.out.trans (stay_below hst (fun b h => by omega) (by omega) (by omega) : Below w1.heap.size W' _)
      obtain ⟨xr, y4, y5, hbw⟩ := HKN.out _ hbr
      have hszr : w1.heap.size + 1 ≤ wr.heap.size := Nat.le_trans hsw hst.size
      obtain ⟨j0, j1, j2, j3, j4, j5, j6, j7, j8, j9, j10⟩ := cells11 xr
      obtain ⟨a, c, hbx, hown, _⟩ := holds_reads hh
      have yO := hbx.cell
      have HH := Lib.hid hh
      have HST := Lib.hid hst
      have HBR := Lib.hid hbr
      have HBWR := Lib.hid hbw
      have HBXR := Lib.hid hbx
      have HOWN := Lib.hid hown
      have HSZR := Lib.hid hszr
      have HXR := Lib.hid xr
      clear hsw hbx hh hst hbr xr hszr
      by_cases hlt : k < n10
      · obtain ⟨-, b, o, ha9, hc⟩ := (HR.out.m.below hbw).at (by intro h; have := HN10.out; rw [h] at this; simp at this; omega)
        subst ha9
        obtain ⟨c1, c2⟩ := hc k (by rw [HN10.out]; exact hlt)
        have htk : e.mv.take (k + 1) = e.mv.take k ++ [ml e.mv k] := by
          rw [List.take_succ_eq_append_getElem (by rw [HN10.out]; exact hlt), ml_lt (by rw [HN10.out]; exact hlt)]
        obtain ⟨m, hm⟩ : ∃ m, ml e.mv k = m := ⟨_, rfl⟩
        rw [hm] at c1 c2 htk
        obtain ⟨m1, m2⟩ := m
        simp only at c1 c2
        have hsn := movesIn_snoc (e.mv.take k) (m1, m2) L ka kb
        rw [← htk] at hsn
        simp only at hsn
        have hos : (out ++ movesIn (e.mv.take k) L ka kb).length ≤ 3000000 := by
          have h1 := HLEN.out
          have h2 := HMV.out
          have h3 : (movesIn (e.mv.take k) L ka kb).length ≤ k := by
            unfold movesIn
            rw [List.length_map]
            exact Nat.le_trans (List.length_filter_le _ _) (by rw [List.length_take]; omega)
          rw [List.length_append]; omega
        have HOS := Lib.hid hos
        have hlt' : (k : Int) < (n10 : Int) := by omega
        clear hc htk hm hbw hown hos
        -- nothing is taken, in a world above this one
        have hno : ∀ wx, Below wr.heap.size wr wx → movesIn (e.mv.take (k + 1)) L ka kb = movesIn (e.mv.take k) L ka kb → Holds w1.heap.size (w1.heap.size + 1) (out ++ movesIn (e.mv.take (k + 1)) L ka kb) wx ∧ Rng.Stay (fun b => b = w1.heap.size) (w1.heap.size + 1) W' wx := fun wx hx he =>
          ⟨by rw [he]; exact holds_below HH.out hx, HST.out.trans (Rng.Stay.of_below hx)⟩
        have HNO := Lib.hid hno
        have hal : Below wr.heap.size wr (wr.alloc (.cells #[.int .i64 m1, .int .i64 m2] 104)) := (Below.refl _ wr).alloc (Nat.le_refl _) _
        have HAL := Lib.hid hal
        have hszr := HSZR.out
        obtain ⟨xr2, z4, z5, -⟩ := HKN.out _ (HBR.out.trans (hal.mono (by omega)))
        obtain ⟨i0, i1, i2, i3, i4, i5, i6, i7, i8, i9, i10⟩ := cells11 xr2
        have zO := (HBXR.out.alloc (.cells #[.int .i64 m1, .int .i64 m2] 104)).cell
        clear hno hal hszr xr2 y4 y5 yO
        by_cases h1 : ka ≤ m2
        case neg =>
          have hd : (decide (ka ≤ m2 ∧ m2 ≤ kb) && isB L m1) = false := by rw [decide_eq_false (by omega)]; rfl
          rw [hd, if_neg (by simp), List.append_nil] at hsn
          have HSN := Lib.hid hsn
          have hb1 := decide_eq_false h1
          clear hsn hd h1
          gi_wp2
          refine ⟨trivial, ?_⟩
          gi_wp2
          go_roundw
          case rel => obtain ⟨e1, e2⟩ := HNO.out _ HAL.out HSN.out; (first | exact ⟨k + 1, by omega, by go_num, e1, e2⟩ | ((repeat apply Exists.intro); exact ⟨⟨k + 1, by omega, by go_num, e1, e2⟩, rfl⟩))
          case measure => simp [intOf]; omega
        by_cases h2 : m2 ≤ kb
        case neg =>
          have hd : (decide (ka ≤ m2 ∧ m2 ≤ kb) && isB L m1) = false := by rw [decide_eq_false (by omega)]; rfl
          rw [hd, if_neg (by simp), List.append_nil] at hsn
          have HSN := Lib.hid hsn
          have hb1 := decide_eq_true h1
          have hb2 := decide_eq_false h2
          clear hsn hd h1 h2
          gi_wp2
          refine ⟨trivial, ?_⟩
          gi_wp2
          go_roundw
          case rel => obtain ⟨e1, e2⟩ := HNO.out _ HAL.out HSN.out; (first | exact ⟨k + 1, by omega, by go_num, e1, e2⟩ | ((repeat apply Exists.intro); exact ⟨⟨k + 1, by omega, by go_num, e1, e2⟩, rfl⟩))
          case measure => simp [intOf]; omega
        have hd : decide (ka ≤ m2 ∧ m2 ≤ kb) = true := decide_eq_true ⟨h1, h2⟩
        rw [hd, Bool.true_and] at hsn
        have hic := fun wx (hx : Below wr.heap.size wr wx) => HIS.out m1 wx (HBWR.out.trans (hx.mono HBWR.out.size))
        obtain ⟨q, hq⟩ : ∃ q, isB L m1 = q := ⟨_, rfl⟩
        rw [hq] at hsn hic
        have HIC := Lib.hid hic
        have HSN := Lib.hid hsn
        have hb1 := decide_eq_true h1
        have hb2 := decide_eq_true h2
        clear hsn hic hq hd h1 h2
        gi_wp2_with fail
        refine ⟨trivial, (callsIn_wide.2 (HIC.out _ HAL.out)).mono ?_⟩
        rintro e2 w2 ⟨rfl, hb2⟩
        have HB2 := Lib.hid (HAL.out.trans (hb2.mono HAL.out.size))
        have HBM := Lib.hid hb2
        clear hb2 j0 j1 j2 j3 j4 j5 j6 j7 j8 j9 j10 i0 i1 i2 i3 i4 i5 i6 i7 i8 i9 i10 z4 z5 zO c1 c2
        cases q with
        | false =>
          have hsn := HSN.out
          rw [if_neg (by simp), List.append_nil] at hsn
          have HSN2 := Lib.hid hsn
          clear hsn
          gi_wp2
          go_roundw
          case rel => obtain ⟨e1, e2⟩ := HNO.out _ HB2.out HSN2.out; (first | exact ⟨k + 1, by omega, by go_num, e1, e2⟩ | ((repeat apply Exists.intro); exact ⟨⟨k + 1, by omega, by go_num, e1, e2⟩, rfl⟩))
          case measure => simp [intOf]; omega
        | true =>
          have hsn := HSN.out
          rw [if_pos (by simp)] at hsn
          have HSN2 := Lib.hid hsn
          have bx2 := HBXR.out.kept (Rng.grownBy_of_below HB2.out) (by simp)
          have hmc : w2.cell? ⟨wr.heap.size, 0, none⟩ = some (.int .i64 m1) ∧ w2.cell? ⟨wr.heap.size, 1, none⟩ = some (.int .i64 m2) := ⟨cell_later HBM.out (cell_of (heap_new wr _) rfl), cell_later HBM.out (cell_of (heap_new wr _) rfl)⟩
          obtain ⟨mc1, mc2⟩ := hmc
          have yO := bx2.cell
          have HBX2 := Lib.hid bx2
          obtain ⟨S, hS⟩ : ∃ S, out ++ movesIn (e.mv.take k) L ka kb = S := ⟨_, rfl⟩
          rw [hS] at yO HBX2 HOWN HOS HH
          have HOWN2 := Lib.hid (own_below HOWN.out HB2.out)
          have HS := Lib.hid hS
          clear hsn bx2 hS
          gi_wp2_with (gi_at_builtin
                       refine append_box rfl (.tmp 71) (.tmp 74) rfl w1.heap.size (w1.heap.size + 1) S a c m2 rfl HBX2.out HOWN2.out rfl (fun b => b = w1.heap.size) rfl HOS.out (Nat.le_trans HSZR.out HB2.out.size) ?_
                       intro a1 c1 wz hbz hhz hstz
                       have z1 := hbz.cell
                       have z2 := hbz.frozen
                       have HHZ := Lib.hid hhz
                       have HSTZ := Lib.hid hstz
                       clear hbz hhz hstz)
          go_roundw
          case rel =>
            have e0 : out ++ movesIn (e.mv.take (k + 1)) L ka kb = S ++ [m2] := by rw [HSN2.out, ← List.append_assoc, HS.out]
            have e1 := HHZ.out
            rw [← e0] at e1
            have e2 := (HST.out.trans (Rng.Stay.of_below HB2.out)).trans HSTZ.out
            first | exact ⟨k + 1, by omega, by go_num, e1, e2⟩ | ((repeat apply Exists.intro); exact ⟨⟨k + 1, by omega, by go_num, e1, e2⟩, rfl⟩)
          case measure => simp [intOf]; omega
      · obtain rfl : k = n10 := by omega
        have htk : e.mv.take k = e.mv := by rw [← HN10.out, List.take_length]
        rw [htk] at hown yO HBXR HOWN HH
        have hos : (out ++ movesIn e.mv L ka kb).length ≤ 3000000 := by
          have h1 := HLEN.out
          have h2 := HMV.out
          have h3 : (movesIn e.mv L ka kb).length ≤ e.mv.length := by
            unfold movesIn
            rw [List.length_map]
            exact List.length_filter_le _ _
          have h4 := HN10.out
          rw [List.length_append]; omega
        have hrow := rowI_own hown
        obtain ⟨S, hS⟩ : ∃ S, out ++ movesIn e.mv L ka kb = S := ⟨_, rfl⟩
        rw [hS] at yO HBXR HOWN HH hrow hos
        have HS := Lib.hid hS
        have HSO := Lib.hid (sort_any _ S wr hrow hos)
        have HOS := Lib.hid hos
        clear hown htk hrow hS hos hbw j0 j1 j2 j3 j4 j5 j6 j7 j8 j9 j10
        gi_wp2_with fail
        refine ⟨trivial, (callsIn_wide.2 HSO.out).mono ?_⟩
        rintro e5 w5 ⟨rfl, hr5, hg5⟩
        have hkr : wr.heap[D]? = some (.deferred (some [])) := HST.out.same D _ HK.out (.inl rfl)
        have hge : ∀ j, (Value.slice a S.length c).ownBlock = some j → w1.heap.size + 1 ≤ j := fun j ej => own_ge HOWN.out ej
        have hne : some w1.heap.size ≠ (Value.slice a S.length c).ownBlock := fun ej => by have := hge _ ej.symm; omega
        have hneD : some D ≠ (Value.slice a S.length c).ownBlock := own_not HOWN.out hkr
        have hk5 : w5.heap[D]? = some (.deferred (some [])) := (hg5.block D (row_lt hkr) hneD).trans hkr
        have bx5 := HBXR.out.kept hg5 hne
        have hb5 : Below w1.heap.size w1 w5 := HBR.out.trans ((Below.refl _ wr).grown hg5 (by have := HSZR.out; omega) (fun j ej => by have := hge j ej; omega))
        have yO5 := bx5.cell
        have HCO := Lib.hid (compact_any _ _ w5 hr5 (by rw [sort_len]; exact HOS.out))
        have HGE := Lib.hid hge
        have HNE := Lib.hid hne
        have HNED := Lib.hid hneD
        have HK5 := Lib.hid hk5
        have HBX5 := Lib.hid bx5
        have HB5 := Lib.hid hb5
        clear hr5 hg5 hkr hge hne hneD hk5 bx5 hb5 yO
        gi_wp2_with fail
        refine ⟨trivial, (callsIn_wide.2 HCO.out).mono ?_⟩
        rintro e6 w6 ⟨v6, rfl, hr6, hob, hg6⟩
        have hk6 : w6.heap[D]? = some (.deferred (some [])) := (hg6.block D (row_lt HK5.out) HNED.out).trans HK5.out
        have bx6 := HBX5.out.kept hg6 HNE.out
        have hb6 : Below w1.heap.size w1 w6 := HB5.out.trans ((Below.refl _ w5).grown hg6 (by have := HB5.out.size; omega) (fun j ej => by have := HGE.out j ej; omega))
        obtain ⟨a6x, c6x, rfl⟩ := hr6.shape
        have hr7 := hr6.set (u := .slice a6x (Lib.compact (S.mergeSort fun x y => decide (x ≤ y))).length c6x) (b := w1.heap.size) (by rw [hob]; exact HNE.out)
        have hr8 := fun (o : Obj) => hr7.put (D := D) (o := o) (by rw [hob]; exact HNED.out)
        obtain ⟨U, hU⟩ : ∃ U, Lib.compact (S.mergeSort fun x y => decide (x ≤ y)) = U := ⟨_, rfl⟩
        have hUu : Cpt.uniq (out ++ movesIn e.mv L ka kb) = U := by rw [HS.out]; exact hU
        rw [hU] at hr8 ⊢
        have hlaw := days_law HF.out HGOT.out
        rw [hUu] at hlaw
        have y6 := bx6.cell
        have f6 := bx6.frozen
        have bx7 := bx6.set (.slice a6x U.length c6x)
        have y7 := bx7.cell
        have hk7 : (w6.setCell ⟨w1.heap.size, 0, none⟩ (.slice a6x U.length c6x)).heap[D]? = some (.deferred (some [])) := by
          have := HD.out
          rw [Below.heap_setCell _ _ _ _ (by show D ≠ w1.heap.size; omega)]; exact hk6
        have hb7 : Below w1.heap.size w1 (w6.setCell ⟨w1.heap.size, 0, none⟩ (.slice a6x U.length c6x)) := hb6.setCell (p := ⟨w1.heap.size, 0, none⟩) (Nat.le_refl _) _
        have hff := (HE.out.below (HBW1.out.trans (hb7.mono HBW1.out.size))).s6.1
        have HR8 := Lib.hid hr8
        have HLAW := Lib.hid hlaw
        have HK7 := Lib.hid hk7
        have HB7 := Lib.hid hb7
        clear hr6 hob hg6 hk6 hb6 hr7 hr8 hU hUu hlaw bx6 bx7 hk7 hb7 yO5
        by_cases hu : (1000 : Int) < (U.length : Int)
        · have HU := Lib.hid hu
          gi_wp2
          gi_quiet (fail)
          all_goals gi_wp2
          all_goals (
            have hwD : w.heap.size ≤ D := by have := HD.out; have := HLT.out; omega
            refine ⟨by simp, .inl ⟨_, _, rfl, run_takeDeferred (show _ from HK7.out), ?_⟩⟩
            refine ⟨.tuple #[.slice none 0 0, ev (er 6)], ?_, _, _, rfl, .inl ⟨?_, rfl, rfl⟩, ?_⟩
            · simp [results, Tryz.f108, go_sem]
            · have := HU.out
              rcases HLAW.out with ⟨_, h⟩ | h
              · exact h
              · rw [← h]; omega
            · exact (below_draw (HBW1.out.trans (HB7.out.mono HBW1.out.size)) nq).trans (belowK_b (w := w) (Nat.le_refl _) (World.drewN _ nq) D _ _ hwD (show _ from HK7.out) rfl rfl))
        · have HU := Lib.hid hu
          gi_wp2
          have hwD : w.heap.size ≤ D := by have := HD.out; have := HLT.out; omega
          refine ⟨by simp, .inl ⟨_, _, rfl, run_takeDeferred (show _ from HK7.out), ?_⟩⟩
          have hUe : U = daysIn e L ka kb := by
            have := HU.out
            rcases HLAW.out with ⟨h, _⟩ | h
            · omega
            · exact h
          refine ⟨.tuple #[.slice a6x U.length c6x, .nilIface], ?_, _, _, rfl, .inr ⟨by rw [← hUe]; have := HU.out; omega, rfl, ?_⟩, ?_⟩
          · simp [results, Tryz.f108, go_sem]
          · rw [← hUe]; exact HR8.out _
          · exact (HBW1.out.trans (HB7.out.mono HBW1.out.size)).trans (belowK_b (w := w) (Nat.le_refl _) _ D _ _ hwD HK7.out rfl rfl)
  have HMID := Lib.hid hmid
  clear hmid HKK
  refine Rng.range_law (n := Rng.dp + 1) (by decide) (gf := 210) (lb := la (w1.heap.size + 1 + 1) (w1.heap.size + 1)) rfl (enters_of Tryz.func210 (by kernel_rfl) rfl)
    (HG.out W0 _ _ HBW.out HBX.out) (Below.refl _ _) (fun _ => rfl) (fun b => b = w1.heap.size) (fun b hb => by have := HZ.out; omega) ?hR
    (fun hi pre W' => (Holds w1.heap.size hi (ruleIn e pre ka kb) W' ∧ hi ≤ W'.heap.size) ∧ Rng.Stay (fun b => b = w1.heap.size) W0.heap.size W0 W' ∧ (∀ x ∈ pre, x ≤ kb) ∧ (ruleIn e pre ka kb).length ≤ 1001)
    (fun c hi pre W' => c = .exit 0 ∧ ∃ p x, pre = p ++ [x] ∧ (kb < x ∨ 1000 < (ruleIn e p ka kb).length) ∧ (Holds w1.heap.size hi (ruleIn e p ka kb) W' ∧ hi ≤ W'.heap.size) ∧ Rng.Stay (fun b => b = w1.heap.size) W0.heap.size W0 W' ∧ (∀ x ∈ p, x ≤ kb) ∧ (ruleIn e p ka kb).length ≤ 1001)
    ?hI ?hIx ?h0 (fun x => { tmps := #[.agg (e.cells (.slice a6 n6 c6) (.slice a9 n9 c9) (.slice a10 n10 c10)), .int .i64 ka, .int .i64 kb, .pointer (some ⟨w.heap.size, 0, none⟩), .pointer (some ⟨w.heap.size + 1, 0, none⟩), .pointer (some ⟨w.heap.size + 1 + 1, 0, none⟩), .slice none 0 0, .nilIface, .nilIface, .pointer (some ⟨w1.heap.size, 0, none⟩), .int .i64 x, undef, undef, .agg #[.string e.id, .string e.ti, .int .i64 e.st, .int .i64 e.lg, .string e.ru.fq, .int .i64 e.ru.ev, .slice a6 n6 c6, .int .i64 e.ru.ct, .int .i64 e.ru.un, .slice a9 n9 c9, .slice a10 n10 c10], .nilIface, .nilIface, .bool false, undef, .pointer (some ⟨w.heap.size, 2, none⟩), .int .i64 e.st, .pointer (some ⟨w.heap.size, 4, none⟩), .agg #[.string e.ru.fq, .int .i64 e.ru.ev, .slice a6 n6 c6, .int .i64 e.ru.ct, .int .i64 e.ru.un], .func (.func 210) #[] (la (w1.heap.size + 1 + 1) (w1.heap.size + 1)), .int .i64 x, undef, undef, undef, undef, undef, undef, undef, undef, undef, undef, undef, undef, undef, undef, undef, undef, undef, undef, undef, undef, undef, undef, undef, undef, undef, undef, undef, undef, undef, undef, undef, undef, undef, undef, undef, undef, undef, undef, undef, undef, undef, undef, undef, undef, undef, undef, undef, undef, undef, undef, undef, undef, undef, undef, undef, undef, undef, undef, undef, undef, undef, undef], defers := [] }) ?assign ?body ?done ?stop
  case hR =>
    refine ⟨fun h => by omega, fun h => by omega, ?_, fun b h => by have := HLT.out; omega⟩
    intro b o m c hv hm h
    have := reads_lt HR.out.d hv hm
    have := HLT.out
    omega
  case hI =>
    have := HZ.out
    exact rng_and (rng_and (rng_rule e ka kb (by omega)) rng_size) (rng_and (rng_stay _ _ _) (rng_const (fun pre => (∀ x ∈ pre, x ≤ kb) ∧ (ruleIn e pre ka kb).length ≤ 1001)))
  case hIx =>
    have hzz := HZ.out
    intro c hi s A B row hB hs hg hr
    obtain ⟨hc, p, x, e1, hx, ⟨hh, hsz⟩, hst, h3, h4⟩ := hs
    refine ⟨hc, p, x, e1, hx, ⟨holds_kept hh hg (fun r e => by have := (hr r e).1; omega) (fun r e => (hr r e).2), Nat.le_trans hsz hg.size⟩, rng_stay _ _ _ hi s A B row hB hst hg hr, h3, h4⟩
  case h0 =>
    intro W' hW'
    have := HZ.out
    refine ⟨⟨⟨.slice none 0 0, BO.out.kept (Rng.grownBy_of_below hW') (by simp), by simp [ruleIn, cellsOf], .inl ⟨rfl, rfl⟩⟩, Nat.le_refl _⟩, Rng.Stay.of_below hW', by simp, by simp [ruleIn]⟩
  case assign =>
    intro l2 x W' K hK
    gi_wp2
    exact hK
  case body =>
    rintro hi l2 pre x W' hhi ⟨⟨hh, hsz⟩, hst, hle, hln⟩ hlen
    have hzz := HZ.out
    have hbW := HB01.out.trans (stay_below hst (fun b h => by omega) (by omega) (by omega) : Below w1.heap.size W0 W')
    obtain ⟨xr, y4, y5, hbw⟩ := HKN.out W' hbW
    obtain ⟨k0, k1, k2, k3, k4, k5, k6, k7, k8, k9, k10⟩ := cells11 xr
    obtain ⟨a, c, hbx, hown, _⟩ := holds_reads hh
    have yO := hbx.cell
    have HST := Lib.hid hst
    have HH := Lib.hid hh
    have HBX2 := Lib.hid hbx
    have HOWN := Lib.hid hown
    have HSZ := Lib.hid hsz
    have HLE := Lib.hid hle
    have HLN := Lib.hid hln
    have HHI := Lib.hid hhi
    have HBWW := Lib.hid hbw
    clear hst hh hbx hown hsz hle hhi hbw hbW xr hzz
    by_cases h1 : kb < x
    · gi_wp2
      exact ⟨rest_refl _ _, rfl, pre, x, rfl, .inl h1, ⟨HH.out, HSZ.out⟩, HST.out, HLE.out, HLN.out⟩
    have hle2 : ∀ z ∈ pre ++ [x], z ≤ kb := fun z hz => by
      rcases List.mem_append.1 hz with hz | hz
      · exact HLE.out z hz
      · simp at hz; omega
    have HLE2 := Lib.hid hle2
    clear hle2
    by_cases h2 : (1000 : Int) < ((ruleIn e pre ka kb).length : Int)
    · have H2 := Lib.hid h2
      gi_wp2
      exact ⟨rest_refl _ _, rfl, pre, x, rfl, .inr (by have := H2.out; omega), ⟨HH.out, HSZ.out⟩, HST.out, HLE.out, HLN.out⟩
    have hsn := ruleIn_snoc e pre x ka kb
    by_cases h3 : ka ≤ x
    case neg =>
      have hd : (decide (ka ≤ x ∧ x ≤ kb) && !goneB e x) = false := by rw [decide_eq_false (by omega)]; rfl
      rw [hd, if_neg (by simp), List.append_nil] at hsn
      have HSN := Lib.hid hsn
      have h3b := decide_eq_false h3
      clear hsn hd h3
      gi_wp2
      refine ⟨trivial, ?_⟩
      gi_wp2
      exact ⟨Rng.Stay.refl _ _ _, ⟨by rw [HSN.out]; exact HH.out, HSZ.out⟩, HST.out, HLE2.out, by rw [HSN.out]; exact HLN.out⟩
    have hd : decide (ka ≤ x ∧ x ≤ kb) = true := decide_eq_true (by omega)
    have h3b := decide_eq_true h3
    rw [hd, Bool.true_and] at hsn
    have hgc := HGO.out x W' HBWW.out
    obtain ⟨q, hq⟩ : ∃ q, goneB e x = q := ⟨_, rfl⟩
    rw [hq] at hsn hgc
    have HGC := Lib.hid hgc
    have HSN := Lib.hid hsn
    have HLM := Lib.hid (show (ruleIn e pre ka kb).length ≤ 1000 by omega)
    obtain ⟨S, hS⟩ : ∃ S, ruleIn e pre ka kb = S := ⟨_, rfl⟩
    rw [hS] at yO HBX2 HOWN HLM HH HSN h2
    have HS := Lib.hid hS
    clear hsn hgc hq hd hS hln
    gi_wp2_with fail
    refine ⟨trivial, (CallsIn.inRound l2 (callsIn_wide.2 HGC.out)).mono ?_⟩
    rintro e2 w2 ⟨rfl, hb2⟩
    have HS2 := Lib.hid hb2.size
    have HB2 := Lib.hid hb2
    have bx2 := HBX2.out.kept (Rng.grownBy_of_below hb2) (by simp)
    have yO2 := bx2.cell
    have HBX3 := Lib.hid bx2
    have HOWN3 := Lib.hid (own_below HOWN.out hb2)
    have HSTN := Lib.hid (HST.out.trans (Rng.Stay.of_below hb2))
    clear hb2 bx2 k0 k1 k2 k3 k4 k5 k6 k7 k8 k9 k10 yO y4 y5
    cases q with
    | true =>
      have hsn := HSN.out
      rw [if_neg (by simp), List.append_nil] at hsn
      have HSN2 := Lib.hid hsn
      clear hsn
      gi_wp2
      exact ⟨Rng.Stay.of_below HB2.out, ⟨by rw [HSN2.out]; exact holds_below HH.out HB2.out, Nat.le_trans HSZ.out HS2.out⟩, HSTN.out, HLE2.out, by rw [HSN2.out]; have := HLM.out; omega⟩
    | false =>
      have hsn := HSN.out
      rw [if_pos (by simp)] at hsn
      have HSN2 := Lib.hid hsn
      clear hsn
      gi_wp2_with (gi_at_builtin
                   refine append_box rfl (.tmp 41) (.tmp 43) rfl w1.heap.size hi S a c x rfl HBX3.out HOWN3.out rfl (fun b => b = w1.heap.size) rfl (by have := HLM.out; omega) (Nat.le_trans HSZ.out HS2.out) ?_
                   intro a1 c1 wz hbz hhz hstz
                   have z1 := hbz.cell
                   have z2 := hbz.frozen
                   have HHZ := Lib.hid hhz
                   have HSTZ := Lib.hid hstz
                   clear hbz hhz hstz)
      have hs3 := HSTZ.out.size
      have hs2 := HS2.out
      refine ⟨(Rng.Stay.of_below HB2.out).trans HSTZ.out, ⟨by rw [HSN2.out]; exact HHZ.out, Nat.le_trans HSZ.out (Nat.le_trans hs2 hs3)⟩, HSTN.out.trans (HSTZ.out.mono (fun _ _ h => h) (by have := HHI.out; omega)), HLE2.out, by rw [HSN2.out, List.length_append]; have := HLM.out; simp; omega⟩
  case done =>
    rintro D hi xs W' hD hDh rfl ⟨⟨hh, hsz⟩, hst, hle, hln⟩ hK
    exact HMID.out D hi _ W' hD hDh hsz hh (.inl rfl) hln hst hK
  case stop =>
    rintro D hi c pre W' hD hDh hpre ⟨rfl, p, x, rfl, hx, ⟨hh, hsz⟩, hst, hle, hln⟩ hK
    have hgot : Got e L ka kb (ruleIn e p ka kb) := by
      rcases hx with hx | hx
      · exact .inl (ruleIn_stop HF.out.rise hpre hx).symm
      · exact .inr ⟨hx, ruleIn_pre ((List.prefix_append _ _).trans hpre)⟩
    have := HMID.out D hi _ W' hD hDh hsz hh hgot hln hst hK
    clear hst hh hgot
    gi_wp2
    exact this
end Evt
end Go.Proofs.YtenmeaoagepfnaaGreatDoor
