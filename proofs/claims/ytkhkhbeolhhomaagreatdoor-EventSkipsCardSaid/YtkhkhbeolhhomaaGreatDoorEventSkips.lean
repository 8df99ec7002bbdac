/- The walk of the law EventSkips. -/
import Derived.Test.YtkhkhbeolhhomaaGreatDoorEvented
import Derived.Test.YtkhkhbeolhhomaaGreatDoorEvOwn
import Derived.Test.YtkhkhbeolhhomaaGreatDoorSkipLaw
import Derived.Test.YtkhkhbeolhhomaaGreatDoorIntsSame
import Derived.Test.YtkhkhbeolhhomaaGreatDoorBuild
import Derived.Laws.AppendOwnNone
namespace Go.Proofs.YtkhkhbeolhhomaaGreatDoor
open Go Go.RowKit Go.Shelf Lmd
attribute [local go_sem] Oper.semAt_some
namespace Evt
open Rul Day Cand Er

/-- numbers behind numbers of one's own -/
theorem append_more {w : World} {ops : Array Oper} {rest : List Oper} {o : Oper} {a : Act} {Q : Exit → Act → World → Prop} (hgd : o.guard = none) (s x : Operand)
    (ho : o.op = .call { callee := .builtin .append, args := #[s, x], argTypes := #[33, 33] }) (base : Nat) (u : Value) (xs : List Int) (hs : a.eval s = u) (hown : w.ownsRow base 3 1 u xs.length (cellsOf xs))
    (v : Value) (ys : List Int) (hx : a.eval x = v) (hr : Ints.Reads w v ys) (hv : v = .slice none 0 0 ∨ ∃ ad n c, v = .slice (some ad) n c) (hb : xs.length + ys.length ≤ 3000000) (hbase : base ≤ w.heap.size)
    (h : ∀ v' w', Ints.Reads w' v' (xs ++ ys) → Below base w w' → wpList Tryz.prog ops Q rest (a.put o.dst v') w') : wpList Tryz.prog ops Q (o :: rest) a w := by
  obtain ⟨i0, hi0, hz0, hz1, hz2⟩ := info_parts int_info
  rcases hv with rfl | ⟨ad, n, c, rfl⟩
  · have hy : ys = [] := by
      rcases hr with ⟨h, _⟩ | ⟨b, off, cap', h, _⟩
      · exact h
      · cases h
    subst hy
    refine wpList_append_own_none hgd s x 33 ho base 3 i0 1 Tryz.underlying33 hi0 u xs.length (cellsOf xs) hs hown hx ?_
    exact h u w (by rw [List.append_nil]; exact reads_own hown) (Below.refl _ _)
  · obtain ⟨a9, c9, he⟩ := hr.shape
    cases he
    refine wpList_append_own _ hgd s x 33 ho base 3 i0 _ 1 8 Tryz.underlying33 hi0 hz0 hz1 hz2 rfl (by omega) u xs.length (cellsOf xs) hs hown ad ys.length c (cellsOf ys) hx (by rw [cellsOf_len, Nat.mul_one])
      (fun j u hu => by
        obtain ⟨hj, rfl⟩ := cellsOf_at hu
        obtain ⟨_, b, o', ha, hc⟩ := hr.at (by rintro rfl; exact absurd hj (Nat.not_lt_zero _))
        cases ha
        rw [add_plain]; exact hc j hj) cellsOf_one (by simp only [maxLen]; omega) (by omega) hbase ?_
    intro v' w' h1 h2 _
    refine h v' w' ?_ ((Below.refl base w).grown h2 hbase (fun j ej => own_ge hown ej))
    have e : cellsOf xs ++ cellsOf ys = cellsOf (xs ++ ys) := by
      apply List.ext_getElem?
      intro i
      by_cases h1 : i < xs.length
      · rw [List.getElem?_append_left (by rw [cellsOf_len]; exact h1), cellsOf_get h1, cellsOf_get (by rw [List.length_append]; omega)]
        simp [Ints.el, List.getElem?_append_left h1]
      · rw [List.getElem?_append_right (by rw [cellsOf_len]; omega), cellsOf_len]
        by_cases h2 : i < xs.length + ys.length
        · rw [cellsOf_get (by omega), cellsOf_get (by rw [List.length_append]; exact h2)]
          simp only [Ints.el]
          rw [List.getElem?_append_right (by omega)]
        · rw [List.getElem?_eq_none (by rw [cellsOf_len]; omega), List.getElem?_eq_none (by rw [cellsOf_len, List.length_append]; omega)]
    rw [e, ← List.length_append] at h1
    exact reads_own h1
set_option maxRecDepth 100000 in
set_option maxHeartbeats 8000000 in
theorem eventSkips_any (e : Ev) (vd vs vm : Value) (ka kb cut : Int) (er : Nat → Addr) (w : World) (hT : Tb w er) (hr : Rv w e vd vs vm) (hf : Fin64 e) :
    Calls Tryz.prog 4 #[.agg (e.cells vd vs vm), .int .i64 ka, .int .i64 kb, .int .i64 cut] w fun r w' => r = .returned (.bool true) ∧ Below w.heap.size w w' := by
  obtain ⟨W0, hW0⟩ : ∃ W0, w.alloc (.cells (e.cells vd vs vm) 38) = W0 := ⟨_, rfl⟩
  have hB0 : Below w.heap.size w W0 := by rw [← hW0]; exact (Below.refl _ w).alloc (Nat.le_refl _) _
  have hx0 : W0.heap[w.heap.size]? = some (.cells (e.cells vd vs vm) 38) := by rw [← hW0]; exact heap_new w _
  have HEV := Lib.hid (evented_any er W0 (hT.below hB0))
  have HT0 := Lib.hid (hT.below hB0)
  have HR0 := Lib.hid (hr.below hB0)
  have HF := Lib.hid hf
  have HX0 := Lib.hid hx0
  have HB0 := Lib.hid hB0
  have HW0 := Lib.hid hW0
  clear hT hr hf hW0 hB0 hx0
  go_enter Tryz.func4, Tryz.ntmps4
  go_upto_region 1 with fail
  rw [HW0.out]
  go_wp2_with fail
  (with_reducible refine HEV.out.mono ?_)
  rintro e1 w1 ⟨rfl, hb1⟩
  have HX1 := Lib.hid (row_below HX0.out hb1)
  have HR1 := Lib.hid (HR0.out.below hb1)
  have HT1 := Lib.hid (HT0.out.below hb1)
  have HBW1 := Lib.hid (HB0.out.trans (hb1.mono HB0.out.size))
  have hle := longEvent_any e vd vs vm w1 (HR0.out.below hb1) HF.out
  obtain ⟨la, hla⟩ : ∃ la : Int, (if LongP e then (1 : Int) else 0) = la := ⟨_, rfl⟩
  rw [hla] at hle
  have HLE := Lib.hid hle
  have HLA := Lib.hid hla
  clear hb1 hle hla HX0 HR0 HT0 HEV
  obtain ⟨k0, k1, k2, k3, k4, k5, k6, k7, k8, k9, k10⟩ := cells11 HX1.out
  go_wp2_with fail
  (with_reducible refine HLE.out.mono ?_)
  rintro e2 w2 ⟨rfl, hb2⟩
  have HX2 := Lib.hid (row_below HX1.out hb2)
  have HR2 := Lib.hid (HR1.out.below hb2)
  have HT2 := Lib.hid (HT1.out.below hb2)
  have HBW2 := Lib.hid (HBW1.out.trans (hb2.mono HBW1.out.size))
  clear hb2 k0 k1 k2 k3 k4 k5 k6 k7 k8 k9 k10 HX1 HR1 HT1
  by_cases h1 : (0 : Int) < la
  · go_wp2
    go_ret
    exact ⟨rfl, HBW2.out⟩
  by_cases h2 : ka < 0
  · go_wp2
    go_ret
    exact ⟨rfl, HBW2.out⟩
  by_cases h3 : (73048 : Int) < kb
  · go_wp2
    go_ret
    exact ⟨rfl, HBW2.out⟩
  by_cases h4 : kb < ka
  · go_wp2
    go_ret
    exact ⟨rfl, HBW2.out⟩
  by_cases h5 : cut < ka
  · go_wp2
    go_ret
    exact ⟨rfl, HBW2.out⟩
  by_cases h6 : kb < cut
  · go_wp2
    go_ret
    exact ⟨rfl, HBW2.out⟩
  have hsz : Size e := size_of (fun h => by have := HLA.out; rw [if_pos h] at this; omega)
  have HSZ := Lib.hid hsz
  have HOW := Lib.hid (ownEvent_any e vd vs vm w2 HR2.out hsz)
  have HSP := Lib.hid (show 0 ≤ ka ∧ ka ≤ cut ∧ cut ≤ kb ∧ kb ≤ 73048 by omega)
  obtain ⟨k0, k1, k2, k3, k4, k5, k6, k7, k8, k9, k10⟩ := cells11 HX2.out
  clear hsz
  go_wp2_with fail
  (with_reducible refine HOW.out.mono ?_)
  rintro e3 w3 ⟨vd3, vs3, vm3, rfl, hr3, hb3⟩
  obtain ⟨a36, c36, rfl⟩ := hr3.d.shape
  obtain ⟨a39, c39, rfl⟩ := hr3.s.shape
  obtain ⟨a30, c30, rfl⟩ := hr3.m.shape
  have HB3 := Lib.hid hb3
  have HR3 := Lib.hid hr3.d
  clear hb3 hr3 HOW k0 k1 k2 k3 k4 k5 k6 k7 k8 k9 k10
  go_upto_region 5 with fail
  obtain ⟨W4, hW4⟩ : ∃ W4, w3.alloc (.cells #[.string e.id, .string e.ti, .int .i64 e.st, .int .i64 e.lg, .string e.ru.fq, .int .i64 e.ru.ev, .slice a36 e.ru.ds.length c36, .int .i64 e.ru.ct, .int .i64 e.ru.un, .slice a39 e.sk.length c39, .slice a30 e.mv.length c30] 38) = W4 := ⟨_, rfl⟩
  have hb4 : Below w3.heap.size w3 W4 := by rw [← hW4]; exact (Below.refl _ w3).alloc (Nat.le_refl _) _
  have hx4 : W4.heap[w3.heap.size]? = some (.cells (e.cells (.slice a36 e.ru.ds.length c36) (.slice a39 e.sk.length c39) (.slice a30 e.mv.length c30)) 38) := by rw [← hW4]; exact heap_new w3 _
  rw [hW4]
  obtain ⟨W5, hW5⟩ : ∃ W5, (W4.setCell ⟨w3.heap.size, 9, none⟩ (.slice none 0 0)).setCell ⟨w3.heap.size, 10, none⟩ (.slice none 0 0) = W5 := ⟨_, rfl⟩
  have hb5 : Below w3.heap.size w3 W5 := by rw [← hW5]; exact (hb4.setCell (p := ⟨w3.heap.size, 9, none⟩) (Nat.le_refl _) _).setCell (p := ⟨w3.heap.size, 10, none⟩) (Nat.le_refl _) _
  have hx5 : W5.heap[w3.heap.size]? = some (.cells #[.string e.id, .string e.ti, .int .i64 e.st, .int .i64 e.lg, .string e.ru.fq, .int .i64 e.ru.ev, .slice a36 e.ru.ds.length c36, .int .i64 e.ru.ct, .int .i64 e.ru.un, .slice none 0 0, .slice none 0 0] 38) := by rw [← hW5]; exact row_set (row_set hx4 9 _) 10 _
  obtain ⟨k0, k1, k2, k3, k4, k5, k6, k7, k8, k9, k10⟩ := cells11 hx4
  obtain ⟨f0, f1, f2, f3, f4, f5, f6, f7, f8, f9, f10⟩ := frozen11 hx4
  go_upto_region 7 with fail
  (try rw [hW5])
  have HX5 := Lib.hid hx5
  have HR5 := Lib.hid (HR3.out.below hb5)
  have HT5 := Lib.hid ((HT2.out.below HB3.out).below hb5)
  have HBW5 := Lib.hid ((HBW2.out.trans (HB3.out.mono HBW2.out.size)).trans (hb5.mono (Nat.le_trans HBW2.out.size HB3.out.size)))
  clear hW4 hW5 hb4 hb5 hx4 hx5 k0 k1 k2 k3 k4 k5 k6 k7 k8 k9 k10 f0 f1 f2 f3 f4 f5 f6 f7 f8 f9 f10 HR3 HB3 HT2 HBW2 HX2 HR2
  have hzb : Size (bareE e) := ⟨HSZ.out.id, HSZ.out.ti, HSZ.out.ds, Nat.zero_le _, Nat.zero_le _⟩
  have HZB := Lib.hid hzb
  have hrv := fun W (h : Below W5.heap.size W5 W) => (show Rv W (bareE e) (.slice a36 e.ru.ds.length c36) (.slice none 0 0) (.slice none 0 0) from ⟨HR5.out.below h, .inl ⟨rfl, none, 0, rfl⟩, .inl ⟨rfl, none, 0, rfl⟩⟩)
  have HRV := Lib.hid hrv
  have hck := check_any (bareE e) _ _ _ er W5 HT5.out.errs (hrv _ (Below.refl _ _)) hzb
  obtain ⟨q, hq⟩ : ∃ q, badE (bareE e) = q := ⟨_, rfl⟩
  rw [hq] at hck
  have HCK := Lib.hid (show Calls Tryz.prog 24 #[.agg #[.string e.id, .string e.ti, .int .i64 e.st, .int .i64 e.lg, .string e.ru.fq, .int .i64 e.ru.ev, .slice a36 e.ru.ds.length c36, .int .i64 e.ru.ct, .int .i64 e.ru.un, .slice none 0 0, .slice none 0 0]] W5 fun r w' => r = .returned (errV er q) ∧ Below W5.heap.size W5 w' from hck)
  have HQ := Lib.hid hq
  clear hck hq hzb hrv
  obtain ⟨k0, k1, k2, k3, k4, k5, k6, k7, k8, k9, k10⟩ := cells11 HX5.out
  go_wp2_with fail
  (with_reducible refine HCK.out.mono ?_)
  rintro e6 w6 ⟨rfl, hb6⟩
  have HB6 := Lib.hid hb6
  clear hb6 k0 k1 k2 k3 k4 k5 k6 k7 k8 k9 k10 HCK
  cases q with
  | succ q =>
    simp only [errV, ev]
    go_wp2
    go_ret
    exact ⟨rfl, HBW5.out.trans (HB6.out.mono HBW5.out.size)⟩
  | zero =>
    have hst := (badE_zero HQ.out).2.2.1
    obtain ⟨y, m, d, ha⟩ := Cal.at_exists e.st hst.1 hst.2
    have hdy := fun (a b : Int) W (h : Below W5.heap.size W5 W) => days_good (bareE e) _ _ _ a b (evL e y m d) er W (HT5.out.errs.below h) (HRV.out W h) HZB.out HQ.out (gives_of (e := bareE e) HQ.out ha _ er W (HT5.out.errs.below h).four HZB.out.ds) (fit_of (e := bareE e) HQ.out ha)
    have hbo := in_both HQ.out ha HSP.out.2.1 HSP.out.2.2.1
    have HDY := Lib.hid (show ∀ (a b : Int) W, Below W5.heap.size W5 W → Calls Tryz.prog 25 #[.agg #[.string e.id, .string e.ti, .int .i64 e.st, .int .i64 e.lg, .string e.ru.fq, .int .i64 e.ru.ev, .slice a36 e.ru.ds.length c36, .int .i64 e.ru.ct, .int .i64 e.ru.un, .slice none 0 0, .slice none 0 0], .int .i64 a, .int .i64 b] W fun r w' =>
      ∃ v' er', r = .returned (.tuple #[v', er']) ∧ ((1000 < (daysIn (bareE e) (evL e y m d) a b).length ∧ v' = .slice none 0 0 ∧ er' = ev (er 6)) ∨ ((daysIn (bareE e) (evL e y m d) a b).length ≤ 1000 ∧ er' = .nilIface ∧ RowI w' v' (daysIn (bareE e) (evL e y m d) a b))) ∧ Below W.heap.size W w' from hdy)
    have HA := Lib.hid ha
    have HBO := Lib.hid hbo
    clear hst ha hdy hbo
    simp only [errV]
    obtain ⟨k0, k1, k2, k3, k4, k5, k6, k7, k8, k9, k10⟩ := cells11 (row_below HX5.out HB6.out)
    go_wp2_with fail
    (with_reducible refine (HDY.out ka kb _ HB6.out).mono ?_)
    rintro e7 w7 ⟨v7, er7, rfl, hv7, hb7⟩
    have HV7 := Lib.hid hv7
    have HB7 := Lib.hid (HB6.out.trans (hb7.mono HB6.out.size))
    clear hv7 hb7 k0 k1 k2 k3 k4 k5 k6 k7 k8 k9 k10
    obtain ⟨k0, k1, k2, k3, k4, k5, k6, k7, k8, k9, k10⟩ := cells11 (row_below HX5.out HB7.out)
    go_wp2_with fail
    (with_reducible refine (HDY.out ka cut _ HB7.out).mono ?_)
    rintro e8 w8 ⟨v8, er8, rfl, hv8, hb8⟩
    have HV8 := Lib.hid hv8
    have HS78 := Lib.hid hb8
    have HB8 := Lib.hid (HB7.out.trans (hb8.mono HB7.out.size))
    clear hv8 hb8 k0 k1 k2 k3 k4 k5 k6 k7 k8 k9 k10
    obtain ⟨k0, k1, k2, k3, k4, k5, k6, k7, k8, k9, k10⟩ := cells11 (row_below HX5.out HB8.out)
    have hcut : cut ≤ 73048 := by have := HSP.out; omega
    have hcut0 : 0 ≤ cut := by have := HSP.out; omega
    go_wp2_with fail
    (with_reducible refine (HDY.out (cut + 1) kb _ HB8.out).mono ?_)
    rintro e9 w9 ⟨v9, er9, rfl, hv9, hb9⟩
    have HV9 := Lib.hid hv9
    have HS89 := Lib.hid hb9
    have HB9 := Lib.hid (HB8.out.trans (hb9.mono HB8.out.size))
    clear hv9 hb9 k0 k1 k2 k3 k4 k5 k6 k7 k8 k9 k10
    rcases HV7.out with ⟨_, rfl, rfl⟩ | ⟨hA, rfl, hrA⟩
    · go_wp2
      go_ret
      exact ⟨rfl, HBW5.out.trans (HB9.out.mono HBW5.out.size)⟩
    have hll := congrArg List.length HBO.out
    rw [List.length_append] at hll
    rcases HV8.out with ⟨h, _⟩ | ⟨hB1, rfl, hr1⟩
    · omega
    rcases HV9.out with ⟨h, _⟩ | ⟨hB2, rfl, hr2⟩
    · omega
    have hsh : v9 = .slice none 0 0 ∨ ∃ ad n c, v9 = .slice (some ad) n c := by
      rcases hr2 with ⟨_, h⟩ | ⟨g, off, cap, t, cur, h, _⟩
      · exact .inl h
      · exact .inr ⟨_, _, _, h⟩
    have HRA := Lib.hid ((hrA.reads.below HS78.out).below HS89.out)
    have HR1 := Lib.hid (hr1.reads.below HS89.out)
    have HR2 := Lib.hid hr2.reads
    have HSH := Lib.hid hsh
    obtain ⟨A, hAe⟩ : ∃ A, daysIn (bareE e) (evL e y m d) ka kb = A := ⟨_, rfl⟩
    obtain ⟨B1, hB1e⟩ : ∃ B, daysIn (bareE e) (evL e y m d) ka cut = B := ⟨_, rfl⟩
    obtain ⟨B2, hB2e⟩ : ∃ B, daysIn (bareE e) (evL e y m d) (cut + 1) kb = B := ⟨_, rfl⟩
    rw [hAe] at HRA HBO hA hll
    rw [hB1e] at HR1 HBO hB1 hll
    rw [hB2e] at HR2 HBO hB2 hll
    have HAE := Lib.hid hAe
    obtain ⟨aA, cA, rfl⟩ := hrA.shape
    obtain ⟨aB, cB, rfl⟩ := hr1.shape
    rw [hAe] at HRA ⊢
    rw [hB1e] at HR1 ⊢
    clear hAe hB1e hB2e hrA hr1 hr2 hsh HV7 HV8 HV9 HS78 HS89
    have hlb : B1.length + B2.length ≤ 3000000 := by omega
    have HLB := Lib.hid hlb
    have HLA1 := Lib.hid hA
    clear hlb hll hB1 hB2
    go_upto_region 16 with (
      at_builtin
      refine append_ints rfl (.tmp 99) (.tmp 100) rfl rfl _ B1 rfl HR1.out (by have := HLB.out; omega) ?_
      intro a10 c10 w10 hown hb10
      have HOW10 := Lib.hid hown
      have HB10 := Lib.hid hb10
      have HS10 := Lib.hid hb10.size
      clear hown hb10)
    go_upto_region 17 with (
      at_builtin
      refine append_more rfl (.tmp 102) (.tmp 103) rfl w9.heap.size _ B1 rfl HOW10.out _ B2 rfl (HR2.out.below HB10.out) HSH.out HLB.out HS10.out ?_
      intro v11 w11 hr11 hb11
      have HR11 := Lib.hid hr11
      have HB11 := Lib.hid (HB10.out.trans hb11)
      clear hr11 hb11)
    have hsi := Ints.sameInts_any w11 v11 (.slice aA A.length cA) (B1 ++ B2) A HR11.out (HRA.out.below HB11.out) (by rw [HBO.out]; omega) (by omega)
    rw [decide_eq_true HBO.out] at hsi
    have HSI := Lib.hid hsi
    clear hsi
    go_wp2_with fail
    (with_reducible refine HSI.out.mono ?_)
    rintro e12 w12 ⟨rfl, qd, rfl⟩
    have HB12 := Lib.hid (HB9.out.trans ((below_draw HB11.out qd).mono HB9.out.size))
    have HRA2 := Lib.hid (HRA.out.below (below_draw HB11.out qd))
    obtain ⟨W12, hW12⟩ : ∃ W12, w11.drewN qd = W12 := ⟨_, rfl⟩
    rw [hW12] at HB12 HRA2 ⊢
    clear hW12 HRA HR1 HR2 HR11 HB11 HB10 HOW10 HS10 HSH HDY
    go_wp2_with fail
    go_loopw [18] (fun p wr => ∃ k : Nat, k ≤ A.length ∧ k ≤ 20 ∧ p = .int .i64 (k : Int) ∧ Below W12.heap.size W12 wr) (fun p _ => 20 - (intOf p).toNat)
    case atStart => exact ⟨0, Nat.zero_le _, Nat.zero_le _, rfl, Below.refl _ _⟩
    case round =>
      obtain ⟨k, hk1, hk2, rfl, hbr⟩ := hrel
      have HBR := Lib.hid hbr
      have hA1 := HLA1.out
      by_cases h1 : (k : Int) < (A.length : Int)
      case neg =>
        clear hbr
        go_wp2
        go_ret
        exact ⟨rfl, HBW5.out.trans ((HB12.out.trans (HBR.out.mono HB12.out.size)).mono HBW5.out.size)⟩
      by_cases h2 : (k : Int) < 20
      case neg =>
        clear hbr
        go_wp2
        go_ret
        exact ⟨rfl, HBW5.out.trans ((HB12.out.trans (HBR.out.mono HB12.out.size)).mono HBW5.out.size)⟩
      have hb5r := HB12.out.trans (hbr.mono HB12.out.size)
      have hmem : Ints.el A k ∈ A := by rw [Ints.el_lt (by omega)]; exact List.getElem_mem _
      have hz : Ints.el A k ∈ daysIn (bareE e) (evL e y m d) ka kb := by rw [HAE.out]; exact hmem
      have hAd : ∃ bA oA, aA = some ⟨bA, oA, none⟩ ∧ ∀ j, j < A.length → W12.cell? ⟨bA, oA + j, none⟩ = some (.int .i64 (Ints.el A j)) := by
        obtain ⟨_, b, o, h, hc⟩ := HRA2.out.at (by rintro rfl; simp at h1; omega)
        exact ⟨b, o, h, hc⟩
      obtain ⟨bA, oA, rfl, hcA⟩ := hAd
      have hcx := hcA k (by omega)
      obtain ⟨x, hx⟩ : ∃ x, Ints.el A k = x := ⟨_, rfl⟩
      rw [hx] at hcx hz hmem
      have hxd := occ_day (fit_of (e := bareE e) HQ.out HA.out) ((in_mem (fit_of (e := bareE e) HQ.out HA.out)).1 hz).2.2
      have hskb := skip_bad HQ.out hxd
      have hmvb := move_bad HQ.out hxd ⟨hcut0, hcut⟩
      have hsl := skip_len HQ.out HA.out hz
      have hml := move_len HQ.out HA.out hz ⟨HSP.out.2.1, HSP.out.2.2.1⟩ ⟨hcut0, hcut⟩
      have hmm := fun z => move_mem HQ.out HA.out hz ⟨HSP.out.2.1, HSP.out.2.2.1⟩ ⟨hcut0, hcut⟩ (x := z)
      rw [HAE.out] at hsl hml hmm
      have HCX := Lib.hid hcx
      have HX := Lib.hid hx
      have HSKB := Lib.hid hskb
      have HMVB := Lib.hid hmvb
      have HSL := Lib.hid hsl
      have HML := Lib.hid hml
      have HMM := Lib.hid hmm
      have HXD := Lib.hid hxd
      have HB5R := Lib.hid hb5r
      have HPOS := Lib.hid (List.length_pos_of_mem hmem)
      have HOW := Lib.hid (show Calls Tryz.prog 23 #[.agg #[.string e.id, .string e.ti, .int .i64 e.st, .int .i64 e.lg, .string e.ru.fq, .int .i64 e.ru.ev, .slice a36 e.ru.ds.length c36, .int .i64 e.ru.ct, .int .i64 e.ru.un, .slice none 0 0, .slice none 0 0]] wr fun r w' => ∃ vd' vs' vm', r = .returned (.agg #[.string e.id, .string e.ti, .int .i64 e.st, .int .i64 e.lg, .string e.ru.fq, .int .i64 e.ru.ev, vd', .int .i64 e.ru.ct, .int .i64 e.ru.un, vs', vm']) ∧ Rv w' (bareE e) vd' vs' vm' ∧ Below wr.heap.size wr w' from ownEvent_any (bareE e) _ _ _ wr (HRV.out wr hb5r) HZB.out)
      have HCA := Lib.hid hcA
      clear hbr hb5r hmem hz hcA hcx hx hskb hmvb hsl hml hmm hxd
      obtain ⟨k0, k1, k2, k3, k4, k5, k6, k7, k8, k9, k10⟩ := cells11 (row_below HX5.out HB5R.out)
      go_wp2_with fail
      (with_reducible refine HOW.out.mono ?_)
      rintro e13 w13 ⟨vd13, vs13, vm13, rfl, hr13, hb13⟩
      obtain ⟨a66, c66, rfl⟩ := hr13.d.shape
      obtain ⟨a69, c69, rfl⟩ := hr13.s.shape
      obtain ⟨a60, c60, rfl⟩ := hr13.m.shape
      have HB13 := Lib.hid hb13
      have HR13 := Lib.hid hr13.d
      clear hb13 hr13 HOW k0 k1 k2 k3 k4 k5 k6 k7 k8 k9 k10
      go_upto_region 23 with fail
      obtain ⟨W14, hW14⟩ : ∃ W14, w13.alloc (.cells #[.string e.id, .string e.ti, .int .i64 e.st, .int .i64 e.lg, .string e.ru.fq, .int .i64 e.ru.ev, .slice a66 (bareE e).ru.ds.length c66, .int .i64 e.ru.ct, .int .i64 e.ru.un, .slice a69 (bareE e).sk.length c69, .slice a60 (bareE e).mv.length c60] 38) = W14 := ⟨_, rfl⟩
      have hb14 : Below w13.heap.size w13 W14 := by rw [← hW14]; exact (Below.refl _ w13).alloc (Nat.le_refl _) _
      have hx14 : W14.heap[w13.heap.size]? = some (.cells #[.string e.id, .string e.ti, .int .i64 e.st, .int .i64 e.lg, .string e.ru.fq, .int .i64 e.ru.ev, .slice a66 (bareE e).ru.ds.length c66, .int .i64 e.ru.ct, .int .i64 e.ru.un, .slice a69 (bareE e).sk.length c69, .slice a60 (bareE e).mv.length c60] 38) := by rw [← hW14]; exact heap_new w13 _
      have hcx14 := cell_later hb14 (cell_later HB13.out (cell_later HBR.out HCX.out))
      rw [hW14]
      have HX14 := Lib.hid hx14
      have HB14 := Lib.hid hb14
      clear hW14 hx14 hb14
      go_upto_region 24 with (
        refine build_int rfl (.tmp 124) rfl x rfl ?_
        intro W15 b15 hb15 hW15
        have h45 : Below W14.heap.size W14 W15 := by rw [← hW15]; exact (Below.refl _ W14).alloc (Nat.le_refl _) _
        have hx15 := row_below HX14.out h45
        have HX15 := Lib.hid hx15
        have HN15 := Lib.hid (show W15.heap[b15]? = some (.cells #[.int .i64 x] 3) by rw [← hW15, hb15]; exact heap_new W14 _)
        have HB15 := Lib.hid (HB14.out.trans (h45.mono HB14.out.size))
        have HNE := Lib.hid (show b15 ≠ w13.heap.size by have h := (Array.getElem?_eq_some_iff.1 HX14.out).1; omega)
        obtain ⟨k0, k1, k2, k3, k4, k5, k6, k7, k8, k9, k10⟩ := cells11 hx15
        obtain ⟨f0, f1, f2, f3, f4, f5, f6, f7, f8, f9, f10⟩ := frozen11 hx15
        clear h45 hx15 hb15 hW15 hcx14)
      obtain ⟨W16, hW16⟩ : ∃ W16, W15.setCell ⟨w13.heap.size, 9, none⟩ (.slice (some ⟨b15, 0, none⟩) 1 1) = W16 := ⟨_, rfl⟩
      have hb16 : Below w13.heap.size w13 W16 := by rw [← hW16]; exact HB15.out.setCell (p := ⟨w13.heap.size, 9, none⟩) (Nat.le_refl _) _
      have hx16 : W16.heap[w13.heap.size]? = some (.cells #[.string e.id, .string e.ti, .int .i64 e.st, .int .i64 e.lg, .string e.ru.fq, .int .i64 e.ru.ev, .slice a66 (bareE e).ru.ds.length c66, .int .i64 e.ru.ct, .int .i64 e.ru.un, .slice (some ⟨b15, 0, none⟩) 1 1, .slice a60 (bareE e).mv.length c60] 38) := by rw [← hW16]; exact row_set HX15.out 9 _
      have hn16 : W16.heap[b15]? = some (.cells #[.int .i64 x] 3) := by rw [← hW16, row_far HNE.out]; exact HN15.out
      rw [hW16]
      have hrs : Rv W16 (skipE e x) (.slice a66 (bareE e).ru.ds.length c66) (.slice (some ⟨b15, 0, none⟩) 1 1) (.slice a60 (bareE e).mv.length c60) :=
        ⟨HR13.out.below hb16, .inr ⟨b15, 0, 1, rfl, fun j hj => by
          obtain rfl : j = 0 := by
            have : j < 1 := hj
            omega
          exact cell_of hn16 rfl⟩, .inl ⟨rfl, a60, c60, rfl⟩⟩
      have hzs : Size (skipE e x) := ⟨HSZ.out.id, HSZ.out.ti, HSZ.out.ds, Nat.le_of_ble_eq_true rfl, Nat.zero_le _⟩
      have hb516 := HB5R.out.trans ((HB13.out.trans (hb16.mono HB13.out.size)).mono HB5R.out.size)
      have hds := days_good (skipE e x) _ _ _ ka kb (evL e y m d) er W16 (HT5.out.errs.below hb516) hrs hzs HSKB.out (gives_of (e := skipE e x) HSKB.out HA.out _ er W16 (HT5.out.errs.below hb516).four HSZ.out.ds) (fit_of (e := skipE e x) HSKB.out HA.out)
      have hsl := HSL.out
      obtain ⟨L1, hL1⟩ : ∃ L, daysIn (skipE e x) (evL e y m d) ka kb = L := ⟨_, rfl⟩
      rw [hL1] at hds hsl
      have HDS := Lib.hid (show Calls Tryz.prog 25 #[.agg #[.string e.id, .string e.ti, .int .i64 e.st, .int .i64 e.lg, .string e.ru.fq, .int .i64 e.ru.ev, .slice a66 (bareE e).ru.ds.length c66, .int .i64 e.ru.ct, .int .i64 e.ru.un, .slice (some ⟨b15, 0, none⟩) 1 1, .slice a60 (bareE e).mv.length c60], .int .i64 ka, .int .i64 kb] W16 fun r w' =>
        ∃ v' er', r = .returned (.tuple #[v', er']) ∧ ((1000 < L1.length ∧ v' = .slice none 0 0 ∧ er' = ev (er 6)) ∨ (L1.length ≤ 1000 ∧ er' = .nilIface ∧ RowI w' v' L1)) ∧ Below W16.heap.size W16 w' from hds)
      have HSL1 := Lib.hid hsl
      have HX16 := Lib.hid hx16
      have HB16 := Lib.hid hb16
      have HB516 := Lib.hid hb516
      clear hW16 hb16 hx16 hn16 hrs hzs hb516 hds hsl hL1 k0 k1 k2 k3 k4 k5 k6 k7 k8 k9 k10 f0 f1 f2 f3 f4 f5 f6 f7 f8 f9 f10 HX15 HN15 HB15 HNE HX14 HB14 HSL
      obtain ⟨k0, k1, k2, k3, k4, k5, k6, k7, k8, k9, k10⟩ := cells11 HX16.out
      go_wp2_with fail
      (with_reducible refine HDS.out.mono ?_)
      rintro e17 w17 ⟨v17, er17, rfl, hv17, hb17⟩
      have hsl := HSL1.out
      rcases hv17 with ⟨hv, _⟩ | ⟨_, rfl, hr17⟩
      · omega
      obtain ⟨a17, c17, rfl⟩ := hr17.shape
      have HB17 := Lib.hid (HB16.out.trans (hb17.mono HB16.out.size))
      have hx17 := row_below HX16.out hb17
      have HX17 := Lib.hid hx17
      clear hr17 hb17 hsl k0 k1 k2 k3 k4 k5 k6 k7 k8 k9 k10 HX16 HB16 HDS
      obtain ⟨k0, k1, k2, k3, k4, k5, k6, k7, k8, k9, k10⟩ := cells11 hx17
      obtain ⟨f0, f1, f2, f3, f4, f5, f6, f7, f8, f9, f10⟩ := frozen11 hx17
      clear hx17
      go_upto_region 26 with fail
      obtain ⟨W18, hW18⟩ : ∃ W18, w17.setCell ⟨w13.heap.size, 9, none⟩ (.slice none 0 0) = W18 := ⟨_, rfl⟩
      have hb18 : Below w13.heap.size w13 W18 := by rw [← hW18]; exact HB17.out.setCell (p := ⟨w13.heap.size, 9, none⟩) (Nat.le_refl _) _
      have hx18 : W18.heap[w13.heap.size]? = some (.cells #[.string e.id, .string e.ti, .int .i64 e.st, .int .i64 e.lg, .string e.ru.fq, .int .i64 e.ru.ev, .slice a66 (bareE e).ru.ds.length c66, .int .i64 e.ru.ct, .int .i64 e.ru.un, .slice none 0 0, .slice a60 (bareE e).mv.length c60] 38) := by rw [← hW18]; exact row_set HX17.out 9 _
      rw [hW18]
      have hcx18 := cell_later hb18 (cell_later HB13.out (cell_later HBR.out HCX.out))
      have HX18 := Lib.hid hx18
      have HB18 := Lib.hid hb18
      clear hW18 hx18 hb18 k0 k1 k2 k3 k4 k5 k6 k7 k8 k9 k10 f0 f1 f2 f3 f4 f5 f6 f7 f8 f9 f10
      go_upto_region 27 with (
        refine build_move rfl (.tmp 140) rfl x cut rfl ?_
        intro W19 b19 hb19 hW19
        have h89 : Below W18.heap.size W18 W19 := by rw [← hW19]; exact (Below.refl _ W18).alloc (Nat.le_refl _) _
        have hx19 := row_below HX18.out h89
        have HX19 := Lib.hid hx19
        have HN19 := Lib.hid (show W19.heap[b19]? = some (.cells #[.int .i64 x, .int .i64 cut] 54) by rw [← hW19, hb19]; exact heap_new W18 _)
        have HB19 := Lib.hid (HB18.out.trans (h89.mono HB18.out.size))
        have HNE := Lib.hid (show b19 ≠ w13.heap.size by have h := (Array.getElem?_eq_some_iff.1 HX18.out).1; omega)
        obtain ⟨k0, k1, k2, k3, k4, k5, k6, k7, k8, k9, k10⟩ := cells11 hx19
        obtain ⟨f0, f1, f2, f3, f4, f5, f6, f7, f8, f9, f10⟩ := frozen11 hx19
        clear h89 hx19 hb19 hW19 hcx18)
      obtain ⟨W20, hW20⟩ : ∃ W20, W19.setCell ⟨w13.heap.size, 10, none⟩ (.slice (some ⟨b19, 0, none⟩) 1 1) = W20 := ⟨_, rfl⟩
      have hb20 : Below w13.heap.size w13 W20 := by rw [← hW20]; exact HB19.out.setCell (p := ⟨w13.heap.size, 10, none⟩) (Nat.le_refl _) _
      have hx20 : W20.heap[w13.heap.size]? = some (.cells #[.string e.id, .string e.ti, .int .i64 e.st, .int .i64 e.lg, .string e.ru.fq, .int .i64 e.ru.ev, .slice a66 (bareE e).ru.ds.length c66, .int .i64 e.ru.ct, .int .i64 e.ru.un, .slice none 0 0, .slice (some ⟨b19, 0, none⟩) 1 1] 38) := by rw [← hW20]; exact row_set HX19.out 10 _
      have hn20 : W20.heap[b19]? = some (.cells #[.int .i64 x, .int .i64 cut] 54) := by rw [← hW20, row_far HNE.out]; exact HN19.out
      rw [hW20]
      have hrm : Rv W20 (moveE e x cut) (.slice a66 (bareE e).ru.ds.length c66) (.slice none 0 0) (.slice (some ⟨b19, 0, none⟩) 1 1) :=
        ⟨HR13.out.below hb20, .inl ⟨rfl, none, 0, rfl⟩, .inr ⟨b19, 0, 1, rfl, fun j hj => by
          obtain rfl : j = 0 := by
            have : j < 1 := hj
            omega
          exact ⟨cell_of hn20 rfl, cell_of hn20 rfl⟩⟩⟩
      have hzm : Size (moveE e x cut) := ⟨HSZ.out.id, HSZ.out.ti, HSZ.out.ds, Nat.zero_le _, Nat.le_of_ble_eq_true rfl⟩
      have hb520 := HB5R.out.trans ((HB13.out.trans (hb20.mono HB13.out.size)).mono HB5R.out.size)
      have hdm := days_good (moveE e x cut) _ _ _ ka kb (evL e y m d) er W20 (HT5.out.errs.below hb520) hrm hzm HMVB.out (gives_of (e := moveE e x cut) HMVB.out HA.out _ er W20 (HT5.out.errs.below hb520).four HSZ.out.ds) (fit_of (e := moveE e x cut) HMVB.out HA.out)
      have hml := HML.out
      have hmm := HMM.out
      obtain ⟨L2, hL2⟩ : ∃ L, daysIn (moveE e x cut) (evL e y m d) ka kb = L := ⟨_, rfl⟩
      rw [hL2] at hdm hml hmm
      have HDM := Lib.hid (show Calls Tryz.prog 25 #[.agg #[.string e.id, .string e.ti, .int .i64 e.st, .int .i64 e.lg, .string e.ru.fq, .int .i64 e.ru.ev, .slice a66 (bareE e).ru.ds.length c66, .int .i64 e.ru.ct, .int .i64 e.ru.un, .slice none 0 0, .slice (some ⟨b19, 0, none⟩) 1 1], .int .i64 ka, .int .i64 kb] W20 fun r w' =>
        ∃ v' er', r = .returned (.tuple #[v', er']) ∧ ((1000 < L2.length ∧ v' = .slice none 0 0 ∧ er' = ev (er 6)) ∨ (L2.length ≤ 1000 ∧ er' = .nilIface ∧ RowI w' v' L2)) ∧ Below W20.heap.size W20 w' from hdm)
      have HML2 := Lib.hid hml
      have HMM2 := Lib.hid hmm
      have HX20 := Lib.hid hx20
      have HB20 := Lib.hid hb20
      clear hW20 hb20 hx20 hn20 hrm hzm hb520 hdm hml hmm hL2 k0 k1 k2 k3 k4 k5 k6 k7 k8 k9 k10 f0 f1 f2 f3 f4 f5 f6 f7 f8 f9 f10 HX19 HN19 HB19 HNE HX18 HB18 HX17 HB17 HML HMM
      obtain ⟨k0, k1, k2, k3, k4, k5, k6, k7, k8, k9, k10⟩ := cells11 HX20.out
      go_wp2_with fail
      (with_reducible refine HDM.out.mono ?_)
      rintro e21 w21 ⟨v21, er21, rfl, hv21, hb21⟩
      have hml := HML2.out
      have hmm := HMM2.out
      have hin : cut ∈ L2 := (hmm cut).2 (.inr rfl)
      rcases hv21 with ⟨hv, _⟩ | ⟨h21, rfl, hr21⟩
      · omega
      obtain ⟨a21, c21, rfl⟩ := hr21.shape
      obtain ⟨_, bY, oY, rfl, hcY⟩ := hr21.reads.at (by rintro rfl; cases hin)
      have hsl := HSL1.out
      have hpos := HPOS.out
      have hlx : ((L1.length : Int) != (A.length : Int) - 1) = false := by
        have : (L1.length : Int) = (A.length : Int) - 1 := by omega
        rw [this]; simp
      have HB21 := Lib.hid (HB20.out.trans (hb21.mono HB20.out.size))
      have HCY := Lib.hid hcY
      have HIN := Lib.hid hin
      have H21 := Lib.hid h21
      have hback := fun W (h : Below w21.heap.size w21 W) => HBR.out.trans ((HB13.out.trans ((HB21.out.trans (h.mono HB21.out.size)).mono HB13.out.size)).mono HBR.out.size)
      have HBACK := Lib.hid hback
      have hxx := fun W (h : Below w21.heap.size w21 W) => cell_later h (cell_later HB21.out (cell_later HB13.out (cell_later HBR.out HCX.out)))
      have HXX := Lib.hid hxx
      clear hr21 hcY hb21 hml hmm hsl hback hxx hin h21 k0 k1 k2 k3 k4 k5 k6 k7 k8 k9 k10 HX20 HB20 HDM
      go_wp2_with fail
      go_loopw [24, 25] (fun v24 p wr2 => ∃ j : Nat, j ≤ L2.length ∧ v24 = .bool (decide (cut ∈ L2.take j)) ∧ p = .int .i64 (j : Int) ∧ Below w21.heap.size w21 wr2) (fun _ p _ => L2.length - (intOf p).toNat)
      case atStart => exact ⟨0, Nat.zero_le _, by simp, rfl, Below.refl _ _⟩
      case round =>
        obtain ⟨j, hj1, rfl, rfl, hbr2⟩ := hrel
        have HBR2 := Lib.hid hbr2
        have h21 := H21.out
        by_cases hlt : (j : Int) < (L2.length : Int)
        case neg =>
          obtain rfl : j = L2.length := by omega
          have hin : decide (cut ∈ L2.take L2.length) = true := by rw [List.take_length]; exact decide_eq_true HIN.out
          rw [hin]
          clear hbr2 hin
          go_wp2
          go_roundw
          case rel => exact ⟨k + 1, by omega, by omega, by go_num, HBACK.out _ HBR2.out⟩
          case measure => simp [intOf]; omega
        case pos =>
          have hz2 : Ints.el L2 j ∈ L2 := by rw [Ints.el_lt (by omega)]; exact List.getElem_mem _
          have hnx : decide (cut ∈ L2.take (j + 1)) = (decide (cut ∈ L2.take j) || decide (Ints.el L2 j = cut)) := by
            have e9 : L2.take (j + 1) = L2.take j ++ [L2[j]'(by omega)] := by rw [List.take_add_one, List.getElem?_eq_getElem (by omega)]; rfl
            rw [e9, Ints.el_lt (by omega), Bool.eq_iff_iff]
            simp only [decide_eq_true_eq, Bool.or_eq_true, List.mem_append, List.mem_singleton]
            exact or_congr Iff.rfl ⟨Eq.symm, Eq.symm⟩
          have hcy := cell_later hbr2 (HCY.out j (by omega))
          have hcxx := HXX.out _ hbr2
          have hor := (HMM2.out (Ints.el L2 j)).1 hz2
          obtain ⟨z, hz⟩ : ∃ z, Ints.el L2 j = z := ⟨_, rfl⟩
          obtain ⟨bt, hbt⟩ : ∃ bt, decide (cut ∈ L2.take j) = bt := ⟨_, rfl⟩
          rw [hz] at hcy hor hnx
          rw [hbt] at hnx ⊢
          have HNX := Lib.hid hnx
          clear hz2 hz hbt hbr2 hnx
          by_cases hzc : z = cut
          · have q1 : (z == cut) = true := by rw [hzc]; simp
            have HQ1 := Lib.hid (decide_eq_true hzc)
            by_cases hzx : z = x
            · have q2 : (z == x) = true := by rw [hzx]; simp
              have q3 : (x != cut) = false := by rw [← hzx, hzc]; simp
              clear hor hzc hzx
              go_wp2
              go_quiet (fail)
              go_wp2
              go_roundw
              case rel => exact ⟨j + 1, by omega, by rw [HNX.out, HQ1.out, Bool.or_true], by go_num, below_draw HBR2.out _⟩
              case measure => simp [intOf]; omega
            · have q2 : (z == x) = false := by rw [beq_eq_false_iff_ne]; exact hzx
              clear hor hzc hzx
              go_wp2
              go_quiet (fail)
              go_wp2
              go_roundw
              case rel => exact ⟨j + 1, by omega, by rw [HNX.out, HQ1.out, Bool.or_true], by go_num, below_draw HBR2.out _⟩
              case measure => simp [intOf]; omega
          · have q1 : (z == cut) = false := by rw [beq_eq_false_iff_ne]; exact hzc
            have HQ1 := Lib.hid (decide_eq_false hzc)
            have hzx : z ≠ x := by
              rcases hor with ⟨_, h⟩ | h
              · exact h
              · exact absurd h hzc
            have q2 : (z == x) = false := by rw [beq_eq_false_iff_ne]; exact hzx
            clear hor hzc hzx
            go_wp2
            go_quiet (fail)
            go_wp2
            go_roundw
            case rel => exact ⟨j + 1, by omega, by rw [HNX.out, HQ1.out, Bool.or_false], by go_num, below_draw HBR2.out _⟩
            case measure => simp [intOf]; omega
end Evt
end Go.Proofs.YtkhkhbeolhhomaaGreatDoor
