/- Evented, IntsSame, SameEv: texts joined. -/
import Derived.Test.YtghkalamlcfnnaaGreatDoorQA15
import Derived.Test.YtghkalamlcfnnaaGreatDoorQA4
import Derived.Test.YtghkalamlcfnnaaGreatDoorQA14
import Derived.Test.YtghkalamlcfnnaaGreatDoorQA1
import Derived.Test.YtghkalamlcfnnaaGreatDoorQEvOwn
import Derived.DeepKeys
section
namespace Go.Proofs.YtghkalamlcfnnaaGreatDoor
open Go Go.RowKit Go.Shelf Lmd
attribute [local go_sem] Oper.semAt_some
namespace Evt
open Rul Day Cand Er
def e0 : Ev := ⟨⟨#[97]⟩, ⟨#[65, 32, 98]⟩, 5, 1, ⟨once, 1, 0, -1, []⟩, [], []⟩
end Evt
end Go.Proofs.YtghkalamlcfnnaaGreatDoor
end
section
namespace Go.Proofs.YtghkalamlcfnnaaGreatDoor
open Go.RowKit
namespace Ints
set_option maxHeartbeats 1000000 in
theorem sameInts_any (w : World) (va vb : Value) (xs ys : List Int) (ha : Reads w va xs) (hb : Reads w vb ys) (hm : xs.length ≤ 9000000000000000000) (hm2 : ys.length ≤ 9000000000000000000) :
    Calls Tryz.prog 45 #[va, vb] w fun e w' => e = .returned (.bool (decide (xs = ys))) ∧ ∃ q, w' = w.drewN q := by
  obtain ⟨a, ca, rfl⟩ := ha.shape
  obtain ⟨b, cb, rfl⟩ := hb.shape
  by_cases hl : xs.length = ys.length
  · by_cases hx : xs = []
    · subst hx
      obtain rfl : ys = [] := List.length_eq_zero_iff.1 hl.symm
      clear ha hb
      go_enter Tryz.func45, Tryz.ntmps45
      go_wp2
      refine wp_loop_rounds 1 ?_
      rw [rounds_succ]
      go_wp2
      go_ret
      exact ⟨rfl, 0, rfl⟩
    · obtain ⟨_, b1, o1, rfl, hc1⟩ := ha.at hx
      obtain ⟨_, b2, o2, rfl, hc2⟩ := hb.at (by rintro rfl; apply hx; exact List.length_eq_zero_iff.1 hl)
      clear ha hb
      have HC1 := Lib.hid hc1
      have HC2 := Lib.hid hc2
      have HL := Lib.hid hl
      have HX := Lib.hid hx
      have hq : ((xs.length : Int) != (ys.length : Int)) = false := by rw [hl]; simp
      have hle : ys.length ≤ xs.length := by omega
      have hge : xs.length ≤ ys.length := by omega
      clear hc1 hc2 hl hx
      go_enter Tryz.func45, Tryz.ntmps45
      go_wp2
      go_loopw [5] (fun i wr => ∃ (k q : Nat), k ≤ xs.length ∧ i = .int .i64 k ∧ wr = w.drewN q ∧ ∀ j, j < k → el xs j = el ys j) (fun i _ => xs.length - (intOf i).toNat)
      case atStart => exact ⟨0, 0, Nat.zero_le _, rfl, rfl, fun _ h => by omega⟩
      case round =>
        obtain ⟨k, q, hk, rfl, rfl, hs⟩ := hrel
        have HS := Lib.hid hs
        clear hs
        by_cases hlt : k < xs.length
        · have c1 := HC1.out k hlt
          have c2 := HC2.out k (by omega)
          have hlt2 : k < ys.length := by omega
          have hi1 : (k : Int) < (xs.length : Int) := by omega
          have hi2 : (k : Int) < (ys.length : Int) := by omega
          by_cases he : el xs k = el ys k
          · have hne : (el xs k != el ys k) = false := by rw [he]; simp
            have HE := Lib.hid he
            clear he
            go_wp2
            go_quiet (fail)
            go_wp2
            go_roundw
            case rel => exact ⟨k + 1, _, by omega, by go_num, rfl, fun j hj => by
              by_cases e : j = k
              · subst e; exact HE.out
              · exact HS.out j (by omega)⟩
            case measure => simp [intOf]; omega
          · have hne : (el xs k != el ys k) = true := by rw [bne_iff_ne]; exact he
            have HE := Lib.hid he
            clear he
            go_wp2
            go_quiet (fail)
            go_wp2
            go_ret
            exact ⟨ret_bool' (decide_eq_false (fun e => HE.out (by rw [e]))).symm, _, drewN_add _ _ _⟩
        · obtain rfl : k = xs.length := by omega
          go_wp2
          go_ret
          exact ⟨ret_bool' (decide_eq_true (eq_of_getD xs ys HL.out HS.out)).symm, _, rfl⟩
  · have hq : ((xs.length : Int) != (ys.length : Int)) = true := by rw [bne_iff_ne]; omega
    have hd : decide (xs = ys) = false := decide_eq_false (fun e => hl (by rw [e]))
    have HD := Lib.hid hd
    clear ha hb hl hd
    go_enter Tryz.func45, Tryz.ntmps45
    go_wp2
    go_ret
    exact ⟨ret_bool' HD.out.symm, 0, rfl⟩
end Ints
end Go.Proofs.YtghkalamlcfnnaaGreatDoor
end
section
namespace Go.Proofs.YtghkalamlcfnnaaGreatDoor
open Go Go.RowKit Go.Shelf Lmd
attribute [local go_sem] Oper.semAt_some
namespace Evt
open Rul Day Cand Er
theorem str_ne {a b : ByteArray} (h : ¬ a = b) : (a.toList == b.toList) = false := by
  rw [beq_eq_false_iff_ne]
  intro e
  rw [ByteArray.toList_eq, ByteArray.toList_eq] at e
  exact h (by rw [str_mk a, str_mk b, e])
set_option maxRecDepth 100000 in
set_option maxHeartbeats 4000000 in
theorem rsameRule_any (r s : Ru) (v u : Value) (w : World) (hr : Ints.Reads w v r.ds) (hs : Ints.Reads w u s.ds) (hl : r.ds.length ≤ 1000000) (hl2 : s.ds.length ≤ 1000000) :
    Calls Tryz.prog 44 #[.agg #[.string r.fq, .int .i64 r.ev, v, .int .i64 r.ct, .int .i64 r.un], .agg #[.string s.fq, .int .i64 s.ev, u, .int .i64 s.ct, .int .i64 s.un]] w fun e' w' => e' = .returned (.bool (sameB r s)) ∧ Below w.heap.size w w' := by
  obtain ⟨a, c, rfl⟩ := hr.shape
  obtain ⟨b, d, rfl⟩ := hs.shape
  obtain ⟨W, hW⟩ : ∃ W, (w.alloc (.cells #[.string r.fq, .int .i64 r.ev, .slice a r.ds.length c, .int .i64 r.ct, .int .i64 r.un] 37)).alloc (.cells #[.string s.fq, .int .i64 s.ev, .slice b s.ds.length d, .int .i64 s.ct, .int .i64 s.un] 37) = W := ⟨_, rfl⟩
  have hB : Below w.heap.size w W := by rw [← hW]; exact ((Below.refl _ w).alloc (Nat.le_refl _) _).alloc (by simp) _
  have heq := Ints.sameInts_any W _ _ r.ds s.ds (hr.below hB) (hs.below hB) (by omega) (by omega)
  have HEQ := Lib.hid heq
  have HB := Lib.hid hB
  have HW := Lib.hid hW
  clear heq hB hW hr hs
  obtain ⟨q, hq⟩ : ∃ q, sameB r s = q := ⟨_, rfl⟩
  rw [hq]
  have HQ := Lib.hid hq
  clear hq
  obtain ⟨f1, e1, n1, u1, d1⟩ := r
  obtain ⟨f2, e2, n2, u2, d2⟩ := s
  dsimp only at *
  by_cases h1 : f1 = f2
  case neg =>
    obtain rfl : q = false := by rw [← HQ.out]; simp [sameB, h1]
    have h1' := str_ne h1
    go_enter Tryz.func44, Tryz.ntmps44
    go_wp2
    go_ret
    exact ⟨rfl, by rw [HW.out]; exact HB.out⟩
  subst h1
  by_cases h2 : e1 = e2
  case neg =>
    obtain rfl : q = false := by rw [← HQ.out]; simp [sameB, h2]
    have h2' : (e1 == e2) = false := by simpa using h2
    go_enter Tryz.func44, Tryz.ntmps44
    go_wp2
    go_ret
    exact ⟨rfl, by rw [HW.out]; exact HB.out⟩
  subst h2
  by_cases h3 : n1 = n2
  case neg =>
    obtain rfl : q = false := by rw [← HQ.out]; simp [sameB, h3]
    have h3' : (n1 == n2) = false := by simpa using h3
    go_enter Tryz.func44, Tryz.ntmps44
    go_wp2
    go_ret
    exact ⟨rfl, by rw [HW.out]; exact HB.out⟩
  subst h3
  by_cases h4 : u1 = u2
  case neg =>
    obtain rfl : q = false := by rw [← HQ.out]; simp [sameB, h4]
    have h4' : (u1 == u2) = false := by simpa using h4
    go_enter Tryz.func44, Tryz.ntmps44
    go_wp2
    go_ret
    exact ⟨rfl, by rw [HW.out]; exact HB.out⟩
  subst h4
  have hq2 : decide (d1 = d2) = q := by rw [← HQ.out]; simp [sameB]
  rw [hq2] at HEQ
  go_enter Tryz.func44, Tryz.ntmps44
  go_wp2_with fail
  rw [HW.out]
  (with_reducible refine HEQ.out.mono ?_)
  rintro e1 w1 ⟨rfl, k, rfl⟩
  go_wp2
  go_ret
  exact ⟨rfl, below_draw HB.out k⟩
def eqE (a b : Ev) : Bool := decide (a.id = b.id) && decide (a.ti = b.ti) && decide (a.st = b.st) && decide (a.lg = b.lg) && sameB a.ru b.ru && decide (a.sk = b.sk) && decide (a.mv = b.mv)
theorem sameB_iff {a b : Ru} : sameB a b = true ↔ a = b := by
  cases a; cases b
  simp [sameB, and_assoc]
theorem eqE_iff {a b : Ev} : eqE a b = true ↔ a = b := by
  cases a; cases b
  simp [eqE, sameB_iff, and_assoc]
theorem neq_move (x1 x2 x3 x4 : Int) (w : World) : (binOp .neq 95 (.agg #[.int .i64 x1, .int .i64 x2]) (.agg #[.int .i64 x3, .int .i64 x4])).run Tryz.prog w = .ok (.bool (!(x1 == x3 && x2 == x4))) w := by
  have hf : Tryz.prog.fieldsOf 95 = #[⟨"From", 3, 0, false, "", "", 0⟩, ⟨"To", 3, 1, false, "", "", 8⟩] := by kernel_rfl
  have h := run_equalIn_struct (P := Tryz.prog) w 9999 95 #[.int .i64 x1, .int .i64 x2] #[.int .i64 x3, .int .i64 x4] (by kernel_rfl) (by kernel_rfl)
  rw [hf] at h
  have hi : ∀ (a b : Int) (w : World), (Op.equalIn 9999 3 (.int .i64 a) (.int .i64 b)).run Tryz.prog w = .ok (a == b) w := fun a b w => run_equalIn_int w 9998 _ .i64 .i64 a b Tryz.underlying3
  have hp : ∀ a b : Int, (part 3 #[.int .i64 a, .int .i64 b] 0).run Tryz.prog w = .ok (.int .i64 a) w := fun a b => by kernel_rfl
  have hq : ∀ a b : Int, (part 3 #[.int .i64 a, .int .i64 b] 1).run Tryz.prog w = .ok (.int .i64 b) w := fun a b => by kernel_rfl
  simp only [Op.eqFields] at h
  rw [if_pos (by decide)] at h
  simp only [hi, hp, Sem.run_bind, Result.andThen_ok] at h
  have he : (Op.equal 95 (.agg #[.int .i64 x1, .int .i64 x2]) (.agg #[.int .i64 x3, .int .i64 x4])).run Tryz.prog w = .ok (x1 == x3 && x2 == x4) w := by
    refine h.trans ?_
    cases hx : (x1 == x3)
    · simp
    · rw [if_neg (by simp), if_pos (by decide)]
      simp only [hi, hq, Sem.run_bind, Result.andThen_ok]
      cases hy : (x2 == x4) <;> simp
  simp [binOp, go_sem, he, Result.andThen]
theorem moves_ext {xs ys : List (Int × Int)} (hl : xs.length = ys.length) (h : ∀ j, j < xs.length → ml xs j = ml ys j) : xs = ys := by
  apply List.ext_getElem hl
  intro i h1 h2
  have := h i h1
  rwa [ml_lt h1, ml_lt h2] at this
set_option maxRecDepth 100000 in
set_option maxHeartbeats 8000000 in
theorem rsameEvent_any (x y : Ev) (vd vs vm ud us um : Value) (w : World) (hx : Rv w x vd vs vm) (hy : Rv w y ud us um) (zx : Size x) (zy : Size y) :
    Calls Tryz.prog 14 #[.agg (x.cells vd vs vm), .agg (y.cells ud us um)] w fun e' w' => e' = .returned (.bool (eqE x y)) ∧ Below w.heap.size w w' := by
  obtain ⟨a1, c1, rfl⟩ := hx.d.shape
  obtain ⟨a2, c2, rfl⟩ := hx.s.shape
  obtain ⟨a3, c3, rfl⟩ := hx.m.shape
  obtain ⟨b1, d1, rfl⟩ := hy.d.shape
  obtain ⟨b2, d2, rfl⟩ := hy.s.shape
  obtain ⟨b3, d3, rfl⟩ := hy.m.shape
  obtain ⟨W, hW⟩ : ∃ W, (w.alloc (.cells (x.cells (.slice a1 x.ru.ds.length c1) (.slice a2 x.sk.length c2) (.slice a3 x.mv.length c3)) 40)).alloc (.cells (y.cells (.slice b1 y.ru.ds.length d1) (.slice b2 y.sk.length d2) (.slice b3 y.mv.length d3)) 40) = W := ⟨_, rfl⟩
  have hB : Below w.heap.size w W := by rw [← hW]; exact ((Below.refl _ w).alloc (Nat.le_refl _) _).alloc (by simp) _
  have r1 : W.heap[w.heap.size]? = some (.cells (x.cells (.slice a1 x.ru.ds.length c1) (.slice a2 x.sk.length c2) (.slice a3 x.mv.length c3)) 40) := by rw [← hW]; exact (Below.heap_alloc _ _ _ (by simp)).trans (heap_new w _)
  have r2 : W.heap[w.heap.size + 1]? = some (.cells (y.cells (.slice b1 y.ru.ds.length d1) (.slice b2 y.sk.length d2) (.slice b3 y.mv.length d3)) 40) := by
    rw [← hW]
    have h := heap_new (w.alloc (.cells (x.cells (.slice a1 x.ru.ds.length c1) (.slice a2 x.sk.length c2) (.slice a3 x.mv.length c3)) 40)) (.cells (y.cells (.slice b1 y.ru.ds.length d1) (.slice b2 y.sk.length d2) (.slice b3 y.mv.length d3)) 40)
    rwa [World.size_alloc] at h
  have hru := rsameRule_any x.ru y.ru _ _ W (hx.d.below hB) (hy.d.below hB) (by have := zx.ds; omega) (by have := zy.ds; omega)
  have hsk := fun W' (h : Below W.heap.size W W') => Ints.sameInts_any W' _ _ x.sk y.sk ((hx.s.below hB).below h) ((hy.s.below hB).below h) (by have := zx.sk; omega) (by have := zy.sk; omega)
  have hm1 := hx.m.below hB
  have hm2 := hy.m.below hB
  have hl3 := zx.mv
  obtain ⟨q, hq⟩ : ∃ q, eqE x y = q := ⟨_, rfl⟩
  rw [hq]
  have HQ := Lib.hid hq
  have HRU := Lib.hid hru
  have HSK := Lib.hid hsk
  have HM1 := Lib.hid hm1
  have HM2 := Lib.hid hm2
  have R1 := Lib.hid r1
  have R2 := Lib.hid r2
  have HB := Lib.hid hB
  have HW := Lib.hid hW
  clear hq hru hsk hm1 hm2 r1 r2 hB hW hx hy zx zy
  obtain ⟨i1, t1, s1, l1, ru1, sk1, mv1⟩ := x
  obtain ⟨i2, t2, s2, l2, ru2, sk2, mv2⟩ := y
  dsimp only [Ev.cells] at *
  obtain ⟨nd1, hnd1⟩ : ∃ n, ru1.ds.length = n := ⟨_, rfl⟩
  obtain ⟨nd2, hnd2⟩ : ∃ n, ru2.ds.length = n := ⟨_, rfl⟩
  obtain ⟨ns1, hns1⟩ : ∃ n, sk1.length = n := ⟨_, rfl⟩
  obtain ⟨ns2, hns2⟩ : ∃ n, sk2.length = n := ⟨_, rfl⟩
  obtain ⟨nm1, hnm1⟩ : ∃ n, mv1.length = n := ⟨_, rfl⟩
  obtain ⟨nm2, hnm2⟩ : ∃ n, mv2.length = n := ⟨_, rfl⟩
  rw [hnd1, hnd2, hns1, hns2, hnm1, hnm2] at HW
  rw [hnd1, hns1, hnm1] at R1
  rw [hnd2, hns2, hnm2] at R2
  rw [hnd1, hnd2] at HRU
  simp only [hns1, hns2] at HSK
  rw [hnm1] at HM1 hl3
  rw [hnm2] at HM2
  rw [hnd1, hnd2, hns1, hns2, hnm1, hnm2]
  have HN1 := Lib.hid hnm1
  have HN2 := Lib.hid hnm2
  clear hnd1 hnd2 hns1 hns2 hnm1 hnm2
  go_enter Tryz.func14, Tryz.ntmps14
  obtain ⟨k0, k1, k2, k3, k4, k5, k6, k7, k8, k9, k10⟩ := cells11 R1.out
  obtain ⟨j0, j1, j2, j3, j4, j5, j6, j7, j8, j9, j10⟩ := cells11 R2.out
  go_upto_region 1 with fail
  rw [HW.out]
  by_cases h1 : i1 = i2
  case neg =>
    obtain rfl : q = false := by rw [← HQ.out]; simp [eqE, h1]
    have h1' := str_ne h1
    clear h1
    go_wp2
    go_ret
    exact ⟨rfl, HB.out⟩
  subst h1
  by_cases h1 : t1 = t2
  case neg =>
    obtain rfl : q = false := by rw [← HQ.out]; simp [eqE, h1]
    have h1' := str_ne h1
    clear h1
    go_wp2
    go_ret
    exact ⟨rfl, HB.out⟩
  subst h1
  by_cases h1 : s1 = s2
  case neg =>
    obtain rfl : q = false := by rw [← HQ.out]; simp [eqE, h1]
    have h1' : (s1 != s2) = true := by simpa using h1
    clear h1
    go_wp2
    go_ret
    exact ⟨rfl, HB.out⟩
  subst h1
  by_cases h1 : l1 = l2
  case neg =>
    obtain rfl : q = false := by rw [← HQ.out]; simp [eqE, h1]
    have h1' : (l1 != l2) = true := by simpa using h1
    clear h1
    go_wp2
    go_ret
    exact ⟨rfl, HB.out⟩
  subst h1
  obtain ⟨br, hbr⟩ : ∃ b, sameB ru1 ru2 = b := ⟨_, rfl⟩
  rw [hbr] at HRU
  have HBR := Lib.hid hbr
  clear hbr
  go_wp2_with fail
  (with_reducible refine HRU.out.mono ?_)
  rintro e3 w3 ⟨rfl, hb3⟩
  have HB3 := Lib.hid hb3
  clear hb3
  cases br with
  | false =>
    obtain rfl : q = false := by rw [← HQ.out]; simp [eqE, HBR.out]
    go_wp2
    go_ret
    exact ⟨rfl, HB.out.trans (HB3.out.mono HB.out.size)⟩
  | true =>
    clear k0 k1 k2 k3 k4 k5 k6 k7 k8 k9 k10 j0 j1 j2 j3 j4 j5 j6 j7 j8 j9 j10
    obtain ⟨k0, k1, k2, k3, k4, k5, k6, k7, k8, k9, k10⟩ := cells11 (row_below R1.out HB3.out)
    obtain ⟨j0, j1, j2, j3, j4, j5, j6, j7, j8, j9, j10⟩ := cells11 (row_below R2.out HB3.out)
    obtain ⟨bs, hbs⟩ : ∃ b, decide (sk1 = sk2) = b := ⟨_, rfl⟩
    have hsk := HSK.out w3 HB3.out
    rw [hbs] at hsk
    have HSK3 := Lib.hid hsk
    have HBS := Lib.hid hbs
    clear hbs hsk
    go_wp2_with fail
    (with_reducible refine HSK3.out.mono ?_)
    rintro e4 w4 ⟨rfl, k, hw4⟩
    have hb4 : Below w3.heap.size w3 w4 := by rw [hw4]; exact below_draw (Below.refl _ _) k
    have HB4 := Lib.hid (HB3.out.trans (hb4.mono HB3.out.size))
    clear hb4 hw4 k0 k1 k2 k3 k4 k5 k6 k7 k8 k9 k10 j0 j1 j2 j3 j4 j5 j6 j7 j8 j9 j10
    obtain ⟨k0, k1, k2, k3, k4, k5, k6, k7, k8, k9, k10⟩ := cells11 (row_below R1.out HB4.out)
    obtain ⟨j0, j1, j2, j3, j4, j5, j6, j7, j8, j9, j10⟩ := cells11 (row_below R2.out HB4.out)
    cases bs with
    | false =>
      have hs := of_decide_eq_false HBS.out
      obtain rfl : q = false := by rw [← HQ.out]; simp [eqE, hs]
      clear hs
      go_wp2
      go_ret
      exact ⟨rfl, HB.out.trans (HB4.out.mono HB.out.size)⟩
    | true =>
      by_cases hn : nm1 = nm2
      case neg =>
        obtain rfl : q = false := by
          rw [← HQ.out]
          have : ¬ mv1 = mv2 := fun e => hn (by rw [← HN1.out, ← HN2.out, e])
          simp [eqE, this]
        have hn1 : ((nm1 : Int) != (nm2 : Int)) = true := by rw [bne_iff_ne]; omega
        clear hn
        go_wp2
        go_ret
        exact ⟨rfl, HB.out.trans (HB4.out.mono HB.out.size)⟩
      subst hn
      have hqm : decide (mv1 = mv2) = q := by
        rw [← HQ.out]
        have hs := of_decide_eq_true HBS.out
        simp [eqE, HBR.out, hs]
      have HQM := Lib.hid hqm
      clear hqm HQ
      go_wp2_with fail
      go_loopw [5] (fun p wr => ∃ k : Nat, k ≤ nm1 ∧ p = .int .i64 (k : Int) ∧ (∀ j, j < k → ml mv1 j = ml mv2 j) ∧ Below w4.heap.size w4 wr) (fun p _ => nm1 - (intOf p).toNat)
      case atStart => exact ⟨0, Nat.zero_le _, rfl, fun j h => absurd h (Nat.not_lt_zero j), Below.refl _ _⟩
      case round =>
        obtain ⟨k, hk, rfl, hall, hbr⟩ := hrel
        have HALL := Lib.hid hall
        have HBR2 := Lib.hid hbr
        have hbw : Below W.heap.size W wr := HB4.out.trans (hbr.mono HB4.out.size)
        have HBW := Lib.hid hbw
        clear hall hbr k0 k1 k2 k3 k4 k5 k6 k7 k8 k9 k10 j0 j1 j2 j3 j4 j5 j6 j7 j8 j9 j10
        obtain ⟨k0, k1, k2, k3, k4, k5, k6, k7, k8, k9, k10⟩ := cells11 (row_below R1.out hbw)
        obtain ⟨j0, j1, j2, j3, j4, j5, j6, j7, j8, j9, j10⟩ := cells11 (row_below R2.out hbw)
        by_cases hlt : k < nm1
        · obtain ⟨_, g1, o1, e1, hc1⟩ := (HM1.out.below hbw).at (by intro h; have := HN1.out; rw [h] at this; simp at this; omega)
          obtain ⟨_, g2, o2, e2, hc2⟩ := (HM2.out.below hbw).at (by intro h; have := HN2.out; rw [h] at this; simp at this; omega)
          subst e1
          subst e2
          obtain ⟨p1, p2⟩ := hc1 k (by rw [HN1.out]; exact hlt)
          obtain ⟨p3, p4⟩ := hc2 k (by rw [HN2.out]; exact hlt)
          obtain ⟨m1, hm1⟩ : ∃ m, ml mv1 k = m := ⟨_, rfl⟩
          obtain ⟨m2, hm2⟩ : ∃ m, ml mv2 k = m := ⟨_, rfl⟩
          rw [hm1] at p1 p2
          rw [hm2] at p3 p4
          have H1 := Lib.hid hm1
          have H2 := Lib.hid hm2
          have hi1 : (k : Int) < (nm1 : Int) := by omega
          obtain ⟨x1, x2⟩ := m1
          obtain ⟨x3, x4⟩ := m2
          dsimp only at p1 p2 p3 p4
          have hnm := fun w => neq_move x1 x2 x3 x4 w
          clear hc1 hc2 hm1 hm2 hbw
          by_cases he : x1 = x3 ∧ x2 = x4
          · obtain ⟨rfl, rfl⟩ := he
            go_wp2
            go_quiet (fail)
            go_wp2
            go_roundw
            case rel => exact ⟨k + 1, by omega, by go_num, fun j hj => by
              by_cases e : j = k
              · subst e; rw [H1.out, H2.out]
              · exact HALL.out j (by omega), below_draw HBR2.out _⟩
            case measure => simp [intOf]; omega
          · obtain rfl : q = false := by
              rw [← HQM.out]
              refine decide_eq_false fun e => he ?_
              have := H1.out
              rw [e, H2.out] at this
              injection this with u1 u2
              exact ⟨u1.symm, u2.symm⟩
            have he1 : (x1 == x3 && x2 == x4) = false := by
              rw [Bool.eq_false_iff]
              intro h
              rw [Bool.and_eq_true, beq_iff_eq, beq_iff_eq] at h
              exact he h
            simp only [he1, Bool.not_false] at hnm
            clear he he1
            go_wp2
            go_quiet (fail)
            go_wp2
            go_ret
            exact ⟨rfl, below_draw (HB.out.trans (HBW.out.mono HB.out.size)) _⟩
        · obtain rfl : k = nm1 := by omega
          obtain rfl : q = true := by
            rw [← HQM.out]
            exact decide_eq_true (moves_ext (by rw [HN1.out, HN2.out]) (fun j hj => HALL.out j (by rw [HN1.out] at hj; exact hj)))
          go_wp2
          go_ret
          exact ⟨rfl, HB.out.trans (HBW.out.mono HB.out.size)⟩
end Evt
end Go.Proofs.YtghkalamlcfnnaaGreatDoor
end
