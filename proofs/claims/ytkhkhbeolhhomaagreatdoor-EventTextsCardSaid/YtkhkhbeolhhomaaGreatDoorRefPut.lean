/- the reference's putField. -/
import Derived.Test.YtkhkhbeolhhomaaGreatDoorRefReadRule
import Derived.Test.YtkhkhbeolhhomaaGreatDoorRefCut
import Derived.Test.YtkhkhbeolhhomaaGreatDoorEvPutL
import Derived.Test.YtkhkhbeolhhomaaGreatDoorOnly
namespace Go.Proofs.YtkhkhbeolhhomaaGreatDoor
open Go Go.RowKit Go.Shelf Lmd
attribute [local go_sem] Oper.semAt_some
namespace Evt
open Rul Day Cand Er Tp Rf Rct

theorem lg_plain {l : List UInt8} (h : ¬ (1 < l.length ∧ l[0]? = some 45)) : lgOk l = numOk l := by
  unfold lgOk numOk
  rcases Lib.atoiAll l with v | _ | _
  · show (decide (l.length ≤ 9) && decide (Lib.itoa v = l)) = (decide (l.length ≤ 9) && decide (0 ≤ v) && decide (Lib.itoa v = l))
    by_cases hi : Lib.itoa v = l
    · have h0 : 0 ≤ v := by
        by_cases h0 : 0 ≤ v
        case neg =>
          exfalso
          obtain ⟨u, rfl⟩ : ∃ u : Nat, v = -(u : Int) := ⟨(-v).toNat, by omega⟩
          rw [Lib.itoa_neg u (by omega)] at hi
          have := List.length_pos_iff.2 (dec_ne u)
          exact h ⟨by rw [← hi, List.length_cons]; omega, by rw [← hi]; rfl⟩
        case pos => exact h0
      rw [decide_eq_true h0, Bool.and_true]
    · rw [decide_eq_false hi]; simp
  · rfl
  · rfl
theorem lg_sign (t : List UInt8) : lgOk (45 :: t) = (numOk t && decide (numIs t ≠ 0) && decide (t.length ≤ 8)) ∧ (lgOk (45 :: t) = true → numIs (45 :: t) = -numIs t) := by
  by_cases hok : numOk t = true ∧ numIs t ≠ 0 ∧ t.length ≤ 8
  · obtain ⟨h1, h2, h3⟩ := hok
    obtain ⟨g0, g1, g2⟩ := num_of h1
    obtain ⟨u, hu⟩ : ∃ u : Nat, numIs t = (u : Int) := ⟨(numIs t).toNat, by omega⟩
    rw [hu] at g1 g2 h2
    rw [Lib.itoa_nonneg] at g2
    have ha : Lib.atoiAll (45 :: t) = .ok (-(u : Int)) := by
      have hp := parse_dec u (by omega)
      rw [g2] at hp
      have hne : t ≠ [] := by rw [← g2]; exact dec_ne u
      unfold Lib.atoiAll
      simp only
      rw [if_pos (by decide)]
      simp only [Lib.parseMag, hp]
      rw [if_neg hne]
      simp only
      rw [if_neg (by simp), if_neg (by omega), if_pos (by decide)]
    have hit : Lib.itoa (-(u : Int)) = 45 :: t := by rw [Lib.itoa_neg u (by omega), g2]
    have hl : lgOk (45 :: t) = true := by
      unfold lgOk
      rw [ha]
      simp only [Bool.and_eq_true, decide_eq_true_eq]
      exact ⟨by rw [List.length_cons]; omega, hit⟩
    refine ⟨?_, fun _ => ?_⟩
    · rw [hl, h1, decide_eq_true h3, decide_eq_true (by rw [hu]; exact h2)]; rfl
    · unfold numIs
      rw [ha]
      show -(u : Int) = -(numIs t)
      rw [hu]
  · have hf : lgOk (45 :: t) = false := by
      rw [Bool.eq_false_iff]
      intro h
      apply hok
      unfold lgOk at h
      split at h
      · rename_i v hv
        simp only [Bool.and_eq_true, decide_eq_true_eq] at h
        obtain ⟨h1, h2⟩ := h
        by_cases h0 : 0 ≤ v
        case neg =>
          obtain ⟨u, rfl⟩ : ∃ u : Nat, v = -(u : Int) := ⟨(-v).toNat, by omega⟩
          rw [Lib.itoa_neg u (by omega)] at h2
          have ht : Lib.itoa (u : Int) = t := by rw [Lib.itoa_nonneg]; exact (List.cons.inj h2).2
          have h8 : t.length ≤ 8 := by rw [List.length_cons] at h1; omega
          have hlt : u < 10 ^ 8 := dec_len_ge 8 u (by rw [← Lib.itoa_nonneg, ht]; exact h8)
          have e8 : (10 : Nat) ^ 8 = 100000000 := by decide
          obtain ⟨n1, n2⟩ := num_back (u : Int) (by omega) (by omega)
          rw [ht] at n1 n2
          exact ⟨n1, by rw [n2]; omega, h8⟩
        case pos =>
          exfalso
          have := itoa_free (c := 45) h0 (by decide)
          rw [h2] at this
          exact this (by simp)
      · cases h
    refine ⟨?_, fun h => by rw [hf] at h; cases h⟩
    rw [hf]
    by_cases a1 : numOk t = true
    · by_cases a2 : numIs t ≠ 0
      · have a3 : ¬ t.length ≤ 8 := fun a3 => hok ⟨a1, a2, a3⟩
        rw [decide_eq_false a3, Bool.and_false]
      · rw [decide_eq_false a2]; simp
    · rw [Bool.not_eq_true] at a1
      rw [a1]; rfl
/-- what lies behind putField -/
def IsSl (v : Value) : Prop := ∃ a n c, v = .slice a n c
theorem isSl {a : Option Addr} {n c : Nat} : IsSl (.slice a n c) := ⟨_, _, _, rfl⟩
def PfPost (e : Ev) (vd vs vm : Value) (f s : ByteArray) (w : World) (r : Ending) (w' : World) : Prop :=
  ∃ e' vd' vs' vm', (IsSl vd' ∧ IsSl vs' ∧ IsSl vm') ∧ r = .returned (.tuple #[.agg (e'.cells vd' vs' vm'), .int .i64 (putC f s : Nat)]) ∧ (putC f s = 0 → e' = putE e f s ∧ Rv w' e' vd' vs' vm' ∧ ∀ c, c < w.heap.size → (Off c vd ∧ Off c vs ∧ Off c vm) → Off c vd' ∧ Off c vs' ∧ Off c vm') ∧ Below w.heap.size w w'
theorem res_pf {W : World} {b : Nat} {a0 a1 a2 a3 a4 a5 a6 a7 a8 a9 a10 er : Value} {tmps : Array Value} (h : W.heap[b]? = some (.cells #[a0, a1, a2, a3, a4, a5, a6, a7, a8, a9, a10] 38 (0, 0))) (h2 : tmps.getD 6 undef = .pointer (some ⟨b, 0, none⟩)) (h3 : tmps.getD 7 undef = er) :
    (results Tryz.f126 tmps).run Tryz.prog W = .ok (.tuple #[.agg #[a0, a1, a2, a3, a4, a5, a6, a7, a8, a9, a10], er]) W := by
  obtain ⟨q0, q1, q2, q3, q4, q5, q6, q7, q8, q9, q10⟩ := cells11 h
  have h2' : tmps[6]?.getD undef = .pointer (some ⟨b, 0, none⟩) := by simpa using h2
  have h3' : tmps[7]?.getD undef = er := by simpa using h3
  simp [results, Tryz.f126, go_sem, h2', h3', q0, q1, q2, q3, q4, q5, q6, q7, q8, q9, q10]
/-- the event is handed back -/
theorem two_out {w W : World} {e' : Ev} {vd vs vm : Value} (h : Two w W e' vd vs vm) {c : Int} {tmps : Array Value} (h2 : tmps.getD 6 undef = .pointer (some ⟨w.heap.size + 1, 0, none⟩)) (h3 : tmps.getD 7 undef = .int .i64 c) :
    (results Tryz.f126 tmps).run Tryz.prog (put11 W (w.heap.size + 1) (.string e'.id) (.string e'.ti) (.int .i64 e'.st) (.int .i64 e'.lg) (.string e'.ru.fq) (.int .i64 e'.ru.ev) vd (.int .i64 e'.ru.ct) (.int .i64 e'.ru.un) vs vm) =
      .ok (.tuple #[.agg (e'.cells vd vs vm), .int .i64 c]) (put11 W (w.heap.size + 1) (.string e'.id) (.string e'.ti) (.int .i64 e'.st) (.int .i64 e'.lg) (.string e'.ru.fq) (.int .i64 e'.ru.ev) vd (.int .i64 e'.ru.ct) (.int .i64 e'.ru.un) vs vm) :=
  res_pf (put11_row h.res) h2 h3
theorem two_low {w W : World} {e' : Ev} {vd vs vm : Value} (h : Two w W e' vd vs vm) {a0 a1 a2 a3 a4 a5 a6 a7 a8 a9 a10 : Value} : Below w.heap.size w (put11 W (w.heap.size + 1) a0 a1 a2 a3 a4 a5 a6 a7 a8 a9 a10) :=
  h.low.trans ((put11_only W (w.heap.size + 1) a0 a1 a2 a3 a4 a5 a6 a7 a8 a9 a10).below (Nat.le_succ _))
theorem two_rv {w W : World} {e' : Ev} {vd vs vm : Value} (hr : Rv W e' vd vs vm) (o1 : Off (w.heap.size + 1) vd) (o2 : Off (w.heap.size + 1) vs) (o3 : Off (w.heap.size + 1) vm) {a0 a1 a2 a3 a4 a5 a6 a7 a8 a9 a10 : Value} : Rv (put11 W (w.heap.size + 1) a0 a1 a2 a3 a4 a5 a6 a7 a8 a9 a10) e' vd vs vm :=
  (put11_only W (w.heap.size + 1) a0 a1 a2 a3 a4 a5 a6 a7 a8 a9 a10).rv hr o1 o2 o3
theorem pf_bad {e e' : Ev} {f s : ByteArray} {w W : World} {ud us um vd vs vm : Value} {n : Int} (hn : ((putC f s : Nat) : Int) = n) (h0 : putC f s ≠ 0) (h : Two w W e' vd vs vm) {a0 a1 a2 a3 a4 a5 a6 a7 a8 a9 a10 : Value} (s1 : IsSl vd := by exact isSl) (s2 : IsSl vs := by exact isSl) (s3 : IsSl vm := by exact isSl) :
    PfPost e ud us um f s w (.returned (.tuple #[.agg (e'.cells vd vs vm), .int .i64 n])) (put11 W (w.heap.size + 1) a0 a1 a2 a3 a4 a5 a6 a7 a8 a9 a10) :=
  ⟨e', vd, vs, vm, ⟨s1, s2, s3⟩, by rw [hn], fun h1 => absurd h1 h0, two_low h⟩
set_option maxRecDepth 100000 in
set_option maxHeartbeats 8000000 in
theorem pf_title (e : Ev) (vd vs vm : Value) (f s : ByteArray) (w : World) (hr : Rv w e vd vs vm) (h1 : f.toList = [116, 105, 116, 108, 101]) :
    Calls Tryz.prog 126 #[.agg (e.cells vd vs vm), .string f, .string s] w (PfPost e vd vs vm f s w) := by
  obtain ⟨a6, c6, rfl⟩ := hr.d.shape
  obtain ⟨a9, c9, rfl⟩ := hr.s.shape
  obtain ⟨a10, c10, rfl⟩ := hr.m.shape
  obtain ⟨W, hW⟩ : ∃ W, (w.alloc (.cells (e.cells (.slice a6 e.ru.ds.length c6) (.slice a9 e.sk.length c9) (.slice a10 e.mv.length c10)) 38)).alloc (.cells zeroV 38) = W := ⟨_, rfl⟩
  have hB : Below w.heap.size w W := by rw [← hW]; exact ((Below.refl _ w).alloc (Nat.le_refl _) _).alloc (by simp) _
  have h2 : Two w W e (.slice a6 e.ru.ds.length c6) (.slice a9 e.sk.length c9) (.slice a10 e.mv.length c10) := by
    rw [← hW]
    refine ⟨((Below.refl _ w).alloc (Nat.le_refl _) _).alloc (by simp) _, by simp, (Below.heap_alloc _ _ _ (by simp)).trans (heap_new w _), ?_⟩
    have h := heap_new (w.alloc (.cells (e.cells (.slice a6 e.ru.ds.length c6) (.slice a9 e.sk.length c9) (.slice a10 e.mv.length c10)) 38)) (.cells zeroV 38)
    rwa [World.size_alloc] at h
  have hrw := hr.below hB
  have o0 : ∀ b, w.heap.size ≤ b → Off b (.slice a6 e.ru.ds.length c6) ∧ Off b (.slice a9 e.sk.length c9) ∧ Off b (.slice a10 e.mv.length c10) := fun b hb => ⟨off_reads hr.d hb, off_reads hr.s hb, off_mreads hr.m hb⟩
  obtain ⟨n6, hn6⟩ : ∃ n, e.ru.ds.length = n := ⟨_, rfl⟩
  obtain ⟨n9, hn9⟩ : ∃ n, e.sk.length = n := ⟨_, rfl⟩
  obtain ⟨n10, hn10⟩ : ∃ n, e.mv.length = n := ⟨_, rfl⟩
  rw [hn6, hn9, hn10] at hW h2 hrw o0 ⊢
  have HW := Lib.hid hW
  have H2 := Lib.hid h2
  have HR := Lib.hid hrw
  have O0 := Lib.hid o0
  clear hr hB hW h2 hrw o0 hn6 hn9 hn10
  have hc : putC f s = 0 := by unfold putC; rw [if_pos h1]
  have he : putE e f s = { e with ti := s } := by unfold putE; rw [if_pos h1]
  have HC := Lib.hid hc
  have HE := Lib.hid he
  clear hc he
  go_enter Tryz.func126, Tryz.ntmps126
  obtain ⟨k0, k1, k2, k3, k4, k5, k6, k7, k8, k9, k10⟩ := cells11 H2.out.ev
  obtain ⟨z0, z1, z2, z3, z4, z5, z6, z7, z8, z9, z10⟩ := frozen11 H2.out.ev
  obtain ⟨yy0, yy1, yy2, yy3, yy4, yy5, yy6, yy7, yy8, yy9, yy10⟩ := cells11 H2.out.res
  obtain ⟨y0, y1, y2, y3, y4, y5, y6, y7, y8, y9, y10⟩ := frozen11 H2.out.res
  go_upto_region 4 with fail
  rw [HW.out]
  go_wp2
  have g2 := H2.out.set (i := 1) (u := .string s) (e' := { e with ti := s }) rfl
  refine bodyPost_ret (two_out g2 rfl rfl) rfl ?_
  obtain ⟨o1, o2, o3⟩ := O0.out (w.heap.size + 1) (by omega)
  obtain ⟨p1, p2, p3⟩ := O0.out w.heap.size (Nat.le_refl _)
  exact ⟨_, _, _, _, ⟨isSl, isSl, isSl⟩, by rw [HC.out]; rfl, fun _ => ⟨HE.out.symm, two_rv (Rv.as (e' := { e with ti := s }) (HR.out.off p1 p2 p3) rfl rfl rfl) o1 o2 o3, fun c _ h => h⟩, two_low g2⟩
set_option maxRecDepth 100000 in
set_option maxHeartbeats 8000000 in
theorem pf_start (e : Ev) (vd vs vm : Value) (f s : ByteArray) (w : World) (hr : Rv w e vd vs vm) (h1 : ¬ f.toList = [116, 105, 116, 108, 101]) (h2 : f.toList = [115, 116, 97, 114, 116]) :
    Calls Tryz.prog 126 #[.agg (e.cells vd vs vm), .string f, .string s] w (PfPost e vd vs vm f s w) := by
  obtain ⟨a6, c6, rfl⟩ := hr.d.shape
  obtain ⟨a9, c9, rfl⟩ := hr.s.shape
  obtain ⟨a10, c10, rfl⟩ := hr.m.shape
  obtain ⟨W, hW⟩ : ∃ W, (w.alloc (.cells (e.cells (.slice a6 e.ru.ds.length c6) (.slice a9 e.sk.length c9) (.slice a10 e.mv.length c10)) 38)).alloc (.cells zeroV 38) = W := ⟨_, rfl⟩
  have hB : Below w.heap.size w W := by rw [← hW]; exact ((Below.refl _ w).alloc (Nat.le_refl _) _).alloc (by simp) _
  have h2 : Two w W e (.slice a6 e.ru.ds.length c6) (.slice a9 e.sk.length c9) (.slice a10 e.mv.length c10) := by
    rw [← hW]
    refine ⟨((Below.refl _ w).alloc (Nat.le_refl _) _).alloc (by simp) _, by simp, (Below.heap_alloc _ _ _ (by simp)).trans (heap_new w _), ?_⟩
    have h := heap_new (w.alloc (.cells (e.cells (.slice a6 e.ru.ds.length c6) (.slice a9 e.sk.length c9) (.slice a10 e.mv.length c10)) 38)) (.cells zeroV 38)
    rwa [World.size_alloc] at h
  have hrw := hr.below hB
  have o0 : ∀ b, w.heap.size ≤ b → Off b (.slice a6 e.ru.ds.length c6) ∧ Off b (.slice a9 e.sk.length c9) ∧ Off b (.slice a10 e.mv.length c10) := fun b hb => ⟨off_reads hr.d hb, off_reads hr.s hb, off_mreads hr.m hb⟩
  obtain ⟨n6, hn6⟩ : ∃ n, e.ru.ds.length = n := ⟨_, rfl⟩
  obtain ⟨n9, hn9⟩ : ∃ n, e.sk.length = n := ⟨_, rfl⟩
  obtain ⟨n10, hn10⟩ : ∃ n, e.mv.length = n := ⟨_, rfl⟩
  rw [hn6, hn9, hn10] at hW h2 hrw o0 ⊢
  have HW := Lib.hid hW
  have H2 := Lib.hid h2
  have HR := Lib.hid hrw
  have O0 := Lib.hid o0
  clear hr hB hW h2 hrw o0 hn6 hn9 hn10
  have hc : putC f s = dayC s.data.toList := by unfold putC; rw [if_neg h1, if_pos h2]
  have he : putE e f s = { e with st := dayX s.data.toList } := by unfold putE; rw [if_neg h1, if_pos h2]
  have HC := Lib.hid hc
  have HE := Lib.hid he
  clear hc he
  go_enter Tryz.func126, Tryz.ntmps126
  obtain ⟨k0, k1, k2, k3, k4, k5, k6, k7, k8, k9, k10⟩ := cells11 H2.out.ev
  obtain ⟨z0, z1, z2, z3, z4, z5, z6, z7, z8, z9, z10⟩ := frozen11 H2.out.ev
  obtain ⟨yy0, yy1, yy2, yy3, yy4, yy5, yy6, yy7, yy8, yy9, yy10⟩ := cells11 H2.out.res
  obtain ⟨y0, y1, y2, y3, y4, y5, y6, y7, y8, y9, y10⟩ := frozen11 H2.out.res
  go_upto_region 4 with fail
  rw [HW.out]
  go_wp2_with fail
  (with_reducible refine (rreadDay_any s W).mono ?_)
  rintro e2 w2 ⟨rfl, hb2⟩
  have H3 := Lib.hid (H2.out.below hb2)
  have HR3 := Lib.hid (HR.out.below hb2)
  clear hb2 k0 k1 k2 k3 k4 k5 k6 k7 k8 k9 k10 z0 z1 z2 z3 z4 z5 z6 z7 z8 z9 z10 y0 y1 y2 y3 y4 y5 y6 y7 y8 y9 y10 yy0 yy1 yy2 yy3 yy4 yy5 yy6 yy7 yy8 yy9 yy10
  obtain ⟨k0, k1, k2, k3, k4, k5, k6, k7, k8, k9, k10⟩ := cells11 H3.out.ev
  obtain ⟨z0, z1, z2, z3, z4, z5, z6, z7, z8, z9, z10⟩ := frozen11 H3.out.ev
  obtain ⟨yy0, yy1, yy2, yy3, yy4, yy5, yy6, yy7, yy8, yy9, yy10⟩ := cells11 H3.out.res
  obtain ⟨y0, y1, y2, y3, y4, y5, y6, y7, y8, y9, y10⟩ := frozen11 H3.out.res
  go_wp2
  have g2 := H3.out.set (i := 2) (u := .int .i64 (dayX s.data.toList)) (e' := { e with st := dayX s.data.toList }) rfl
  refine bodyPost_ret (two_out g2 rfl rfl) rfl ?_
  obtain ⟨o1, o2, o3⟩ := O0.out (w.heap.size + 1) (by omega)
  obtain ⟨p1, p2, p3⟩ := O0.out w.heap.size (Nat.le_refl _)
  exact ⟨_, _, _, _, ⟨isSl, isSl, isSl⟩, by rw [HC.out], fun _ => ⟨HE.out.symm, two_rv (Rv.as (e' := { e with st := dayX s.data.toList }) (HR3.out.off p1 p2 p3) rfl rfl rfl) o1 o2 o3, fun c _ h => h⟩, two_low g2⟩
set_option maxRecDepth 100000 in
set_option maxHeartbeats 8000000 in
theorem pf_rule (e : Ev) (vd vs vm : Value) (f s : ByteArray) (w : World) (hr : Rv w e vd vs vm) (hs : s.size ≤ 30000) (h1 : ¬ f.toList = [116, 105, 116, 108, 101]) (h2 : ¬ f.toList = [115, 116, 97, 114, 116]) (h3 : ¬ f.toList = [108, 111, 110, 103]) (h4 : f.toList = [114, 117, 108, 101]) :
    Calls Tryz.prog 126 #[.agg (e.cells vd vs vm), .string f, .string s] w (PfPost e vd vs vm f s w) := by
  obtain ⟨a6, c6, rfl⟩ := hr.d.shape
  obtain ⟨a9, c9, rfl⟩ := hr.s.shape
  obtain ⟨a10, c10, rfl⟩ := hr.m.shape
  obtain ⟨W, hW⟩ : ∃ W, (w.alloc (.cells (e.cells (.slice a6 e.ru.ds.length c6) (.slice a9 e.sk.length c9) (.slice a10 e.mv.length c10)) 38)).alloc (.cells zeroV 38) = W := ⟨_, rfl⟩
  have hB : Below w.heap.size w W := by rw [← hW]; exact ((Below.refl _ w).alloc (Nat.le_refl _) _).alloc (by simp) _
  have h2 : Two w W e (.slice a6 e.ru.ds.length c6) (.slice a9 e.sk.length c9) (.slice a10 e.mv.length c10) := by
    rw [← hW]
    refine ⟨((Below.refl _ w).alloc (Nat.le_refl _) _).alloc (by simp) _, by simp, (Below.heap_alloc _ _ _ (by simp)).trans (heap_new w _), ?_⟩
    have h := heap_new (w.alloc (.cells (e.cells (.slice a6 e.ru.ds.length c6) (.slice a9 e.sk.length c9) (.slice a10 e.mv.length c10)) 38)) (.cells zeroV 38)
    rwa [World.size_alloc] at h
  have hrw := hr.below hB
  have o0 : ∀ b, w.heap.size ≤ b → Off b (.slice a6 e.ru.ds.length c6) ∧ Off b (.slice a9 e.sk.length c9) ∧ Off b (.slice a10 e.mv.length c10) := fun b hb => ⟨off_reads hr.d hb, off_reads hr.s hb, off_mreads hr.m hb⟩
  obtain ⟨n6, hn6⟩ : ∃ n, e.ru.ds.length = n := ⟨_, rfl⟩
  obtain ⟨n9, hn9⟩ : ∃ n, e.sk.length = n := ⟨_, rfl⟩
  obtain ⟨n10, hn10⟩ : ∃ n, e.mv.length = n := ⟨_, rfl⟩
  rw [hn6, hn9, hn10] at hW h2 hrw o0 ⊢
  have HW := Lib.hid hW
  have H2 := Lib.hid h2
  have HR := Lib.hid hrw
  have O0 := Lib.hid o0
  clear hr hB hW h2 hrw o0 hn6 hn9 hn10
  have hc : putC f s = (readS s).1 := by unfold putC; rw [if_neg h1, if_neg h2, if_neg h3, if_pos h4]
  have he : putE e f s = { e with ru := (readS s).2 } := by unfold putE; rw [if_neg h1, if_neg h2, if_neg h3, if_pos h4]
  have HC := Lib.hid hc
  have HE := Lib.hid he
  clear hc he
  have hrr := readRule_any s W hs
  obtain ⟨R, hR⟩ : ∃ R, readS s = R := ⟨_, rfl⟩
  rw [hR] at hrr HC HE
  have HRR := Lib.hid hrr
  clear hrr hR
  go_enter Tryz.func126, Tryz.ntmps126
  obtain ⟨k0, k1, k2, k3, k4, k5, k6, k7, k8, k9, k10⟩ := cells11 H2.out.ev
  obtain ⟨z0, z1, z2, z3, z4, z5, z6, z7, z8, z9, z10⟩ := frozen11 H2.out.ev
  obtain ⟨yy0, yy1, yy2, yy3, yy4, yy5, yy6, yy7, yy8, yy9, yy10⟩ := cells11 H2.out.res
  obtain ⟨y0, y1, y2, y3, y4, y5, y6, y7, y8, y9, y10⟩ := frozen11 H2.out.res
  go_upto_region 4 with fail
  rw [HW.out]
  go_wp2_with fail
  (with_reducible refine HRR.out.mono ?_)
  rintro e2 w2 ⟨v2, rfl, hr2, hf2, hb2⟩
  have H3 := Lib.hid (H2.out.below hb2)
  have HR3 := Lib.hid (HR.out.below hb2)
  obtain ⟨a2, c2, rfl⟩ := hr2.shape
  obtain ⟨dn, hdn⟩ : ∃ n, R.2.ds.length = n := ⟨_, rfl⟩
  rw [hdn] at hr2 hf2 ⊢
  have HR2 := Lib.hid hr2
  have HF2 := Lib.hid hf2
  have HT := Lib.hid H2.out.top
  have hu := Tryz.underlying35
  clear hb2 hr2 hf2 hdn k0 k1 k2 k3 k4 k5 k6 k7 k8 k9 k10 z0 z1 z2 z3 z4 z5 z6 z7 z8 z9 z10 y0 y1 y2 y3 y4 y5 y6 y7 y8 y9 y10 yy0 yy1 yy2 yy3 yy4 yy5 yy6 yy7 yy8 yy9 yy10
  obtain ⟨k0, k1, k2, k3, k4, k5, k6, k7, k8, k9, k10⟩ := cells11 H3.out.ev
  obtain ⟨z0, z1, z2, z3, z4, z5, z6, z7, z8, z9, z10⟩ := frozen11 H3.out.ev
  obtain ⟨yy0, yy1, yy2, yy3, yy4, yy5, yy6, yy7, yy8, yy9, yy10⟩ := cells11 H3.out.res
  obtain ⟨y0, y1, y2, y3, y4, y5, y6, y7, y8, y9, y10⟩ := frozen11 H3.out.res
  go_wp2
  have g2 : Two w (((((w2.setCell ⟨w.heap.size, 4, none⟩ (.string R.2.fq)).setCell ⟨w.heap.size, 5, none⟩ (.int .i64 R.2.ev)).setCell ⟨w.heap.size, 6, none⟩ (.slice a2 dn c2)).setCell ⟨w.heap.size, 7, none⟩ (.int .i64 R.2.ct)).setCell ⟨w.heap.size, 8, none⟩ (.int .i64 R.2.un)) { e with ru := R.2 } (.slice a2 dn c2) (.slice a9 n9 c9) (.slice a10 n10 c10) :=
    ((((H3.out.set (i := 4) (u := .string R.2.fq) (e' := { e with ru := { e.ru with fq := R.2.fq } }) rfl).set (i := 5) (u := .int .i64 R.2.ev) (e' := { e with ru := { e.ru with fq := R.2.fq, ev := R.2.ev } }) rfl).set (i := 6) (u := .slice a2 dn c2) (e' := { e with ru := { e.ru with fq := R.2.fq, ev := R.2.ev } }) (vd' := .slice a2 dn c2) rfl).set (i := 7) (u := .int .i64 R.2.ct) (e' := { e with ru := { e.ru with fq := R.2.fq, ev := R.2.ev, ct := R.2.ct } }) rfl).set (i := 8) (u := .int .i64 R.2.un) (e' := { e with ru := R.2 }) rfl
  refine bodyPost_ret (two_out g2 rfl rfl) rfl ?_
  have on : Only w.heap.size w2 (((((w2.setCell ⟨w.heap.size, 4, none⟩ (.string R.2.fq)).setCell ⟨w.heap.size, 5, none⟩ (.int .i64 R.2.ev)).setCell ⟨w.heap.size, 6, none⟩ (.slice a2 dn c2)).setCell ⟨w.heap.size, 7, none⟩ (.int .i64 R.2.ct)).setCell ⟨w.heap.size, 8, none⟩ (.int .i64 R.2.un)) :=
    (((((Only.refl w.heap.size w2).set 4 _).set 5 _).set 6 _).set 7 _).set 8 _
  obtain ⟨o1, o2, o3⟩ := O0.out (w.heap.size + 1) (by omega)
  obtain ⟨p1, p2, p3⟩ := O0.out w.heap.size (Nat.le_refl _)
  have q1 : Off w.heap.size (.slice a2 dn c2) := fun g o n c h1 h2 => by have := HF2.out g o n c h1 h2; have := HT.out; omega
  have q2 : Off (w.heap.size + 1) (.slice a2 dn c2) := fun g o n c h1 h2 => by have := HF2.out g o n c h1 h2; have := HT.out; omega
  have hrv : Rv _ { e with ru := R.2 } (.slice a2 dn c2) (.slice a9 n9 c9) (.slice a10 n10 c10) := ⟨on.reads HR2.out q1, on.reads HR3.out.s p2, on.mreads HR3.out.m p3⟩
  exact ⟨_, _, _, _, ⟨isSl, isSl, isSl⟩, by rw [HC.out], fun _ => ⟨HE.out.symm, two_rv hrv q2 o2 o3, fun c hc h => ⟨fun g o n cc h1 h2 => by have := HF2.out g o n cc h1 h2; have := HT.out; omega, h.2⟩⟩, two_low g2⟩
set_option maxRecDepth 100000 in
set_option maxHeartbeats 8000000 in
theorem pf_none (e : Ev) (vd vs vm : Value) (f s : ByteArray) (w : World) (hr : Rv w e vd vs vm) (h1 : ¬ f.toList = [116, 105, 116, 108, 101]) (h2 : ¬ f.toList = [115, 116, 97, 114, 116]) (h3 : ¬ f.toList = [108, 111, 110, 103]) (h4 : ¬ f.toList = [114, 117, 108, 101]) (h5 : ¬ f.toList = [115, 107, 105, 112, 115]) (h6 : ¬ f.toList = [109, 111, 118, 101, 115]) :
    Calls Tryz.prog 126 #[.agg (e.cells vd vs vm), .string f, .string s] w (PfPost e vd vs vm f s w) := by
  obtain ⟨a6, c6, rfl⟩ := hr.d.shape
  obtain ⟨a9, c9, rfl⟩ := hr.s.shape
  obtain ⟨a10, c10, rfl⟩ := hr.m.shape
  obtain ⟨W, hW⟩ : ∃ W, (w.alloc (.cells (e.cells (.slice a6 e.ru.ds.length c6) (.slice a9 e.sk.length c9) (.slice a10 e.mv.length c10)) 38)).alloc (.cells zeroV 38) = W := ⟨_, rfl⟩
  have hB : Below w.heap.size w W := by rw [← hW]; exact ((Below.refl _ w).alloc (Nat.le_refl _) _).alloc (by simp) _
  have h2 : Two w W e (.slice a6 e.ru.ds.length c6) (.slice a9 e.sk.length c9) (.slice a10 e.mv.length c10) := by
    rw [← hW]
    refine ⟨((Below.refl _ w).alloc (Nat.le_refl _) _).alloc (by simp) _, by simp, (Below.heap_alloc _ _ _ (by simp)).trans (heap_new w _), ?_⟩
    have h := heap_new (w.alloc (.cells (e.cells (.slice a6 e.ru.ds.length c6) (.slice a9 e.sk.length c9) (.slice a10 e.mv.length c10)) 38)) (.cells zeroV 38)
    rwa [World.size_alloc] at h
  have hrw := hr.below hB
  have o0 : ∀ b, w.heap.size ≤ b → Off b (.slice a6 e.ru.ds.length c6) ∧ Off b (.slice a9 e.sk.length c9) ∧ Off b (.slice a10 e.mv.length c10) := fun b hb => ⟨off_reads hr.d hb, off_reads hr.s hb, off_mreads hr.m hb⟩
  obtain ⟨n6, hn6⟩ : ∃ n, e.ru.ds.length = n := ⟨_, rfl⟩
  obtain ⟨n9, hn9⟩ : ∃ n, e.sk.length = n := ⟨_, rfl⟩
  obtain ⟨n10, hn10⟩ : ∃ n, e.mv.length = n := ⟨_, rfl⟩
  rw [hn6, hn9, hn10] at hW h2 hrw o0 ⊢
  have HW := Lib.hid hW
  have H2 := Lib.hid h2
  have HR := Lib.hid hrw
  have O0 := Lib.hid o0
  clear hr hB hW h2 hrw o0 hn6 hn9 hn10
  have hc : putC f s = 4 := by unfold putC; rw [if_neg h1, if_neg h2, if_neg h3, if_neg h4, if_neg h5, if_neg h6]
  have HC := Lib.hid hc
  have b1 : (f.toList == [116, 105, 116, 108, 101]) = false := by simpa using h1
  have b2 : (f.toList == [115, 116, 97, 114, 116]) = false := by simpa using h2
  have b3 : (f.toList == [108, 111, 110, 103]) = false := by simpa using h3
  have b4 : (f.toList == [114, 117, 108, 101]) = false := by simpa using h4
  have b5 : (f.toList == [115, 107, 105, 112, 115]) = false := by simpa using h5
  have b6 : (f.toList == [109, 111, 118, 101, 115]) = false := by simpa using h6
  clear hc h1 h2 h3 h4 h5 h6
  go_enter Tryz.func126, Tryz.ntmps126
  obtain ⟨k0, k1, k2, k3, k4, k5, k6, k7, k8, k9, k10⟩ := cells11 H2.out.ev
  obtain ⟨z0, z1, z2, z3, z4, z5, z6, z7, z8, z9, z10⟩ := frozen11 H2.out.ev
  obtain ⟨yy0, yy1, yy2, yy3, yy4, yy5, yy6, yy7, yy8, yy9, yy10⟩ := cells11 H2.out.res
  obtain ⟨y0, y1, y2, y3, y4, y5, y6, y7, y8, y9, y10⟩ := frozen11 H2.out.res
  go_upto_region 4 with fail
  rw [HW.out]
  go_wp2
  refine bodyPost_ret (two_out H2.out rfl rfl) rfl ?_
  exact pf_bad (by rw [HC.out]; rfl) (by rw [HC.out]; decide) H2.out
set_option maxRecDepth 100000 in
set_option maxHeartbeats 8000000 in
theorem pf_long (e : Ev) (vd vs vm : Value) (f s : ByteArray) (w : World) (hr : Rv w e vd vs vm) (hs : s.size ≤ 30000) (h1 : ¬ f.toList = [116, 105, 116, 108, 101]) (h2 : ¬ f.toList = [115, 116, 97, 114, 116]) (h3 : f.toList = [108, 111, 110, 103]) :
    Calls Tryz.prog 126 #[.agg (e.cells vd vs vm), .string f, .string s] w (PfPost e vd vs vm f s w) := by
  obtain ⟨a6, c6, rfl⟩ := hr.d.shape
  obtain ⟨a9, c9, rfl⟩ := hr.s.shape
  obtain ⟨a10, c10, rfl⟩ := hr.m.shape
  obtain ⟨W, hW⟩ : ∃ W, (w.alloc (.cells (e.cells (.slice a6 e.ru.ds.length c6) (.slice a9 e.sk.length c9) (.slice a10 e.mv.length c10)) 38)).alloc (.cells zeroV 38) = W := ⟨_, rfl⟩
  have hB : Below w.heap.size w W := by rw [← hW]; exact ((Below.refl _ w).alloc (Nat.le_refl _) _).alloc (by simp) _
  have h2 : Two w W e (.slice a6 e.ru.ds.length c6) (.slice a9 e.sk.length c9) (.slice a10 e.mv.length c10) := by
    rw [← hW]
    refine ⟨((Below.refl _ w).alloc (Nat.le_refl _) _).alloc (by simp) _, by simp, (Below.heap_alloc _ _ _ (by simp)).trans (heap_new w _), ?_⟩
    have h := heap_new (w.alloc (.cells (e.cells (.slice a6 e.ru.ds.length c6) (.slice a9 e.sk.length c9) (.slice a10 e.mv.length c10)) 38)) (.cells zeroV 38)
    rwa [World.size_alloc] at h
  have hrw := hr.below hB
  have o0 : ∀ b, w.heap.size ≤ b → Off b (.slice a6 e.ru.ds.length c6) ∧ Off b (.slice a9 e.sk.length c9) ∧ Off b (.slice a10 e.mv.length c10) := fun b hb => ⟨off_reads hr.d hb, off_reads hr.s hb, off_mreads hr.m hb⟩
  obtain ⟨n6, hn6⟩ : ∃ n, e.ru.ds.length = n := ⟨_, rfl⟩
  obtain ⟨n9, hn9⟩ : ∃ n, e.sk.length = n := ⟨_, rfl⟩
  obtain ⟨n10, hn10⟩ : ∃ n, e.mv.length = n := ⟨_, rfl⟩
  rw [hn6, hn9, hn10] at hW h2 hrw o0 ⊢
  have HW := Lib.hid hW
  have H2 := Lib.hid h2
  have HR := Lib.hid hrw
  have O0 := Lib.hid o0
  clear hr hB hW h2 hrw o0 hn6 hn9 hn10
  have hc : putC f s = if lgOk s.data.toList = true then 0 else 1 := by unfold putC; rw [if_neg h1, if_neg h2, if_pos h3]
  have he : putE e f s = { e with lg := numIs s.data.toList } := by unfold putE; rw [if_neg h1, if_neg h2, if_pos h3]
  have HC := Lib.hid hc
  have HE := Lib.hid he
  clear hc he
  go_enter Tryz.func126, Tryz.ntmps126
  obtain ⟨k0, k1, k2, k3, k4, k5, k6, k7, k8, k9, k10⟩ := cells11 H2.out.ev
  obtain ⟨z0, z1, z2, z3, z4, z5, z6, z7, z8, z9, z10⟩ := frozen11 H2.out.ev
  obtain ⟨yy0, yy1, yy2, yy3, yy4, yy5, yy6, yy7, yy8, yy9, yy10⟩ := cells11 H2.out.res
  obtain ⟨y0, y1, y2, y3, y4, y5, y6, y7, y8, y9, y10⟩ := frozen11 H2.out.res
  go_upto_region 4 with fail
  rw [HW.out]
  have hll : s.data.toList.length = s.size := by simp
  by_cases hsg : 1 < s.size ∧ s.data.toList[0]? = some 45
  · obtain ⟨hs1, h45⟩ := hsg
    have hs0 : 0 < s.size := by omega
    obtain ⟨t, ht⟩ : ∃ t, s.data.toList = 45 :: t := by
      cases hl : s.data.toList with
      | nil => rw [hl] at h45; cases h45
      | cons c t => rw [hl] at h45; simp at h45; subst h45; exact ⟨t, rfl⟩
    have hsx : (s[0] : UInt8) = 45 := at_of s 0 45 hs0 h45
    have hext : s.extract 1 s.size = mk t := by
      refine mk_of ?_
      have h1 : (45 :: t).length = s.size := by rw [← ht]; exact hll
      rw [List.length_cons] at h1
      rw [ext_mid, ht, List.drop_one, List.tail_cons]
      exact List.take_of_length_le (by omega)
    have htl : t.length + 1 = s.size := by rw [← hll, ht, List.length_cons]
    have hne2 : (t == s.toList) = false := by
      rw [beq_eq_false_iff_ne, ByteArray.toList_eq]
      intro e
      have := congrArg List.length e
      omega
    obtain ⟨g1, g2⟩ := lg_sign t
    rw [← ht] at g1 g2
    have hnc : Calls Tryz.prog 180 #[.string (mk t), .int .i64 9] W fun e w' => e = .returned (.int .i64 (if numOk t = true then numIs t else -1)) ∧ Below W.heap.size W w' := num_call (mk t) W (by show t.length ≤ _; omega) rfl
    obtain ⟨N, hN⟩ : ∃ N, (if numOk t = true then numIs t else -1) = N := ⟨_, rfl⟩
    rw [hN] at hnc
    have HNC := Lib.hid hnc
    have HN := Lib.hid hN
    have HG1 := Lib.hid g1
    have HG2 := Lib.hid g2
    have hs1' : (1 : Int) < (s.size : Int) := by omega
    have hs1n : 1 ≤ s.size := by omega
    have HTL := Lib.hid htl
    clear hN hnc g1 g2 h45 ht hll
    go_wp2_with fail
    (with_reducible refine HNC.out.mono ?_)
    rintro e2 w2 ⟨rfl, hb2⟩
    have H3 := Lib.hid (H2.out.below hb2)
    have HR3 := Lib.hid (HR.out.below hb2)
    clear hb2 k0 k1 k2 k3 k4 k5 k6 k7 k8 k9 k10 z0 z1 z2 z3 z4 z5 z6 z7 z8 z9 z10 y0 y1 y2 y3 y4 y5 y6 y7 y8 y9 y10 yy0 yy1 yy2 yy3 yy4 yy5 yy6 yy7 yy8 yy9 yy10
    obtain ⟨k0, k1, k2, k3, k4, k5, k6, k7, k8, k9, k10⟩ := cells11 H3.out.ev
    obtain ⟨z0, z1, z2, z3, z4, z5, z6, z7, z8, z9, z10⟩ := frozen11 H3.out.ev
    go_upto_region 13 with fail
    obtain ⟨W3, hW3⟩ : ∃ W3, w2.setCell ⟨w.heap.size, 3, none⟩ (.int .i64 N) = W3 := ⟨_, rfl⟩
    have g3 : Two w W3 { e with lg := N } (.slice a6 n6 c6) (.slice a9 n9 c9) (.slice a10 n10 c10) := by rw [← hW3]; exact H3.out.set (i := 3) (u := .int .i64 N) (e' := { e with lg := N }) rfl
    have hr3 : Rv W3 { e with lg := N } (.slice a6 n6 c6) (.slice a9 n9 c9) (.slice a10 n10 c10) := by
      rw [← hW3]
      obtain ⟨p1, p2, p3⟩ := O0.out w.heap.size (Nat.le_refl _)
      exact (HR3.out.off p1 p2 p3).as rfl rfl rfl
    rw [hW3]
    have H4 := Lib.hid g3
    have HR4 := Lib.hid hr3
    clear hW3 g3 hr3 k0 k1 k2 k3 k4 k5 k6 k7 k8 k9 k10 z0 z1 z2 z3 z4 z5 z6 z7 z8 z9 z10
    obtain ⟨k0, k1, k2, k3, k4, k5, k6, k7, k8, k9, k10⟩ := cells11 H4.out.ev
    obtain ⟨z0, z1, z2, z3, z4, z5, z6, z7, z8, z9, z10⟩ := frozen11 H4.out.ev
    obtain ⟨yy0, yy1, yy2, yy3, yy4, yy5, yy6, yy7, yy8, yy9, yy10⟩ := cells11 H4.out.res
    obtain ⟨y0, y1, y2, y3, y4, y5, y6, y7, y8, y9, y10⟩ := frozen11 H4.out.res
    by_cases hok : numOk t = true
    case neg =>
      have hN1 : N = -1 := by rw [← HN.out, if_neg hok]
      subst hN1
      have HL := Lib.hid (show ¬ lgOk s.data.toList = true by rw [HG1.out]; simp [hok])
      go_wp2
      refine bodyPost_ret (two_out H4.out rfl rfl) rfl ?_
      exact pf_bad (by rw [HC.out, if_neg HL.out]; rfl) (by rw [HC.out, if_neg HL.out]; decide) H4.out
    obtain ⟨q0, q1, q2⟩ := num_of hok
    have hNt : numIs t = N := by rw [← HN.out, if_pos hok]
    rw [hNt] at q0 q1
    have hN0 : ¬ N < 0 := by omega
    by_cases h9 : s.size ≤ 9
    case neg =>
      have h9i : (9 : Int) < (s.size : Int) := by omega
      have HL := Lib.hid (show ¬ lgOk s.data.toList = true by rw [HG1.out]; have := HTL.out; simp; omega)
      go_wp2
      refine bodyPost_ret (two_out H4.out rfl rfl) rfl ?_
      exact pf_bad (by rw [HC.out, if_neg HL.out]; rfl) (by rw [HC.out, if_neg HL.out]; decide) H4.out
    have h9i : ¬ (9 : Int) < (s.size : Int) := by omega
    by_cases hz : N = 0
    · subst hz
      have HL := Lib.hid (show ¬ lgOk s.data.toList = true by rw [HG1.out, hNt]; simp)
      go_wp2
      refine bodyPost_ret (two_out H4.out rfl rfl) rfl ?_
      exact pf_bad (by rw [HC.out, if_neg HL.out]; rfl) (by rw [HC.out, if_neg HL.out]; decide) H4.out
    · have hzb : (N == 0) = false := by simpa using hz
      have HL := Lib.hid (show lgOk s.data.toList = true by rw [HG1.out, hok, hNt, decide_eq_true hz, decide_eq_true (by have := HTL.out; omega)]; rfl)
      have HV := Lib.hid (show numIs s.data.toList = -N by
        have h := HG2.out HL.out
        rw [hNt] at h; exact h)
      have hneg : (0 : Int) - N = -N := by omega
      clear hok q2 hNt
      go_wp2
      have g4 := H4.out.set (i := 3) (u := .int .i64 (-N)) (e' := { e with lg := -N }) rfl
      refine bodyPost_ret (two_out g4 rfl rfl) rfl ?_
      obtain ⟨o1, o2, o3⟩ := O0.out (w.heap.size + 1) (by omega)
      obtain ⟨p1, p2, p3⟩ := O0.out w.heap.size (Nat.le_refl _)
      exact ⟨_, _, _, _, ⟨isSl, isSl, isSl⟩, by rw [HC.out, if_pos HL.out]; rfl, fun _ => ⟨by rw [HE.out, HV.out], two_rv (Rv.as (e' := { e with lg := -N }) (HR4.out.off p1 p2 p3) rfl rfl rfl) o1 o2 o3, fun c _ h => h⟩, two_low g4⟩
  · have hnc : Calls Tryz.prog 180 #[.string s, .int .i64 9] W fun e w' => e = .returned (.int .i64 (if numOk s.data.toList = true then numIs s.data.toList else -1)) ∧ Below W.heap.size W w' := num_call s W hs rfl
    obtain ⟨N, hN⟩ : ∃ N, (if numOk s.data.toList = true then numIs s.data.toList else -1) = N := ⟨_, rfl⟩
    rw [hN] at hnc
    have HNC := Lib.hid hnc
    have HN := Lib.hid hN
    have HG1 := Lib.hid (lg_plain (l := s.data.toList) (by rw [hll]; exact hsg))
    have h9of : numOk s.data.toList = true → s.size ≤ 9 := fun h => by
      unfold numOk at h
      split at h
      · simp only [Bool.and_eq_true, decide_eq_true_eq] at h
        rw [← hll]; exact h.1.1
      · cases h
    have H9OF := Lib.hid h9of
    have hself2 : (s.toList == s.toList) = true := beq_self_eq_true _
    clear hN hnc hll h9of
    by_cases hs1 : 1 < s.size
    case pos =>
      have hs1' : (1 : Int) < (s.size : Int) := by omega
      have hs0 : 0 < s.size := by omega
      obtain ⟨x, hx⟩ : ∃ x, s.data.toList[0]? = some x := ⟨_, List.getElem?_eq_getElem (by simp; omega)⟩
      have hsx : (s[0] : UInt8) = x := at_of s 0 x hs0 hx
      have hx45 : ((x.toNat : Int) == 45) = false := by
        rw [beq_eq_false_iff_ne]
        intro e1
        apply hsg
        refine ⟨hs1, ?_⟩
        rw [hx]
        congr 1
        exact UInt8.toNat_inj.1 (by show x.toNat = 45; omega)
      clear hsg hx
      go_wp2_with fail
      (with_reducible refine HNC.out.mono ?_)
      rintro e2 w2 ⟨rfl, hb2⟩
      have H3 := Lib.hid (H2.out.below hb2)
      have HR3 := Lib.hid (HR.out.below hb2)
      clear hb2 k0 k1 k2 k3 k4 k5 k6 k7 k8 k9 k10 z0 z1 z2 z3 z4 z5 z6 z7 z8 z9 z10 y0 y1 y2 y3 y4 y5 y6 y7 y8 y9 y10 yy0 yy1 yy2 yy3 yy4 yy5 yy6 yy7 yy8 yy9 yy10
      obtain ⟨k0, k1, k2, k3, k4, k5, k6, k7, k8, k9, k10⟩ := cells11 H3.out.ev
      obtain ⟨z0, z1, z2, z3, z4, z5, z6, z7, z8, z9, z10⟩ := frozen11 H3.out.ev
      go_upto_region 13 with fail
      obtain ⟨W3, hW3⟩ : ∃ W3, w2.setCell ⟨w.heap.size, 3, none⟩ (.int .i64 N) = W3 := ⟨_, rfl⟩
      have g3 : Two w W3 { e with lg := N } (.slice a6 n6 c6) (.slice a9 n9 c9) (.slice a10 n10 c10) := by rw [← hW3]; exact H3.out.set (i := 3) (u := .int .i64 N) (e' := { e with lg := N }) rfl
      have hr3 : Rv W3 { e with lg := N } (.slice a6 n6 c6) (.slice a9 n9 c9) (.slice a10 n10 c10) := by
        rw [← hW3]
        obtain ⟨p1, p2, p3⟩ := O0.out w.heap.size (Nat.le_refl _)
        exact (HR3.out.off p1 p2 p3).as rfl rfl rfl
      rw [hW3]
      have H4 := Lib.hid g3
      have HR4 := Lib.hid hr3
      clear hW3 g3 hr3 k0 k1 k2 k3 k4 k5 k6 k7 k8 k9 k10 z0 z1 z2 z3 z4 z5 z6 z7 z8 z9 z10
      obtain ⟨k0, k1, k2, k3, k4, k5, k6, k7, k8, k9, k10⟩ := cells11 H4.out.ev
      obtain ⟨z0, z1, z2, z3, z4, z5, z6, z7, z8, z9, z10⟩ := frozen11 H4.out.ev
      obtain ⟨yy0, yy1, yy2, yy3, yy4, yy5, yy6, yy7, yy8, yy9, yy10⟩ := cells11 H4.out.res
      obtain ⟨y0, y1, y2, y3, y4, y5, y6, y7, y8, y9, y10⟩ := frozen11 H4.out.res
      by_cases hok : numOk s.data.toList = true
      case neg =>
        have hN1 : N = -1 := by rw [← HN.out, if_neg hok]
        subst hN1
        have HL := Lib.hid (show ¬ lgOk s.data.toList = true by rw [HG1.out]; exact hok)
        go_wp2
        refine bodyPost_ret (two_out H4.out rfl rfl) rfl ?_
        exact pf_bad (by rw [HC.out, if_neg HL.out]; rfl) (by rw [HC.out, if_neg HL.out]; decide) H4.out
      obtain ⟨q0, q1, q2⟩ := num_of hok
      have hNt : numIs s.data.toList = N := by rw [← HN.out, if_pos hok]
      rw [hNt] at q0 q1
      have hN0 : ¬ N < 0 := by omega
      have h9 := H9OF.out hok
      have h9i : ¬ (9 : Int) < (s.size : Int) := by omega
      have HL := Lib.hid (show lgOk s.data.toList = true by rw [HG1.out, hok])
      have HV := Lib.hid hNt
      clear hok q2 hNt
      go_wp2
      refine bodyPost_ret (two_out H4.out rfl rfl) rfl ?_
      obtain ⟨o1, o2, o3⟩ := O0.out (w.heap.size + 1) (by omega)
      exact ⟨_, _, _, _, ⟨isSl, isSl, isSl⟩, by rw [HC.out, if_pos HL.out]; rfl, fun _ => ⟨by rw [HE.out, HV.out], two_rv HR4.out o1 o2 o3, fun c _ h => h⟩, two_low H4.out⟩
    case neg =>
      have hs1' : ¬ (1 : Int) < (s.size : Int) := by omega
      clear hsg
      go_wp2_with fail
      (with_reducible refine HNC.out.mono ?_)
      rintro e2 w2 ⟨rfl, hb2⟩
      have H3 := Lib.hid (H2.out.below hb2)
      have HR3 := Lib.hid (HR.out.below hb2)
      clear hb2 k0 k1 k2 k3 k4 k5 k6 k7 k8 k9 k10 z0 z1 z2 z3 z4 z5 z6 z7 z8 z9 z10 y0 y1 y2 y3 y4 y5 y6 y7 y8 y9 y10 yy0 yy1 yy2 yy3 yy4 yy5 yy6 yy7 yy8 yy9 yy10
      obtain ⟨k0, k1, k2, k3, k4, k5, k6, k7, k8, k9, k10⟩ := cells11 H3.out.ev
      obtain ⟨z0, z1, z2, z3, z4, z5, z6, z7, z8, z9, z10⟩ := frozen11 H3.out.ev
      go_upto_region 13 with fail
      obtain ⟨W3, hW3⟩ : ∃ W3, w2.setCell ⟨w.heap.size, 3, none⟩ (.int .i64 N) = W3 := ⟨_, rfl⟩
      have g3 : Two w W3 { e with lg := N } (.slice a6 n6 c6) (.slice a9 n9 c9) (.slice a10 n10 c10) := by rw [← hW3]; exact H3.out.set (i := 3) (u := .int .i64 N) (e' := { e with lg := N }) rfl
      have hr3 : Rv W3 { e with lg := N } (.slice a6 n6 c6) (.slice a9 n9 c9) (.slice a10 n10 c10) := by
        rw [← hW3]
        obtain ⟨p1, p2, p3⟩ := O0.out w.heap.size (Nat.le_refl _)
        exact (HR3.out.off p1 p2 p3).as rfl rfl rfl
      rw [hW3]
      have H4 := Lib.hid g3
      have HR4 := Lib.hid hr3
      clear hW3 g3 hr3 k0 k1 k2 k3 k4 k5 k6 k7 k8 k9 k10 z0 z1 z2 z3 z4 z5 z6 z7 z8 z9 z10
      obtain ⟨k0, k1, k2, k3, k4, k5, k6, k7, k8, k9, k10⟩ := cells11 H4.out.ev
      obtain ⟨z0, z1, z2, z3, z4, z5, z6, z7, z8, z9, z10⟩ := frozen11 H4.out.ev
      obtain ⟨yy0, yy1, yy2, yy3, yy4, yy5, yy6, yy7, yy8, yy9, yy10⟩ := cells11 H4.out.res
      obtain ⟨y0, y1, y2, y3, y4, y5, y6, y7, y8, y9, y10⟩ := frozen11 H4.out.res
      by_cases hok : numOk s.data.toList = true
      case neg =>
        have hN1 : N = -1 := by rw [← HN.out, if_neg hok]
        subst hN1
        have HL := Lib.hid (show ¬ lgOk s.data.toList = true by rw [HG1.out]; exact hok)
        go_wp2
        refine bodyPost_ret (two_out H4.out rfl rfl) rfl ?_
        exact pf_bad (by rw [HC.out, if_neg HL.out]; rfl) (by rw [HC.out, if_neg HL.out]; decide) H4.out
      obtain ⟨q0, q1, q2⟩ := num_of hok
      have hNt : numIs s.data.toList = N := by rw [← HN.out, if_pos hok]
      rw [hNt] at q0 q1
      have hN0 : ¬ N < 0 := by omega
      have h9 := H9OF.out hok
      have h9i : ¬ (9 : Int) < (s.size : Int) := by omega
      have HL := Lib.hid (show lgOk s.data.toList = true by rw [HG1.out, hok])
      have HV := Lib.hid hNt
      clear hok q2 hNt
      go_wp2
      refine bodyPost_ret (two_out H4.out rfl rfl) rfl ?_
      obtain ⟨o1, o2, o3⟩ := O0.out (w.heap.size + 1) (by omega)
      exact ⟨_, _, _, _, ⟨isSl, isSl, isSl⟩, by rw [HC.out, if_pos HL.out]; rfl, fun _ => ⟨by rw [HE.out, HV.out], two_rv HR4.out o1 o2 o3, fun c _ h => h⟩, two_low H4.out⟩
end Evt
end Go.Proofs.YtkhkhbeolhhomaaGreatDoor
