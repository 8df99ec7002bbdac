/- RefPut, RefPutS: texts joined. -/
import Derived.Test.YtghkalamlcfnnaaGreatDoorQD1
import Derived.Test.YtghkalamlcfnnaaGreatDoorQEvPutL
import Derived.Test.YtghkalamlcfnnaaGreatDoorQA6
section
namespace Go.Proofs.YtghkalamlcfnnaaGreatDoor
open Go Go.RowKit Go.Shelf Lmd
attribute [local go_sem] Oper.semAt_some
namespace Evt
open Rul Day Cand Er Tp Rf Rct
theorem lg_plain {l : List UInt8} (h : ¬ (1 < l.length ∧ l[0]? = some 45)) : lgOk l = numOk l := by
  unfold lgOk numOk
  rcases Lib.atoiAll l with v | _ | _
  · show (decide (l.length ≤ 9) && decide (Lib.itoa v = l)) = (decide (l.length ≤ 9) && decide (0 ≤ v) && decide (Lib.itoa v = l))
    by_cases hi : Lib.itoa v = l
    · have h0 : 0 ≤ v := by
        by_cases h0 : 0 ≤ v
        case neg =>
          exfalso
          obtain ⟨u, rfl⟩ : ∃ u : Nat, v = -(u : Int) := ⟨(-v).toNat, by omega⟩
          rw [Lib.itoa_neg u (by omega)] at hi
          have := List.length_pos_iff.2 (dec_ne u)
          exact h ⟨by rw [← hi, List.length_cons]; omega, by rw [← hi]; rfl⟩
        case pos => exact h0
      rw [decide_eq_true h0, Bool.and_true]
    · rw [decide_eq_false hi]; simp
  · rfl
  · rfl
theorem lg_sign (t : List UInt8) : lgOk (45 :: t) = (numOk t && decide (numIs t ≠ 0) && decide (t.length ≤ 8)) ∧ (lgOk (45 :: t) = true → numIs (45 :: t) = -numIs t) := by
  by_cases hok : numOk t = true ∧ numIs t ≠ 0 ∧ t.length ≤ 8
  · obtain ⟨h1, h2, h3⟩ := hok
    obtain ⟨g0, g1, g2⟩ := num_of h1
    obtain ⟨u, hu⟩ : ∃ u : Nat, numIs t = (u : Int) := ⟨(numIs t).toNat, by omega⟩
    rw [hu] at g1 g2 h2
    rw [Lib.itoa_nonneg] at g2
    have ha : Lib.atoiAll (45 :: t) = .ok (-(u : Int)) := by
      have hp := parse_dec u (by omega)
      rw [g2] at hp
      have hne : t ≠ [] := by rw [← g2]; exact dec_ne u
      unfold Lib.atoiAll
      simp only
      rw [if_pos (by decide)]
      simp only [Lib.parseMag, hp]
      rw [if_neg hne]
      simp only
      rw [if_neg (by simp), if_neg (by omega), if_pos (by decide)]
    have hit : Lib.itoa (-(u : Int)) = 45 :: t := by rw [Lib.itoa_neg u (by omega), g2]
    have hl : lgOk (45 :: t) = true := by
      unfold lgOk
      rw [ha]
      simp only [Bool.and_eq_true, decide_eq_true_eq]
      exact ⟨by rw [List.length_cons]; omega, hit⟩
    refine ⟨?_, fun _ => ?_⟩
    · rw [hl, h1, decide_eq_true h3, decide_eq_true (by rw [hu]; exact h2)]; rfl
    · unfold numIs
      rw [ha]
      show -(u : Int) = -(numIs t)
      rw [hu]
  · have hf : lgOk (45 :: t) = false := by
      rw [Bool.eq_false_iff]
      intro h
      apply hok
      unfold lgOk at h
      split at h
      · rename_i v hv
        simp only [Bool.and_eq_true, decide_eq_true_eq] at h
        obtain ⟨h1, h2⟩ := h
        by_cases h0 : 0 ≤ v
        case neg =>
          obtain ⟨u, rfl⟩ : ∃ u : Nat, v = -(u : Int) := ⟨(-v).toNat, by omega⟩
          rw [Lib.itoa_neg u (by omega)] at h2
          have ht : Lib.itoa (u : Int) = t := by rw [Lib.itoa_nonneg]; exact (List.cons.inj h2).2
          have h8 : t.length ≤ 8 := by rw [List.length_cons] at h1; omega
          have hlt : u < 10 ^ 8 := dec_len_ge 8 u (by rw [← Lib.itoa_nonneg, ht]; exact h8)
          have e8 : (10 : Nat) ^ 8 = 100000000 := by decide
          obtain ⟨n1, n2⟩ := num_back (u : Int) (by omega) (by omega)
          rw [ht] at n1 n2
          exact ⟨n1, by rw [n2]; omega, h8⟩
        case pos =>
          exfalso
          have := itoa_free (c := 45) h0 (by decide)
          rw [h2] at this
          exact this (by simp)
      · cases h
    refine ⟨?_, fun h => by rw [hf] at h; cases h⟩
    rw [hf]
    by_cases a1 : numOk t = true
    · by_cases a2 : numIs t ≠ 0
      · have a3 : ¬ t.length ≤ 8 := fun a3 => hok ⟨a1, a2, a3⟩
        rw [decide_eq_false a3, Bool.and_false]
      · rw [decide_eq_false a2]; simp
    · rw [Bool.not_eq_true] at a1
      rw [a1]; rfl
def IsSl (v : Value) : Prop := ∃ a n c, v = .slice a n c
theorem isSl {a : Option Addr} {n c : Nat} : IsSl (.slice a n c) := ⟨_, _, _, rfl⟩
def PfPost (e : Ev) (vd vs vm : Value) (f s : ByteArray) (w : World) (r : Ending) (w' : World) : Prop :=
  ∃ e' vd' vs' vm', (IsSl vd' ∧ IsSl vs' ∧ IsSl vm') ∧ r = .returned (.tuple #[.agg (e'.cells vd' vs' vm'), .int .i64 (putC f s : Nat)]) ∧ (putC f s = 0 → e' = putE e f s ∧ Rv w' e' vd' vs' vm' ∧ ∀ c, c < w.heap.size → (Off c vd ∧ Off c vs ∧ Off c vm) → Off c vd' ∧ Off c vs' ∧ Off c vm') ∧ Below w.heap.size w w'
theorem res_pf {W : World} {b : Nat} {a0 a1 a2 a3 a4 a5 a6 a7 a8 a9 a10 er : Value} {tmps : Array Value} (h : W.heap[b]? = some (.cells #[a0, a1, a2, a3, a4, a5, a6, a7, a8, a9, a10] 40 (0, 0))) (h2 : tmps.getD 6 undef = .pointer (some ⟨b, 0, none⟩)) (h3 : tmps.getD 7 undef = er) :
    (results Tryz.f89 tmps).run Tryz.prog W = .ok (.tuple #[.agg #[a0, a1, a2, a3, a4, a5, a6, a7, a8, a9, a10], er]) W := by
  obtain ⟨q0, q1, q2, q3, q4, q5, q6, q7, q8, q9, q10⟩ := cells11 h
  have h2' : tmps[6]?.getD undef = .pointer (some ⟨b, 0, none⟩) := by simpa using h2
  have h3' : tmps[7]?.getD undef = er := by simpa using h3
  simp [results, Tryz.f89, go_sem, h2', h3', q0, q1, q2, q3, q4, q5, q6, q7, q8, q9, q10]
theorem two_out {w W : World} {e' : Ev} {vd vs vm : Value} (h : Two w W e' vd vs vm) {c : Int} {tmps : Array Value} (h2 : tmps.getD 6 undef = .pointer (some ⟨w.heap.size + 1, 0, none⟩)) (h3 : tmps.getD 7 undef = .int .i64 c) :
    (results Tryz.f89 tmps).run Tryz.prog (put11 W (w.heap.size + 1) (.string e'.id) (.string e'.ti) (.int .i64 e'.st) (.int .i64 e'.lg) (.string e'.ru.fq) (.int .i64 e'.ru.ev) vd (.int .i64 e'.ru.ct) (.int .i64 e'.ru.un) vs vm) =
      .ok (.tuple #[.agg (e'.cells vd vs vm), .int .i64 c]) (put11 W (w.heap.size + 1) (.string e'.id) (.string e'.ti) (.int .i64 e'.st) (.int .i64 e'.lg) (.string e'.ru.fq) (.int .i64 e'.ru.ev) vd (.int .i64 e'.ru.ct) (.int .i64 e'.ru.un) vs vm) :=
  res_pf (put11_row h.res) h2 h3
theorem two_low {w W : World} {e' : Ev} {vd vs vm : Value} (h : Two w W e' vd vs vm) {a0 a1 a2 a3 a4 a5 a6 a7 a8 a9 a10 : Value} : Below w.heap.size w (put11 W (w.heap.size + 1) a0 a1 a2 a3 a4 a5 a6 a7 a8 a9 a10) :=
  h.low.trans ((put11_only W (w.heap.size + 1) a0 a1 a2 a3 a4 a5 a6 a7 a8 a9 a10).below (Nat.le_succ _))
theorem two_rv {w W : World} {e' : Ev} {vd vs vm : Value} (hr : Rv W e' vd vs vm) (o1 : Off (w.heap.size + 1) vd) (o2 : Off (w.heap.size + 1) vs) (o3 : Off (w.heap.size + 1) vm) {a0 a1 a2 a3 a4 a5 a6 a7 a8 a9 a10 : Value} : Rv (put11 W (w.heap.size + 1) a0 a1 a2 a3 a4 a5 a6 a7 a8 a9 a10) e' vd vs vm :=
  (put11_only W (w.heap.size + 1) a0 a1 a2 a3 a4 a5 a6 a7 a8 a9 a10).rv hr o1 o2 o3
theorem pf_bad {e e' : Ev} {f s : ByteArray} {w W : World} {ud us um vd vs vm : Value} {n : Int} (hn : ((putC f s : Nat) : Int) = n) (h0 : putC f s ≠ 0) (h : Two w W e' vd vs vm) {a0 a1 a2 a3 a4 a5 a6 a7 a8 a9 a10 : Value} (s1 : IsSl vd := by exact isSl) (s2 : IsSl vs := by exact isSl) (s3 : IsSl vm := by exact isSl) :
    PfPost e ud us um f s w (.returned (.tuple #[.agg (e'.cells vd vs vm), .int .i64 n])) (put11 W (w.heap.size + 1) a0 a1 a2 a3 a4 a5 a6 a7 a8 a9 a10) :=
  ⟨e', vd, vs, vm, ⟨s1, s2, s3⟩, by rw [hn], fun h1 => absurd h1 h0, two_low h⟩
set_option maxRecDepth 100000 in
set_option maxHeartbeats 8000000 in
theorem pf_title (e : Ev) (vd vs vm : Value) (f s : ByteArray) (w : World) (hr : Rv w e vd vs vm) (h1 : f.toList = [116, 105, 116, 108, 101]) :
    Calls Tryz.prog 89 #[.agg (e.cells vd vs vm), .string f, .string s] w (PfPost e vd vs vm f s w) := by
  obtain ⟨a6, c6, rfl⟩ := hr.d.shape
  obtain ⟨a9, c9, rfl⟩ := hr.s.shape
  obtain ⟨a10, c10, rfl⟩ := hr.m.shape
  obtain ⟨W, hW⟩ : ∃ W, (w.alloc (.cells (e.cells (.slice a6 e.ru.ds.length c6) (.slice a9 e.sk.length c9) (.slice a10 e.mv.length c10)) 40)).alloc (.cells zeroV 40) = W := ⟨_, rfl⟩
  have hB : Below w.heap.size w W := by rw [← hW]; exact ((Below.refl _ w).alloc (Nat.le_refl _) _).alloc (by simp) _
  have h2 : Two w W e (.slice a6 e.ru.ds.length c6) (.slice a9 e.sk.length c9) (.slice a10 e.mv.length c10) := by
    rw [← hW]
    refine ⟨((Below.refl _ w).alloc (Nat.le_refl _) _).alloc (by simp) _, by simp, (Below.heap_alloc _ _ _ (by simp)).trans (heap_new w _), ?_⟩
    have h := heap_new (w.alloc (.cells (e.cells (.slice a6 e.ru.ds.length c6) (.slice a9 e.sk.length c9) (.slice a10 e.mv.length c10)) 40)) (.cells zeroV 40)
    rwa [World.size_alloc] at h
  have hrw := hr.below hB
  have o0 : ∀ b, w.heap.size ≤ b → Off b (.slice a6 e.ru.ds.length c6) ∧ Off b (.slice a9 e.sk.length c9) ∧ Off b (.slice a10 e.mv.length c10) := fun b hb => ⟨off_reads hr.d hb, off_reads hr.s hb, off_mreads hr.m hb⟩
  obtain ⟨n6, hn6⟩ : ∃ n, e.ru.ds.length = n := ⟨_, rfl⟩
  obtain ⟨n9, hn9⟩ : ∃ n, e.sk.length = n := ⟨_, rfl⟩
  obtain ⟨n10, hn10⟩ : ∃ n, e.mv.length = n := ⟨_, rfl⟩
  rw [hn6, hn9, hn10] at hW h2 hrw o0 ⊢
  have HW := Lib.hid hW
  have H2 := Lib.hid h2
  have HR := Lib.hid hrw
  have O0 := Lib.hid o0
  clear hr hB hW h2 hrw o0 hn6 hn9 hn10
  have hc : putC f s = 0 := by unfold putC; rw [if_pos h1]
  have he : putE e f s = { e with ti := s } := by unfold putE; rw [if_pos h1]
  have HC := Lib.hid hc
  have HE := Lib.hid he
  clear hc he
  go_enter Tryz.func89, Tryz.ntmps89
  obtain ⟨k0, k1, k2, k3, k4, k5, k6, k7, k8, k9, k10⟩ := cells11 H2.out.ev
  obtain ⟨z0, z1, z2, z3, z4, z5, z6, z7, z8, z9, z10⟩ := frozen11 H2.out.ev
  obtain ⟨yy0, yy1, yy2, yy3, yy4, yy5, yy6, yy7, yy8, yy9, yy10⟩ := cells11 H2.out.res
  obtain ⟨y0, y1, y2, y3, y4, y5, y6, y7, y8, y9, y10⟩ := frozen11 H2.out.res
  go_upto_region 4 with fail
  rw [HW.out]
  go_wp2
  have g2 := H2.out.set (i := 1) (u := .string s) (e' := { e with ti := s }) rfl
  refine bodyPost_ret (two_out g2 rfl rfl) rfl ?_
  obtain ⟨o1, o2, o3⟩ := O0.out (w.heap.size + 1) (by omega)
  obtain ⟨p1, p2, p3⟩ := O0.out w.heap.size (Nat.le_refl _)
  exact ⟨_, _, _, _, ⟨isSl, isSl, isSl⟩, by rw [HC.out]; rfl, fun _ => ⟨HE.out.symm, two_rv (Rv.as (e' := { e with ti := s }) (HR.out.off p1 p2 p3) rfl rfl rfl) o1 o2 o3, fun c _ h => h⟩, two_low g2⟩
set_option maxRecDepth 100000 in
set_option maxHeartbeats 8000000 in
theorem pf_start (e : Ev) (vd vs vm : Value) (f s : ByteArray) (w : World) (hr : Rv w e vd vs vm) (h1 : ¬ f.toList = [116, 105, 116, 108, 101]) (h2 : f.toList = [115, 116, 97, 114, 116]) :
    Calls Tryz.prog 89 #[.agg (e.cells vd vs vm), .string f, .string s] w (PfPost e vd vs vm f s w) := by
  obtain ⟨a6, c6, rfl⟩ := hr.d.shape
  obtain ⟨a9, c9, rfl⟩ := hr.s.shape
  obtain ⟨a10, c10, rfl⟩ := hr.m.shape
  obtain ⟨W, hW⟩ : ∃ W, (w.alloc (.cells (e.cells (.slice a6 e.ru.ds.length c6) (.slice a9 e.sk.length c9) (.slice a10 e.mv.length c10)) 40)).alloc (.cells zeroV 40) = W := ⟨_, rfl⟩
  have hB : Below w.heap.size w W := by rw [← hW]; exact ((Below.refl _ w).alloc (Nat.le_refl _) _).alloc (by simp) _
  have h2 : Two w W e (.slice a6 e.ru.ds.length c6) (.slice a9 e.sk.length c9) (.slice a10 e.mv.length c10) := by
    rw [← hW]
    refine ⟨((Below.refl _ w).alloc (Nat.le_refl _) _).alloc (by simp) _, by simp, (Below.heap_alloc _ _ _ (by simp)).trans (heap_new w _), ?_⟩
    have h := heap_new (w.alloc (.cells (e.cells (.slice a6 e.ru.ds.length c6) (.slice a9 e.sk.length c9) (.slice a10 e.mv.length c10)) 40)) (.cells zeroV 40)
    rwa [World.size_alloc] at h
  have hrw := hr.below hB
  have o0 : ∀ b, w.heap.size ≤ b → Off b (.slice a6 e.ru.ds.length c6) ∧ Off b (.slice a9 e.sk.length c9) ∧ Off b (.slice a10 e.mv.length c10) := fun b hb => ⟨off_reads hr.d hb, off_reads hr.s hb, off_mreads hr.m hb⟩
  obtain ⟨n6, hn6⟩ : ∃ n, e.ru.ds.length = n := ⟨_, rfl⟩
  obtain ⟨n9, hn9⟩ : ∃ n, e.sk.length = n := ⟨_, rfl⟩
  obtain ⟨n10, hn10⟩ : ∃ n, e.mv.length = n := ⟨_, rfl⟩
  rw [hn6, hn9, hn10] at hW h2 hrw o0 ⊢
  have HW := Lib.hid hW
  have H2 := Lib.hid h2
  have HR := Lib.hid hrw
  have O0 := Lib.hid o0
  clear hr hB hW h2 hrw o0 hn6 hn9 hn10
  have hc : putC f s = dayC s.data.toList := by unfold putC; rw [if_neg h1, if_pos h2]
  have he : putE e f s = { e with st := dayX s.data.toList } := by unfold putE; rw [if_neg h1, if_pos h2]
  have HC := Lib.hid hc
  have HE := Lib.hid he
  clear hc he
  go_enter Tryz.func89, Tryz.ntmps89
  obtain ⟨k0, k1, k2, k3, k4, k5, k6, k7, k8, k9, k10⟩ := cells11 H2.out.ev
  obtain ⟨z0, z1, z2, z3, z4, z5, z6, z7, z8, z9, z10⟩ := frozen11 H2.out.ev
  obtain ⟨yy0, yy1, yy2, yy3, yy4, yy5, yy6, yy7, yy8, yy9, yy10⟩ := cells11 H2.out.res
  obtain ⟨y0, y1, y2, y3, y4, y5, y6, y7, y8, y9, y10⟩ := frozen11 H2.out.res
  go_upto_region 4 with fail
  rw [HW.out]
  go_wp2_with fail
  (with_reducible refine (rreadDay_any s W).mono ?_)
  rintro e2 w2 ⟨rfl, hb2⟩
  have H3 := Lib.hid (H2.out.below hb2)
  have HR3 := Lib.hid (HR.out.below hb2)
  clear hb2 k0 k1 k2 k3 k4 k5 k6 k7 k8 k9 k10 z0 z1 z2 z3 z4 z5 z6 z7 z8 z9 z10 y0 y1 y2 y3 y4 y5 y6 y7 y8 y9 y10 yy0 yy1 yy2 yy3 yy4 yy5 yy6 yy7 yy8 yy9 yy10
  obtain ⟨k0, k1, k2, k3, k4, k5, k6, k7, k8, k9, k10⟩ := cells11 H3.out.ev
  obtain ⟨z0, z1, z2, z3, z4, z5, z6, z7, z8, z9, z10⟩ := frozen11 H3.out.ev
  obtain ⟨yy0, yy1, yy2, yy3, yy4, yy5, yy6, yy7, yy8, yy9, yy10⟩ := cells11 H3.out.res
  obtain ⟨y0, y1, y2, y3, y4, y5, y6, y7, y8, y9, y10⟩ := frozen11 H3.out.res
  go_wp2
  have g2 := H3.out.set (i := 2) (u := .int .i64 (dayX s.data.toList)) (e' := { e with st := dayX s.data.toList }) rfl
  refine bodyPost_ret (two_out g2 rfl rfl) rfl ?_
  obtain ⟨o1, o2, o3⟩ := O0.out (w.heap.size + 1) (by omega)
  obtain ⟨p1, p2, p3⟩ := O0.out w.heap.size (Nat.le_refl _)
  exact ⟨_, _, _, _, ⟨isSl, isSl, isSl⟩, by rw [HC.out], fun _ => ⟨HE.out.symm, two_rv (Rv.as (e' := { e with st := dayX s.data.toList }) (HR3.out.off p1 p2 p3) rfl rfl rfl) o1 o2 o3, fun c _ h => h⟩, two_low g2⟩
set_option maxRecDepth 100000 in
set_option maxHeartbeats 8000000 in
theorem pf_rule (e : Ev) (vd vs vm : Value) (f s : ByteArray) (w : World) (hr : Rv w e vd vs vm) (hs : s.size ≤ 30000) (h1 : ¬ f.toList = [116, 105, 116, 108, 101]) (h2 : ¬ f.toList = [115, 116, 97, 114, 116]) (h3 : ¬ f.toList = [108, 111, 110, 103]) (h4 : f.toList = [114, 117, 108, 101]) :
    Calls Tryz.prog 89 #[.agg (e.cells vd vs vm), .string f, .string s] w (PfPost e vd vs vm f s w) := by
  obtain ⟨a6, c6, rfl⟩ := hr.d.shape
  obtain ⟨a9, c9, rfl⟩ := hr.s.shape
  obtain ⟨a10, c10, rfl⟩ := hr.m.shape
  obtain ⟨W, hW⟩ : ∃ W, (w.alloc (.cells (e.cells (.slice a6 e.ru.ds.length c6) (.slice a9 e.sk.length c9) (.slice a10 e.mv.length c10)) 40)).alloc (.cells zeroV 40) = W := ⟨_, rfl⟩
  have hB : Below w.heap.size w W := by rw [← hW]; exact ((Below.refl _ w).alloc (Nat.le_refl _) _).alloc (by simp) _
  have h2 : Two w W e (.slice a6 e.ru.ds.length c6) (.slice a9 e.sk.length c9) (.slice a10 e.mv.length c10) := by
    rw [← hW]
    refine ⟨((Below.refl _ w).alloc (Nat.le_refl _) _).alloc (by simp) _, by simp, (Below.heap_alloc _ _ _ (by simp)).trans (heap_new w _), ?_⟩
    have h := heap_new (w.alloc (.cells (e.cells (.slice a6 e.ru.ds.length c6) (.slice a9 e.sk.length c9) (.slice a10 e.mv.length c10)) 40)) (.cells zeroV 40)
    rwa [World.size_alloc] at h
  have hrw := hr.below hB
  have o0 : ∀ b, w.heap.size ≤ b → Off b (.slice a6 e.ru.ds.length c6) ∧ Off b (.slice a9 e.sk.length c9) ∧ Off b (.slice a10 e.mv.length c10) := fun b hb => ⟨off_reads hr.d hb, off_reads hr.s hb, off_mreads hr.m hb⟩
  obtain ⟨n6, hn6⟩ : ∃ n, e.ru.ds.length = n := ⟨_, rfl⟩
  obtain ⟨n9, hn9⟩ : ∃ n, e.sk.length = n := ⟨_, rfl⟩
  obtain ⟨n10, hn10⟩ : ∃ n, e.mv.length = n := ⟨_, rfl⟩
  rw [hn6, hn9, hn10] at hW h2 hrw o0 ⊢
  have HW := Lib.hid hW
  have H2 := Lib.hid h2
  have HR := Lib.hid hrw
  have O0 := Lib.hid o0
  clear hr hB hW h2 hrw o0 hn6 hn9 hn10
  have hc : putC f s = (readS s).1 := by unfold putC; rw [if_neg h1, if_neg h2, if_neg h3, if_pos h4]
  have he : putE e f s = { e with ru := (readS s).2 } := by unfold putE; rw [if_neg h1, if_neg h2, if_neg h3, if_pos h4]
  have HC := Lib.hid hc
  have HE := Lib.hid he
  clear hc he
  have hrr := readRule_any s W hs
  obtain ⟨R, hR⟩ : ∃ R, readS s = R := ⟨_, rfl⟩
  rw [hR] at hrr HC HE
  have HRR := Lib.hid hrr
  clear hrr hR
  go_enter Tryz.func89, Tryz.ntmps89
  obtain ⟨k0, k1, k2, k3, k4, k5, k6, k7, k8, k9, k10⟩ := cells11 H2.out.ev
  obtain ⟨z0, z1, z2, z3, z4, z5, z6, z7, z8, z9, z10⟩ := frozen11 H2.out.ev
  obtain ⟨yy0, yy1, yy2, yy3, yy4, yy5, yy6, yy7, yy8, yy9, yy10⟩ := cells11 H2.out.res
  obtain ⟨y0, y1, y2, y3, y4, y5, y6, y7, y8, y9, y10⟩ := frozen11 H2.out.res
  go_upto_region 4 with fail
  rw [HW.out]
  go_wp2_with fail
  (with_reducible refine HRR.out.mono ?_)
  rintro e2 w2 ⟨v2, rfl, hr2, hf2, hb2⟩
  have H3 := Lib.hid (H2.out.below hb2)
  have HR3 := Lib.hid (HR.out.below hb2)
  obtain ⟨a2, c2, rfl⟩ := hr2.shape
  obtain ⟨dn, hdn⟩ : ∃ n, R.2.ds.length = n := ⟨_, rfl⟩
  rw [hdn] at hr2 hf2 ⊢
  have HR2 := Lib.hid hr2
  have HF2 := Lib.hid hf2
  have HT := Lib.hid H2.out.top
  have hu := Tryz.underlying37
  clear hb2 hr2 hf2 hdn k0 k1 k2 k3 k4 k5 k6 k7 k8 k9 k10 z0 z1 z2 z3 z4 z5 z6 z7 z8 z9 z10 y0 y1 y2 y3 y4 y5 y6 y7 y8 y9 y10 yy0 yy1 yy2 yy3 yy4 yy5 yy6 yy7 yy8 yy9 yy10
  obtain ⟨k0, k1, k2, k3, k4, k5, k6, k7, k8, k9, k10⟩ := cells11 H3.out.ev
  obtain ⟨z0, z1, z2, z3, z4, z5, z6, z7, z8, z9, z10⟩ := frozen11 H3.out.ev
  obtain ⟨yy0, yy1, yy2, yy3, yy4, yy5, yy6, yy7, yy8, yy9, yy10⟩ := cells11 H3.out.res
  obtain ⟨y0, y1, y2, y3, y4, y5, y6, y7, y8, y9, y10⟩ := frozen11 H3.out.res
  go_wp2
  have g2 : Two w (((((w2.setCell ⟨w.heap.size, 4, none⟩ (.string R.2.fq)).setCell ⟨w.heap.size, 5, none⟩ (.int .i64 R.2.ev)).setCell ⟨w.heap.size, 6, none⟩ (.slice a2 dn c2)).setCell ⟨w.heap.size, 7, none⟩ (.int .i64 R.2.ct)).setCell ⟨w.heap.size, 8, none⟩ (.int .i64 R.2.un)) { e with ru := R.2 } (.slice a2 dn c2) (.slice a9 n9 c9) (.slice a10 n10 c10) :=
    ((((H3.out.set (i := 4) (u := .string R.2.fq) (e' := { e with ru := { e.ru with fq := R.2.fq } }) rfl).set (i := 5) (u := .int .i64 R.2.ev) (e' := { e with ru := { e.ru with fq := R.2.fq, ev := R.2.ev } }) rfl).set (i := 6) (u := .slice a2 dn c2) (e' := { e with ru := { e.ru with fq := R.2.fq, ev := R.2.ev } }) (vd' := .slice a2 dn c2) rfl).set (i := 7) (u := .int .i64 R.2.ct) (e' := { e with ru := { e.ru with fq := R.2.fq, ev := R.2.ev, ct := R.2.ct } }) rfl).set (i := 8) (u := .int .i64 R.2.un) (e' := { e with ru := R.2 }) rfl
  refine bodyPost_ret (two_out g2 rfl rfl) rfl ?_
  have on : Only w.heap.size w2 (((((w2.setCell ⟨w.heap.size, 4, none⟩ (.string R.2.fq)).setCell ⟨w.heap.size, 5, none⟩ (.int .i64 R.2.ev)).setCell ⟨w.heap.size, 6, none⟩ (.slice a2 dn c2)).setCell ⟨w.heap.size, 7, none⟩ (.int .i64 R.2.ct)).setCell ⟨w.heap.size, 8, none⟩ (.int .i64 R.2.un)) :=
    (((((Only.refl w.heap.size w2).set 4 _).set 5 _).set 6 _).set 7 _).set 8 _
  obtain ⟨o1, o2, o3⟩ := O0.out (w.heap.size + 1) (by omega)
  obtain ⟨p1, p2, p3⟩ := O0.out w.heap.size (Nat.le_refl _)
  have q1 : Off w.heap.size (.slice a2 dn c2) := fun g o n c h1 h2 => by have := HF2.out g o n c h1 h2; have := HT.out; omega
  have q2 : Off (w.heap.size + 1) (.slice a2 dn c2) := fun g o n c h1 h2 => by have := HF2.out g o n c h1 h2; have := HT.out; omega
  have hrv : Rv _ { e with ru := R.2 } (.slice a2 dn c2) (.slice a9 n9 c9) (.slice a10 n10 c10) := ⟨on.reads HR2.out q1, on.reads HR3.out.s p2, on.mreads HR3.out.m p3⟩
  exact ⟨_, _, _, _, ⟨isSl, isSl, isSl⟩, by rw [HC.out], fun _ => ⟨HE.out.symm, two_rv hrv q2 o2 o3, fun c hc h => ⟨fun g o n cc h1 h2 => by have := HF2.out g o n cc h1 h2; have := HT.out; omega, h.2⟩⟩, two_low g2⟩
set_option maxRecDepth 100000 in
set_option maxHeartbeats 8000000 in
theorem pf_none (e : Ev) (vd vs vm : Value) (f s : ByteArray) (w : World) (hr : Rv w e vd vs vm) (h1 : ¬ f.toList = [116, 105, 116, 108, 101]) (h2 : ¬ f.toList = [115, 116, 97, 114, 116]) (h3 : ¬ f.toList = [108, 111, 110, 103]) (h4 : ¬ f.toList = [114, 117, 108, 101]) (h5 : ¬ f.toList = [115, 107, 105, 112, 115]) (h6 : ¬ f.toList = [109, 111, 118, 101, 115]) :
    Calls Tryz.prog 89 #[.agg (e.cells vd vs vm), .string f, .string s] w (PfPost e vd vs vm f s w) := by
  obtain ⟨a6, c6, rfl⟩ := hr.d.shape
  obtain ⟨a9, c9, rfl⟩ := hr.s.shape
  obtain ⟨a10, c10, rfl⟩ := hr.m.shape
  obtain ⟨W, hW⟩ : ∃ W, (w.alloc (.cells (e.cells (.slice a6 e.ru.ds.length c6) (.slice a9 e.sk.length c9) (.slice a10 e.mv.length c10)) 40)).alloc (.cells zeroV 40) = W := ⟨_, rfl⟩
  have hB : Below w.heap.size w W := by rw [← hW]; exact ((Below.refl _ w).alloc (Nat.le_refl _) _).alloc (by simp) _
  have h2 : Two w W e (.slice a6 e.ru.ds.length c6) (.slice a9 e.sk.length c9) (.slice a10 e.mv.length c10) := by
    rw [← hW]
    refine ⟨((Below.refl _ w).alloc (Nat.le_refl _) _).alloc (by simp) _, by simp, (Below.heap_alloc _ _ _ (by simp)).trans (heap_new w _), ?_⟩
    have h := heap_new (w.alloc (.cells (e.cells (.slice a6 e.ru.ds.length c6) (.slice a9 e.sk.length c9) (.slice a10 e.mv.length c10)) 40)) (.cells zeroV 40)
    rwa [World.size_alloc] at h
  have hrw := hr.below hB
  have o0 : ∀ b, w.heap.size ≤ b → Off b (.slice a6 e.ru.ds.length c6) ∧ Off b (.slice a9 e.sk.length c9) ∧ Off b (.slice a10 e.mv.length c10) := fun b hb => ⟨off_reads hr.d hb, off_reads hr.s hb, off_mreads hr.m hb⟩
  obtain ⟨n6, hn6⟩ : ∃ n, e.ru.ds.length = n := ⟨_, rfl⟩
  obtain ⟨n9, hn9⟩ : ∃ n, e.sk.length = n := ⟨_, rfl⟩
  obtain ⟨n10, hn10⟩ : ∃ n, e.mv.length = n := ⟨_, rfl⟩
  rw [hn6, hn9, hn10] at hW h2 hrw o0 ⊢
  have HW := Lib.hid hW
  have H2 := Lib.hid h2
  have HR := Lib.hid hrw
  have O0 := Lib.hid o0
  clear hr hB hW h2 hrw o0 hn6 hn9 hn10
  have hc : putC f s = 4 := by unfold putC; rw [if_neg h1, if_neg h2, if_neg h3, if_neg h4, if_neg h5, if_neg h6]
  have HC := Lib.hid hc
  have b1 : (f.toList == [116, 105, 116, 108, 101]) = false := by simpa using h1
  have b2 : (f.toList == [115, 116, 97, 114, 116]) = false := by simpa using h2
  have b3 : (f.toList == [108, 111, 110, 103]) = false := by simpa using h3
  have b4 : (f.toList == [114, 117, 108, 101]) = false := by simpa using h4
  have b5 : (f.toList == [115, 107, 105, 112, 115]) = false := by simpa using h5
  have b6 : (f.toList == [109, 111, 118, 101, 115]) = false := by simpa using h6
  clear hc h1 h2 h3 h4 h5 h6
  go_enter Tryz.func89, Tryz.ntmps89
  obtain ⟨k0, k1, k2, k3, k4, k5, k6, k7, k8, k9, k10⟩ := cells11 H2.out.ev
  obtain ⟨z0, z1, z2, z3, z4, z5, z6, z7, z8, z9, z10⟩ := frozen11 H2.out.ev
  obtain ⟨yy0, yy1, yy2, yy3, yy4, yy5, yy6, yy7, yy8, yy9, yy10⟩ := cells11 H2.out.res
  obtain ⟨y0, y1, y2, y3, y4, y5, y6, y7, y8, y9, y10⟩ := frozen11 H2.out.res
  go_upto_region 4 with fail
  rw [HW.out]
  go_wp2
  refine bodyPost_ret (two_out H2.out rfl rfl) rfl ?_
  exact pf_bad (by rw [HC.out]; rfl) (by rw [HC.out]; decide) H2.out
set_option maxRecDepth 100000 in
set_option maxHeartbeats 8000000 in
theorem pf_long (e : Ev) (vd vs vm : Value) (f s : ByteArray) (w : World) (hr : Rv w e vd vs vm) (hs : s.size ≤ 30000) (h1 : ¬ f.toList = [116, 105, 116, 108, 101]) (h2 : ¬ f.toList = [115, 116, 97, 114, 116]) (h3 : f.toList = [108, 111, 110, 103]) :
    Calls Tryz.prog 89 #[.agg (e.cells vd vs vm), .string f, .string s] w (PfPost e vd vs vm f s w) := by
  obtain ⟨a6, c6, rfl⟩ := hr.d.shape
  obtain ⟨a9, c9, rfl⟩ := hr.s.shape
  obtain ⟨a10, c10, rfl⟩ := hr.m.shape
  obtain ⟨W, hW⟩ : ∃ W, (w.alloc (.cells (e.cells (.slice a6 e.ru.ds.length c6) (.slice a9 e.sk.length c9) (.slice a10 e.mv.length c10)) 40)).alloc (.cells zeroV 40) = W := ⟨_, rfl⟩
  have hB : Below w.heap.size w W := by rw [← hW]; exact ((Below.refl _ w).alloc (Nat.le_refl _) _).alloc (by simp) _
  have h2 : Two w W e (.slice a6 e.ru.ds.length c6) (.slice a9 e.sk.length c9) (.slice a10 e.mv.length c10) := by
    rw [← hW]
    refine ⟨((Below.refl _ w).alloc (Nat.le_refl _) _).alloc (by simp) _, by simp, (Below.heap_alloc _ _ _ (by simp)).trans (heap_new w _), ?_⟩
    have h := heap_new (w.alloc (.cells (e.cells (.slice a6 e.ru.ds.length c6) (.slice a9 e.sk.length c9) (.slice a10 e.mv.length c10)) 40)) (.cells zeroV 40)
    rwa [World.size_alloc] at h
  have hrw := hr.below hB
  have o0 : ∀ b, w.heap.size ≤ b → Off b (.slice a6 e.ru.ds.length c6) ∧ Off b (.slice a9 e.sk.length c9) ∧ Off b (.slice a10 e.mv.length c10) := fun b hb => ⟨off_reads hr.d hb, off_reads hr.s hb, off_mreads hr.m hb⟩
  obtain ⟨n6, hn6⟩ : ∃ n, e.ru.ds.length = n := ⟨_, rfl⟩
  obtain ⟨n9, hn9⟩ : ∃ n, e.sk.length = n := ⟨_, rfl⟩
  obtain ⟨n10, hn10⟩ : ∃ n, e.mv.length = n := ⟨_, rfl⟩
  rw [hn6, hn9, hn10] at hW h2 hrw o0 ⊢
  have HW := Lib.hid hW
  have H2 := Lib.hid h2
  have HR := Lib.hid hrw
  have O0 := Lib.hid o0
  clear hr hB hW h2 hrw o0 hn6 hn9 hn10
  have hc : putC f s = if lgOk s.data.toList = true then 0 else 1 := by unfold putC; rw [if_neg h1, if_neg h2, if_pos h3]
  have he : putE e f s = { e with lg := numIs s.data.toList } := by unfold putE; rw [if_neg h1, if_neg h2, if_pos h3]
  have HC := Lib.hid hc
  have HE := Lib.hid he
  clear hc he
  go_enter Tryz.func89, Tryz.ntmps89
  obtain ⟨k0, k1, k2, k3, k4, k5, k6, k7, k8, k9, k10⟩ := cells11 H2.out.ev
  obtain ⟨z0, z1, z2, z3, z4, z5, z6, z7, z8, z9, z10⟩ := frozen11 H2.out.ev
  obtain ⟨yy0, yy1, yy2, yy3, yy4, yy5, yy6, yy7, yy8, yy9, yy10⟩ := cells11 H2.out.res
  obtain ⟨y0, y1, y2, y3, y4, y5, y6, y7, y8, y9, y10⟩ := frozen11 H2.out.res
  go_upto_region 4 with fail
  rw [HW.out]
  have hll : s.data.toList.length = s.size := by simp
  by_cases hsg : 1 < s.size ∧ s.data.toList[0]? = some 45
  · obtain ⟨hs1, h45⟩ := hsg
    have hs0 : 0 < s.size := by omega
    obtain ⟨t, ht⟩ : ∃ t, s.data.toList = 45 :: t := by
      cases hl : s.data.toList with
      | nil => rw [hl] at h45; cases h45
      | cons c t => rw [hl] at h45; simp at h45; subst h45; exact ⟨t, rfl⟩
    have hsx : (s[0] : UInt8) = 45 := at_of s 0 45 hs0 h45
    have hext : s.extract 1 s.size = mk t := by
      refine mk_of ?_
      have h1 : (45 :: t).length = s.size := by rw [← ht]; exact hll
      rw [List.length_cons] at h1
      rw [ext_mid, ht, List.drop_one, List.tail_cons]
      exact List.take_of_length_le (by omega)
    have htl : t.length + 1 = s.size := by rw [← hll, ht, List.length_cons]
    have hne2 : (t == s.toList) = false := by
      rw [beq_eq_false_iff_ne, ByteArray.toList_eq]
      intro e
      have := congrArg List.length e
      omega
    obtain ⟨g1, g2⟩ := lg_sign t
    rw [← ht] at g1 g2
    have hnc : Calls Tryz.prog 137 #[.string (mk t), .int .i64 9] W fun e w' => e = .returned (.int .i64 (if numOk t = true then numIs t else -1)) ∧ Below W.heap.size W w' := num_call (mk t) W (by show t.length ≤ _; omega) rfl
    obtain ⟨N, hN⟩ : ∃ N, (if numOk t = true then numIs t else -1) = N := ⟨_, rfl⟩
    rw [hN] at hnc
    have HNC := Lib.hid hnc
    have HN := Lib.hid hN
    have HG1 := Lib.hid g1
    have HG2 := Lib.hid g2
    have hs1' : (1 : Int) < (s.size : Int) := by omega
    have hs1n : 1 ≤ s.size := by omega
    have HTL := Lib.hid htl
    clear hN hnc g1 g2 h45 ht hll
    go_wp2_with fail
    (with_reducible refine HNC.out.mono ?_)
    rintro e2 w2 ⟨rfl, hb2⟩
    have H3 := Lib.hid (H2.out.below hb2)
    have HR3 := Lib.hid (HR.out.below hb2)
    clear hb2 k0 k1 k2 k3 k4 k5 k6 k7 k8 k9 k10 z0 z1 z2 z3 z4 z5 z6 z7 z8 z9 z10 y0 y1 y2 y3 y4 y5 y6 y7 y8 y9 y10 yy0 yy1 yy2 yy3 yy4 yy5 yy6 yy7 yy8 yy9 yy10
    obtain ⟨k0, k1, k2, k3, k4, k5, k6, k7, k8, k9, k10⟩ := cells11 H3.out.ev
    obtain ⟨z0, z1, z2, z3, z4, z5, z6, z7, z8, z9, z10⟩ := frozen11 H3.out.ev
    go_upto_region 13 with fail
    obtain ⟨W3, hW3⟩ : ∃ W3, w2.setCell ⟨w.heap.size, 3, none⟩ (.int .i64 N) = W3 := ⟨_, rfl⟩
    have g3 : Two w W3 { e with lg := N } (.slice a6 n6 c6) (.slice a9 n9 c9) (.slice a10 n10 c10) := by rw [← hW3]; exact H3.out.set (i := 3) (u := .int .i64 N) (e' := { e with lg := N }) rfl
    have hr3 : Rv W3 { e with lg := N } (.slice a6 n6 c6) (.slice a9 n9 c9) (.slice a10 n10 c10) := by
      rw [← hW3]
      obtain ⟨p1, p2, p3⟩ := O0.out w.heap.size (Nat.le_refl _)
      exact (HR3.out.off p1 p2 p3).as rfl rfl rfl
    rw [hW3]
    have H4 := Lib.hid g3
    have HR4 := Lib.hid hr3
    clear hW3 g3 hr3 k0 k1 k2 k3 k4 k5 k6 k7 k8 k9 k10 z0 z1 z2 z3 z4 z5 z6 z7 z8 z9 z10
    obtain ⟨k0, k1, k2, k3, k4, k5, k6, k7, k8, k9, k10⟩ := cells11 H4.out.ev
    obtain ⟨z0, z1, z2, z3, z4, z5, z6, z7, z8, z9, z10⟩ := frozen11 H4.out.ev
    obtain ⟨yy0, yy1, yy2, yy3, yy4, yy5, yy6, yy7, yy8, yy9, yy10⟩ := cells11 H4.out.res
    obtain ⟨y0, y1, y2, y3, y4, y5, y6, y7, y8, y9, y10⟩ := frozen11 H4.out.res
    by_cases hok : numOk t = true
    case neg =>
      have hN1 : N = -1 := by rw [← HN.out, if_neg hok]
      subst hN1
      have HL := Lib.hid (show ¬ lgOk s.data.toList = true by rw [HG1.out]; simp [hok])
      go_wp2
      refine bodyPost_ret (two_out H4.out rfl rfl) rfl ?_
      exact pf_bad (by rw [HC.out, if_neg HL.out]; rfl) (by rw [HC.out, if_neg HL.out]; decide) H4.out
    obtain ⟨q0, q1, q2⟩ := num_of hok
    have hNt : numIs t = N := by rw [← HN.out, if_pos hok]
    rw [hNt] at q0 q1
    have hN0 : ¬ N < 0 := by omega
    by_cases h9 : s.size ≤ 9
    case neg =>
      have h9i : (9 : Int) < (s.size : Int) := by omega
      have HL := Lib.hid (show ¬ lgOk s.data.toList = true by rw [HG1.out]; have := HTL.out; simp; omega)
      go_wp2
      refine bodyPost_ret (two_out H4.out rfl rfl) rfl ?_
      exact pf_bad (by rw [HC.out, if_neg HL.out]; rfl) (by rw [HC.out, if_neg HL.out]; decide) H4.out
    have h9i : ¬ (9 : Int) < (s.size : Int) := by omega
    by_cases hz : N = 0
    · subst hz
      have HL := Lib.hid (show ¬ lgOk s.data.toList = true by rw [HG1.out, hNt]; simp)
      go_wp2
      refine bodyPost_ret (two_out H4.out rfl rfl) rfl ?_
      exact pf_bad (by rw [HC.out, if_neg HL.out]; rfl) (by rw [HC.out, if_neg HL.out]; decide) H4.out
    · have hzb : (N == 0) = false := by simpa using hz
      have HL := Lib.hid (show lgOk s.data.toList = true by rw [HG1.out, hok, hNt, decide_eq_true hz, decide_eq_true (by have := HTL.out; omega)]; rfl)
      have HV := Lib.hid (show numIs s.data.toList = -N by
        have h := HG2.out HL.out
        rw [hNt] at h; exact h)
      have hneg : (0 : Int) - N = -N := by omega
      clear hok q2 hNt
      go_wp2
      have g4 := H4.out.set (i := 3) (u := .int .i64 (-N)) (e' := { e with lg := -N }) rfl
      refine bodyPost_ret (two_out g4 rfl rfl) rfl ?_
      obtain ⟨o1, o2, o3⟩ := O0.out (w.heap.size + 1) (by omega)
      obtain ⟨p1, p2, p3⟩ := O0.out w.heap.size (Nat.le_refl _)
      exact ⟨_, _, _, _, ⟨isSl, isSl, isSl⟩, by rw [HC.out, if_pos HL.out]; rfl, fun _ => ⟨by rw [HE.out, HV.out], two_rv (Rv.as (e' := { e with lg := -N }) (HR4.out.off p1 p2 p3) rfl rfl rfl) o1 o2 o3, fun c _ h => h⟩, two_low g4⟩
  · have hnc : Calls Tryz.prog 137 #[.string s, .int .i64 9] W fun e w' => e = .returned (.int .i64 (if numOk s.data.toList = true then numIs s.data.toList else -1)) ∧ Below W.heap.size W w' := num_call s W hs rfl
    obtain ⟨N, hN⟩ : ∃ N, (if numOk s.data.toList = true then numIs s.data.toList else -1) = N := ⟨_, rfl⟩
    rw [hN] at hnc
    have HNC := Lib.hid hnc
    have HN := Lib.hid hN
    have HG1 := Lib.hid (lg_plain (l := s.data.toList) (by rw [hll]; exact hsg))
    have h9of : numOk s.data.toList = true → s.size ≤ 9 := fun h => by
      unfold numOk at h
      split at h
      · simp only [Bool.and_eq_true, decide_eq_true_eq] at h
        rw [← hll]; exact h.1.1
      · cases h
    have H9OF := Lib.hid h9of
    have hself2 : (s.toList == s.toList) = true := beq_self_eq_true _
    clear hN hnc hll h9of
    by_cases hs1 : 1 < s.size
    case pos =>
      have hs1' : (1 : Int) < (s.size : Int) := by omega
      have hs0 : 0 < s.size := by omega
      obtain ⟨x, hx⟩ : ∃ x, s.data.toList[0]? = some x := ⟨_, List.getElem?_eq_getElem (by simp; omega)⟩
      have hsx : (s[0] : UInt8) = x := at_of s 0 x hs0 hx
      have hx45 : ((x.toNat : Int) == 45) = false := by
        rw [beq_eq_false_iff_ne]
        intro e1
        apply hsg
        refine ⟨hs1, ?_⟩
        rw [hx]
        congr 1
        exact UInt8.toNat_inj.1 (by show x.toNat = 45; omega)
      clear hsg hx
      go_wp2_with fail
      (with_reducible refine HNC.out.mono ?_)
      rintro e2 w2 ⟨rfl, hb2⟩
      have H3 := Lib.hid (H2.out.below hb2)
      have HR3 := Lib.hid (HR.out.below hb2)
      clear hb2 k0 k1 k2 k3 k4 k5 k6 k7 k8 k9 k10 z0 z1 z2 z3 z4 z5 z6 z7 z8 z9 z10 y0 y1 y2 y3 y4 y5 y6 y7 y8 y9 y10 yy0 yy1 yy2 yy3 yy4 yy5 yy6 yy7 yy8 yy9 yy10
      obtain ⟨k0, k1, k2, k3, k4, k5, k6, k7, k8, k9, k10⟩ := cells11 H3.out.ev
      obtain ⟨z0, z1, z2, z3, z4, z5, z6, z7, z8, z9, z10⟩ := frozen11 H3.out.ev
      go_upto_region 13 with fail
      obtain ⟨W3, hW3⟩ : ∃ W3, w2.setCell ⟨w.heap.size, 3, none⟩ (.int .i64 N) = W3 := ⟨_, rfl⟩
      have g3 : Two w W3 { e with lg := N } (.slice a6 n6 c6) (.slice a9 n9 c9) (.slice a10 n10 c10) := by rw [← hW3]; exact H3.out.set (i := 3) (u := .int .i64 N) (e' := { e with lg := N }) rfl
      have hr3 : Rv W3 { e with lg := N } (.slice a6 n6 c6) (.slice a9 n9 c9) (.slice a10 n10 c10) := by
        rw [← hW3]
        obtain ⟨p1, p2, p3⟩ := O0.out w.heap.size (Nat.le_refl _)
        exact (HR3.out.off p1 p2 p3).as rfl rfl rfl
      rw [hW3]
      have H4 := Lib.hid g3
      have HR4 := Lib.hid hr3
      clear hW3 g3 hr3 k0 k1 k2 k3 k4 k5 k6 k7 k8 k9 k10 z0 z1 z2 z3 z4 z5 z6 z7 z8 z9 z10
      obtain ⟨k0, k1, k2, k3, k4, k5, k6, k7, k8, k9, k10⟩ := cells11 H4.out.ev
      obtain ⟨z0, z1, z2, z3, z4, z5, z6, z7, z8, z9, z10⟩ := frozen11 H4.out.ev
      obtain ⟨yy0, yy1, yy2, yy3, yy4, yy5, yy6, yy7, yy8, yy9, yy10⟩ := cells11 H4.out.res
      obtain ⟨y0, y1, y2, y3, y4, y5, y6, y7, y8, y9, y10⟩ := frozen11 H4.out.res
      by_cases hok : numOk s.data.toList = true
      case neg =>
        have hN1 : N = -1 := by rw [← HN.out, if_neg hok]
        subst hN1
        have HL := Lib.hid (show ¬ lgOk s.data.toList = true by rw [HG1.out]; exact hok)
        go_wp2
        refine bodyPost_ret (two_out H4.out rfl rfl) rfl ?_
        exact pf_bad (by rw [HC.out, if_neg HL.out]; rfl) (by rw [HC.out, if_neg HL.out]; decide) H4.out
      obtain ⟨q0, q1, q2⟩ := num_of hok
      have hNt : numIs s.data.toList = N := by rw [← HN.out, if_pos hok]
      rw [hNt] at q0 q1
      have hN0 : ¬ N < 0 := by omega
      have h9 := H9OF.out hok
      have h9i : ¬ (9 : Int) < (s.size : Int) := by omega
      have HL := Lib.hid (show lgOk s.data.toList = true by rw [HG1.out, hok])
      have HV := Lib.hid hNt
      clear hok q2 hNt
      go_wp2
      refine bodyPost_ret (two_out H4.out rfl rfl) rfl ?_
      obtain ⟨o1, o2, o3⟩ := O0.out (w.heap.size + 1) (by omega)
      exact ⟨_, _, _, _, ⟨isSl, isSl, isSl⟩, by rw [HC.out, if_pos HL.out]; rfl, fun _ => ⟨by rw [HE.out, HV.out], two_rv HR4.out o1 o2 o3, fun c _ h => h⟩, two_low H4.out⟩
    case neg =>
      have hs1' : ¬ (1 : Int) < (s.size : Int) := by omega
      clear hsg
      go_wp2_with fail
      (with_reducible refine HNC.out.mono ?_)
      rintro e2 w2 ⟨rfl, hb2⟩
      have H3 := Lib.hid (H2.out.below hb2)
      have HR3 := Lib.hid (HR.out.below hb2)
      clear hb2 k0 k1 k2 k3 k4 k5 k6 k7 k8 k9 k10 z0 z1 z2 z3 z4 z5 z6 z7 z8 z9 z10 y0 y1 y2 y3 y4 y5 y6 y7 y8 y9 y10 yy0 yy1 yy2 yy3 yy4 yy5 yy6 yy7 yy8 yy9 yy10
      obtain ⟨k0, k1, k2, k3, k4, k5, k6, k7, k8, k9, k10⟩ := cells11 H3.out.ev
      obtain ⟨z0, z1, z2, z3, z4, z5, z6, z7, z8, z9, z10⟩ := frozen11 H3.out.ev
      go_upto_region 13 with fail
      obtain ⟨W3, hW3⟩ : ∃ W3, w2.setCell ⟨w.heap.size, 3, none⟩ (.int .i64 N) = W3 := ⟨_, rfl⟩
      have g3 : Two w W3 { e with lg := N } (.slice a6 n6 c6) (.slice a9 n9 c9) (.slice a10 n10 c10) := by rw [← hW3]; exact H3.out.set (i := 3) (u := .int .i64 N) (e' := { e with lg := N }) rfl
      have hr3 : Rv W3 { e with lg := N } (.slice a6 n6 c6) (.slice a9 n9 c9) (.slice a10 n10 c10) := by
        rw [← hW3]
        obtain ⟨p1, p2, p3⟩ := O0.out w.heap.size (Nat.le_refl _)
        exact (HR3.out.off p1 p2 p3).as rfl rfl rfl
      rw [hW3]
      have H4 := Lib.hid g3
      have HR4 := Lib.hid hr3
      clear hW3 g3 hr3 k0 k1 k2 k3 k4 k5 k6 k7 k8 k9 k10 z0 z1 z2 z3 z4 z5 z6 z7 z8 z9 z10
      obtain ⟨k0, k1, k2, k3, k4, k5, k6, k7, k8, k9, k10⟩ := cells11 H4.out.ev
      obtain ⟨z0, z1, z2, z3, z4, z5, z6, z7, z8, z9, z10⟩ := frozen11 H4.out.ev
      obtain ⟨yy0, yy1, yy2, yy3, yy4, yy5, yy6, yy7, yy8, yy9, yy10⟩ := cells11 H4.out.res
      obtain ⟨y0, y1, y2, y3, y4, y5, y6, y7, y8, y9, y10⟩ := frozen11 H4.out.res
      by_cases hok : numOk s.data.toList = true
      case neg =>
        have hN1 : N = -1 := by rw [← HN.out, if_neg hok]
        subst hN1
        have HL := Lib.hid (show ¬ lgOk s.data.toList = true by rw [HG1.out]; exact hok)
        go_wp2
        refine bodyPost_ret (two_out H4.out rfl rfl) rfl ?_
        exact pf_bad (by rw [HC.out, if_neg HL.out]; rfl) (by rw [HC.out, if_neg HL.out]; decide) H4.out
      obtain ⟨q0, q1, q2⟩ := num_of hok
      have hNt : numIs s.data.toList = N := by rw [← HN.out, if_pos hok]
      rw [hNt] at q0 q1
      have hN0 : ¬ N < 0 := by omega
      have h9 := H9OF.out hok
      have h9i : ¬ (9 : Int) < (s.size : Int) := by omega
      have HL := Lib.hid (show lgOk s.data.toList = true by rw [HG1.out, hok])
      have HV := Lib.hid hNt
      clear hok q2 hNt
      go_wp2
      refine bodyPost_ret (two_out H4.out rfl rfl) rfl ?_
      obtain ⟨o1, o2, o3⟩ := O0.out (w.heap.size + 1) (by omega)
      exact ⟨_, _, _, _, ⟨isSl, isSl, isSl⟩, by rw [HC.out, if_pos HL.out]; rfl, fun _ => ⟨by rw [HE.out, HV.out], two_rv HR4.out o1 o2 o3, fun c _ h => h⟩, two_low H4.out⟩
end Evt
end Go.Proofs.YtghkalamlcfnnaaGreatDoor
end
section
namespace Go.Proofs.YtghkalamlcfnnaaGreatDoor
open Go Go.RowKit Go.Shelf Lmd
attribute [local go_sem] Oper.semAt_some
namespace Evt
open Rul Day Cand Er Tp Rf Rct
theorem Two.later {w W W' : World} {e : Ev} {vd vs vm : Value} {B : Nat} (h : Two w W e vd vs vm) (hb : Below B W W') (hB : w.heap.size + 1 < B) : Two w W' e vd vs vm :=
  ⟨h.low.trans (hb.mono (by omega)), by have := hb.size; have := h.top; omega, by rw [hb.block _ (by omega)]; exact h.ev, by rw [hb.block _ hB]; exact h.res⟩
theorem skV_len (L : List ByteArray) : (skV L).length = L.length := by unfold skV; rw [List.length_map]
theorem skV_snoc (L : List ByteArray) (x : ByteArray) : skV (L ++ [x]) = skV L ++ [dayX x.data.toList] := by unfold skV; rw [List.map_append]; rfl
theorem mvV_len (L : List ByteArray) : (mvV L).length = L.length := by unfold mvV; rw [List.length_map]
theorem mvV_snoc (L : List ByteArray) (x : ByteArray) : mvV (L ++ [x]) = mvV L ++ [mvV1 x] := by unfold mvV; rw [List.map_append]; rfl
set_option maxRecDepth 100000 in
set_option maxHeartbeats 8000000 in
theorem pf_skips (e : Ev) (vd vs vm : Value) (f s : ByteArray) (w : World) (hr : Rv w e vd vs vm) (hs : s.size ≤ 30000) (h1 : ¬ f.toList = [116, 105, 116, 108, 101]) (h2 : ¬ f.toList = [115, 116, 97, 114, 116]) (h3 : ¬ f.toList = [108, 111, 110, 103]) (h4 : ¬ f.toList = [114, 117, 108, 101]) (h5 : f.toList = [115, 107, 105, 112, 115]) :
    Calls Tryz.prog 89 #[.agg (e.cells vd vs vm), .string f, .string s] w (PfPost e vd vs vm f s w) := by
  obtain ⟨a6, c6, rfl⟩ := hr.d.shape
  obtain ⟨a9, c9, rfl⟩ := hr.s.shape
  obtain ⟨a10, c10, rfl⟩ := hr.m.shape
  obtain ⟨W, hW⟩ : ∃ W, (w.alloc (.cells (e.cells (.slice a6 e.ru.ds.length c6) (.slice a9 e.sk.length c9) (.slice a10 e.mv.length c10)) 40)).alloc (.cells zeroV 40) = W := ⟨_, rfl⟩
  have hB : Below w.heap.size w W := by rw [← hW]; exact ((Below.refl _ w).alloc (Nat.le_refl _) _).alloc (by simp) _
  have h2 : Two w W e (.slice a6 e.ru.ds.length c6) (.slice a9 e.sk.length c9) (.slice a10 e.mv.length c10) := by
    rw [← hW]
    refine ⟨((Below.refl _ w).alloc (Nat.le_refl _) _).alloc (by simp) _, by simp, (Below.heap_alloc _ _ _ (by simp)).trans (heap_new w _), ?_⟩
    have h := heap_new (w.alloc (.cells (e.cells (.slice a6 e.ru.ds.length c6) (.slice a9 e.sk.length c9) (.slice a10 e.mv.length c10)) 40)) (.cells zeroV 40)
    rwa [World.size_alloc] at h
  have hrw := hr.below hB
  have o0 : ∀ b, w.heap.size ≤ b → Off b (.slice a6 e.ru.ds.length c6) ∧ Off b (.slice a9 e.sk.length c9) ∧ Off b (.slice a10 e.mv.length c10) := fun b hb => ⟨off_reads hr.d hb, off_reads hr.s hb, off_mreads hr.m hb⟩
  obtain ⟨n6, hn6⟩ : ∃ n, e.ru.ds.length = n := ⟨_, rfl⟩
  obtain ⟨n9, hn9⟩ : ∃ n, e.sk.length = n := ⟨_, rfl⟩
  obtain ⟨n10, hn10⟩ : ∃ n, e.mv.length = n := ⟨_, rfl⟩
  rw [hn6, hn9, hn10] at hW h2 hrw o0 ⊢
  have HW := Lib.hid hW
  have H2 := Lib.hid h2
  have HR := Lib.hid hrw
  have O0 := Lib.hid o0
  clear hr hB hW h2 hrw o0 hn6 hn9 hn10
  have hc : putC f s = skC (listP s) := by unfold putC; rw [if_neg h1, if_neg h2, if_neg h3, if_neg h4, if_pos h5]
  have he : putE e f s = { e with sk := skV (listP s) } := by unfold putE; rw [if_neg h1, if_neg h2, if_neg h3, if_neg h4, if_pos h5]
  have HC := Lib.hid hc
  have HE := Lib.hid he
  clear hc he
  have hcut := fun W => cut_lit s.data.toList 44 44 W (by simp; omega) rfl
  rw [← mk_self s] at hcut
  unfold CutPost at hcut
  rw [← mk_self s] at hcut
  have HCUT := Lib.hid hcut
  clear hcut
  go_enter Tryz.func89, Tryz.ntmps89
  obtain ⟨k0, k1, k2, k3, k4, k5, k6, k7, k8, k9, k10⟩ := cells11 H2.out.ev
  obtain ⟨z0, z1, z2, z3, z4, z5, z6, z7, z8, z9, z10⟩ := frozen11 H2.out.ev
  obtain ⟨yy0, yy1, yy2, yy3, yy4, yy5, yy6, yy7, yy8, yy9, yy10⟩ := cells11 H2.out.res
  obtain ⟨y0, y1, y2, y3, y4, y5, y6, y7, y8, y9, y10⟩ := frozen11 H2.out.res
  go_upto_region 4 with fail
  rw [HW.out]
  go_upto_region 21 with fail
  obtain ⟨W1, hW1⟩ : ∃ W1, W.setCell ⟨w.heap.size, 9, none⟩ (.slice none 0 0) = W1 := ⟨_, rfl⟩
  have g1 : Two w W1 { e with sk := [] } (.slice a6 n6 c6) (.slice none 0 0) (.slice a10 n10 c10) := by rw [← hW1]; exact H2.out.set (i := 9) (u := .slice none 0 0) (e' := { e with sk := [] }) (vs' := .slice none 0 0)  rfl
  have hr1 : Ints.Reads W1 (.slice a6 n6 c6) e.ru.ds ∧ MReads W1 (.slice a10 n10 c10) e.mv := by
    rw [← hW1]
    obtain ⟨p1, p2, p3⟩ := O0.out w.heap.size (Nat.le_refl _)
    exact ⟨reads_off HR.out.d p1, mreads_off HR.out.m p3⟩
  rw [hW1]
  have G1 := Lib.hid g1
  have HR1 := Lib.hid hr1
  clear hW1 g1 hr1 k0 k1 k2 k3 k4 k5 k6 k7 k8 k9 k10 z0 z1 z2 z3 z4 z5 z6 z7 z8 z9 z10 y0 y1 y2 y3 y4 y5 y6 y7 y8 y9 y10 yy0 yy1 yy2 yy3 yy4 yy5 yy6 yy7 yy8 yy9 yy10
  go_wp2_with fail
  (with_reducible refine (HCUT.out W1).mono ?_)
  rintro e2 w2 ⟨cv, rfl, hown, hb2⟩
  obtain ⟨f0, t0, hP⟩ := pieces_cons 44 s
  obtain ⟨N, hN⟩ : ∃ N, (pieces 44 s).length = N := ⟨_, rfl⟩
  have hN1 : 1 ≤ N := by rw [← hN, hP]; simp
  have hNs : N ≤ s.size + 1 := by rw [← hN]; exact pieces_len 44 s
  have hrc := reads_ownS hown rfl
  obtain ⟨g, cap, rfl, hgl, hge, hce⟩ : ∃ g cap, cv = .slice (some ⟨g, 0, none⟩) N cap ∧ g < w2.heap.size ∧ W1.heap.size ≤ g ∧ ∀ (j : Nat) x, (pieces 44 s)[j]? = some x → w2.cell? ⟨g, j, none⟩ = some (.string x) := by
    rcases hrc with ⟨h, _⟩ | ⟨g, cap, h1, h2, h3, h4⟩
    · rw [hP] at h; cases h
    · refine ⟨g, cap, by rw [← hN]; exact h1, h3, ?_, fun j x hx => by have := h4 j x hx; rwa [Nat.zero_add] at this⟩
      exact own_ge hown (by rw [h1]; rfl)
  have g2 := G1.out.below hb2
  have hr2 : Ints.Reads w2 (.slice a6 n6 c6) e.ru.ds ∧ MReads w2 (.slice a10 n10 c10) e.mv := ⟨HR1.out.1.below hb2, HR1.out.2.below hb2⟩
  obtain ⟨L, hL⟩ : ∃ L, listP s = L := ⟨_, rfl⟩
  obtain ⟨M, hM⟩ : ∃ M, L.length = M := ⟨_, rfl⟩
  have hcase : (s.toList = [] ∧ M = 0) ∨ (s.toList ≠ [] ∧ M = N) := by
    unfold listP at hL
    by_cases h0 : s.toList = []
    · rw [if_pos h0] at hL; exact .inl ⟨h0, by rw [← hM, ← hL]; rfl⟩
    · rw [if_neg h0] at hL; exact .inr ⟨h0, by rw [← hM, ← hL, hN]⟩
  have hcl : ∀ (j : Nat) x, L[j]? = some x → w2.cell? ⟨g, j, none⟩ = some (.string x) ∧ x.size ≤ s.size := fun j x hx => by
    unfold listP at hL
    by_cases h0 : s.toList = []
    · rw [if_pos h0] at hL; rw [← hL] at hx; cases hx
    · rw [if_neg h0] at hL; rw [← hL] at hx; exact ⟨hce j x hx, pieces_le (List.mem_of_getElem? hx)⟩
  rw [hL] at HC HE
  have G2 := Lib.hid g2
  have HR2 := Lib.hid hr2
  have HGE := Lib.hid hge
  have HCL := Lib.hid hcl
  have HM := Lib.hid hM
  have HCASE := Lib.hid hcase
  have hgb : g ≠ w.heap.size := by have := G1.out.top; omega
  have HGB := Lib.hid hgb
  have HG0 := Lib.hid G1.out.top
  clear hown hb2 hP hN hrc hge hce g2 hr2 hL hM hcase hcl hgb G1 HR1 HCUT
  go_wp2_with fail
  go_loopw [11] (fun pp wr => ∃ (k : Nat) (a : Option Addr) (c : Nat), k ≤ M ∧ pp = .int .i64 (k : Int) ∧ Two w wr { e with sk := skV (L.take k) } (.slice a6 n6 c6) (.slice a k c) (.slice a10 n10 c10) ∧ wr.ownsRow w2.heap.size 3 1 (.slice a k c) k (cellsOf (skV (L.take k))) ∧ (∀ x ∈ L.take k, dayC x.data.toList = 0) ∧ Far (fun q => q = w.heap.size) w2 wr) (fun pp _ => M - (intOf pp).toNat)
  case atStart => exact ⟨0, none, 0, Nat.zero_le _, rfl, G2.out, ⟨rfl, .inl ⟨rfl, rfl⟩⟩, by simp, Far.refl _ _⟩
  case round =>
    obtain ⟨k, a, c, hk, rfl, h2, hown, hall, hfar⟩ := hrel
    have H3 := Lib.hid h2
    have HOWN := Lib.hid hown
    have HALL := Lib.hid hall
    have HFAR := Lib.hid hfar
    clear h2 hown hall hfar
    by_cases hlt : k < M
    · have hne : ¬ s.toList = [] := by
        rcases HCASE.out with ⟨_, h⟩ | ⟨h, _⟩
        · omega
        · exact h
      have hMN : M = N := by
        rcases HCASE.out with ⟨_, h⟩ | ⟨_, h⟩
        · omega
        · exact h
      have hne1 : (s.toList == []) = false := by simpa using hne
      have hne2 : s.toList.isEmpty = false := by simpa using hne
      have hi1 : (k : Int) < (N : Int) := by omega
      have hkl : k < L.length := by rw [HM.out]; exact hlt
      obtain ⟨x, hx⟩ : ∃ x, L[k]? = some x := ⟨_, List.getElem?_eq_getElem hkl⟩
      have hcx := far_cell HFAR.out (HCL.out k x hx).1 HGB.out
      have hxs := (HCL.out k x hx).2
      have hts : L.take (k + 1) = L.take k ++ [x] := by
        obtain ⟨h1, h2⟩ := List.getElem?_eq_some_iff.1 hx
        rw [List.take_succ_eq_append_getElem h1, h2]
      have hdrop : L = L.take k ++ x :: L.drop (k + 1) := by
        have h := List.take_append_drop (k + 1) L
        rw [hts] at h
        simpa using h.symm
      have HTS := Lib.hid hts
      have HDROP := Lib.hid hdrop
      obtain ⟨dc, hdc⟩ : ∃ dc, dayC x.data.toList = dc := ⟨_, rfl⟩
      obtain ⟨dx, hdx⟩ : ∃ dx, dayX x.data.toList = dx := ⟨_, rfl⟩
      have hrd := rreadDay_any x wr
      rw [hdc, hdx] at hrd
      have HRD := Lib.hid hrd
      have HDC := Lib.hid hdc
      have HDX := Lib.hid hdx
      obtain ⟨k0, k1, k2, k3, k4, k5, k6, k7, k8, k9, k10⟩ := cells11 H3.out.ev
      clear hx hts hdrop hdc hdx hrd hkl hne
      go_wp2_with fail
      (with_reducible refine HRD.out.mono ?_)
      rintro e3 w3 ⟨rfl, hb3⟩
      have H4 := Lib.hid (H3.out.below hb3)
      have HF3 := Lib.hid (HFAR.out.trans (Far.of_below hb3))
      have HO3 := Lib.hid (own_below HOWN.out hb3)
      clear hb3 k0 k1 k2 k3 k4 k5 k6 k7 k8 k9 k10
      obtain ⟨k0, k1, k2, k3, k4, k5, k6, k7, k8, k9, k10⟩ := cells11 H4.out.ev
      obtain ⟨z0, z1, z2, z3, z4, z5, z6, z7, z8, z9, z10⟩ := frozen11 H4.out.ev
      obtain ⟨yy0, yy1, yy2, yy3, yy4, yy5, yy6, yy7, yy8, yy9, yy10⟩ := cells11 H4.out.res
      obtain ⟨y0, y1, y2, y3, y4, y5, y6, y7, y8, y9, y10⟩ := frozen11 H4.out.res
      by_cases hd0 : dc = 0
      · subst hd0
        have hsz := HF3.out.size
        have hkM : k ≤ 30001 := by omega
        have hlen : (skV (L.take k)).length = k := by rw [skV_len, List.length_take, HM.out]; omega
        have hO3 := HO3.out
        rw [← hlen] at hO3
        have HO4 := Lib.hid (World.ownsRow.alloc hO3 (.cells #[.int .i64 dx] 3))
        clear hO3
        go_wp2_with (at_builtin
                     refine append_int rfl (.tmp 114) (.tmp 116) rfl w2.heap.size (.slice a k c) (skV (L.take k)) rfl (by rw [hlen] at HO4 ⊢; exact HO4.out) w3.heap.size dx rfl ((Boxed.new w3 3 (.int .i64 dx)).cell) (by omega) (by rw [World.size_alloc]; omega) ?_
                     intro a4 c4 w4 hown4 hb4
                     have hB5 : Below w2.heap.size w3 w4 := ((Below.refl w2.heap.size w3).alloc hsz _).trans hb4
                     have H5 := Lib.hid (H4.out.later hB5 (by have := G2.out.top; omega))
                     have HF5 := Lib.hid (far_low HF3.out hB5)
                     have HO5 := Lib.hid hown4
                     obtain ⟨k0, k1, k2, k3, k4, k5, k6, k7, k8, k9, k10⟩ := cells11 H5.out.ev
                     obtain ⟨z0, z1, z2, z3, z4, z5, z6, z7, z8, z9, z10⟩ := frozen11 H5.out.ev
                     clear hown4 hb4 hB5)
        go_roundw
        case rel =>
          rw [hlen] at HO5
          refine ⟨k + 1, a4, c4, by omega, by go_num, ?_, ?_, ?_, ?_⟩
          · rw [HTS.out, skV_snoc, HDX.out]
            exact H5.out.set (i := 9) (u := .slice a4 (k + 1) c4) (e' := { e with sk := skV (L.take k) ++ [dx] }) (vs' := .slice a4 (k + 1) c4) rfl
          · have h := HO5.out
            rw [HTS.out, skV_snoc, HDX.out]
            have hl2 : (skV (L.take k) ++ [dx]).length = k + 1 := by rw [List.length_append, hlen]; rfl
            rw [hl2] at h
            exact own_far h (by show w.heap.size < w2.heap.size; have := G2.out.top; omega)
          · rw [HTS.out]
            intro z hz
            rcases List.mem_append.1 hz with hz | hz
            · exact HALL.out z hz
            · rw [List.mem_singleton] at hz; subst hz; exact HDC.out
          · exact HF5.out.set (p := ⟨w.heap.size, 9, none⟩) rfl _
        case measure => simp [intOf]; omega
      · have hdp : (0 : Int) < (dc : Int) := by omega
        have hcc : skC L = dc := by rw [HDROP.out, skC_bad HALL.out (by rw [HDC.out]; exact hd0), HDC.out]
        have HCC := Lib.hid (HC.out.trans hcc)
        clear hcc
        go_wp2
        refine bodyPost_ret (two_out H4.out rfl rfl) rfl ?_
        exact pf_bad (by rw [HCC.out]) (by rw [HCC.out]; exact hd0) H4.out
    · obtain rfl : k = M := by omega
      have htk : L.take k = L := List.take_of_length_le (by rw [HM.out]; exact Nat.le_refl _)
      rw [htk] at H3 HOWN HALL
      have hcc : skC L = 0 := skC_ok HALL.out
      have HCC := Lib.hid (HC.out.trans hcc)
      clear hcc htk
      have hfin : ∀ (wz : World), wz = wr → True := fun _ _ => trivial
      obtain ⟨k0, k1, k2, k3, k4, k5, k6, k7, k8, k9, k10⟩ := cells11 H3.out.ev
      obtain ⟨yy0, yy1, yy2, yy3, yy4, yy5, yy6, yy7, yy8, yy9, yy10⟩ := cells11 H3.out.res
      obtain ⟨y0, y1, y2, y3, y4, y5, y6, y7, y8, y9, y10⟩ := frozen11 H3.out.res
      obtain ⟨o1, o2, o3⟩ := O0.out (w.heap.size + 1) (by omega)
      obtain ⟨p1, p2, p3⟩ := O0.out w.heap.size (Nat.le_refl _)
      have hrv : Rv wr { e with sk := skV L } (.slice a6 n6 c6) (.slice a k c) (.slice a10 n10 c10) := by
        refine ⟨far_reads HFAR.out HR2.out.1 p1, ?_, far_mreads HFAR.out HR2.out.2 p3⟩
        have hl : (skV L).length = k := by rw [skV_len, HM.out]
        have h := HOWN.out
        exact reads_own (xs := skV L) (by rw [hl]; exact h)
      have hos : Off (w.heap.size + 1) (.slice a k c) := off_from (own_from HOWN.out) (by have := G2.out.top; omega)
      have HRV := Lib.hid hrv
      have HOS := Lib.hid hos
      clear hrv hos p1 p2 p3
      rcases HCASE.out with ⟨h0, rfl⟩ | ⟨h0, rfl⟩
      · have hN0 : (0 : Int) < (N : Int) := by omega
        have hne1 : (s.toList == []) = true := by simpa using h0
        have hne2 : s.toList.isEmpty = true := by simpa using h0
        clear h0
        go_wp2
        refine bodyPost_ret (two_out H3.out rfl rfl) rfl ?_
        exact ⟨_, _, _, _, ⟨isSl, isSl, isSl⟩, by rw [HCC.out]; rfl, fun _ => ⟨by rw [HE.out], two_rv HRV.out o1 HOS.out o3, fun q hq h => ⟨h.1, off_from (own_from HOWN.out) (by have := G2.out.top; omega), h.2.2⟩⟩, two_low H3.out⟩
      · clear h0
        go_wp2
        refine bodyPost_ret (two_out H3.out rfl rfl) rfl ?_
        exact ⟨_, _, _, _, ⟨isSl, isSl, isSl⟩, by rw [HCC.out]; rfl, fun _ => ⟨by rw [HE.out], two_rv HRV.out o1 HOS.out o3, fun q hq h => ⟨h.1, off_from (own_from HOWN.out) (by have := G2.out.top; omega), h.2.2⟩⟩, two_low H3.out⟩
set_option maxRecDepth 100000 in
set_option maxHeartbeats 8000000 in
theorem pf_moves (e : Ev) (vd vs vm : Value) (f s : ByteArray) (w : World) (hr : Rv w e vd vs vm) (hs : s.size ≤ 30000) (h1 : ¬ f.toList = [116, 105, 116, 108, 101]) (h2 : ¬ f.toList = [115, 116, 97, 114, 116]) (h3 : ¬ f.toList = [108, 111, 110, 103]) (h4 : ¬ f.toList = [114, 117, 108, 101]) (h5 : ¬ f.toList = [115, 107, 105, 112, 115]) (h6 : f.toList = [109, 111, 118, 101, 115]) :
    Calls Tryz.prog 89 #[.agg (e.cells vd vs vm), .string f, .string s] w (PfPost e vd vs vm f s w) := by
  obtain ⟨a6, c6, rfl⟩ := hr.d.shape
  obtain ⟨a9, c9, rfl⟩ := hr.s.shape
  obtain ⟨a10, c10, rfl⟩ := hr.m.shape
  obtain ⟨W, hW⟩ : ∃ W, (w.alloc (.cells (e.cells (.slice a6 e.ru.ds.length c6) (.slice a9 e.sk.length c9) (.slice a10 e.mv.length c10)) 40)).alloc (.cells zeroV 40) = W := ⟨_, rfl⟩
  have hB : Below w.heap.size w W := by rw [← hW]; exact ((Below.refl _ w).alloc (Nat.le_refl _) _).alloc (by simp) _
  have h2 : Two w W e (.slice a6 e.ru.ds.length c6) (.slice a9 e.sk.length c9) (.slice a10 e.mv.length c10) := by
    rw [← hW]
    refine ⟨((Below.refl _ w).alloc (Nat.le_refl _) _).alloc (by simp) _, by simp, (Below.heap_alloc _ _ _ (by simp)).trans (heap_new w _), ?_⟩
    have h := heap_new (w.alloc (.cells (e.cells (.slice a6 e.ru.ds.length c6) (.slice a9 e.sk.length c9) (.slice a10 e.mv.length c10)) 40)) (.cells zeroV 40)
    rwa [World.size_alloc] at h
  have hrw := hr.below hB
  have o0 : ∀ b, w.heap.size ≤ b → Off b (.slice a6 e.ru.ds.length c6) ∧ Off b (.slice a9 e.sk.length c9) ∧ Off b (.slice a10 e.mv.length c10) := fun b hb => ⟨off_reads hr.d hb, off_reads hr.s hb, off_mreads hr.m hb⟩
  obtain ⟨n6, hn6⟩ : ∃ n, e.ru.ds.length = n := ⟨_, rfl⟩
  obtain ⟨n9, hn9⟩ : ∃ n, e.sk.length = n := ⟨_, rfl⟩
  obtain ⟨n10, hn10⟩ : ∃ n, e.mv.length = n := ⟨_, rfl⟩
  rw [hn6, hn9, hn10] at hW h2 hrw o0 ⊢
  have HW := Lib.hid hW
  have H2 := Lib.hid h2
  have HR := Lib.hid hrw
  have O0 := Lib.hid o0
  clear hr hB hW h2 hrw o0 hn6 hn9 hn10
  have hc : putC f s = mvC (listP s) := by unfold putC; rw [if_neg h1, if_neg h2, if_neg h3, if_neg h4, if_neg h5, if_pos h6]
  have he : putE e f s = { e with mv := mvV (listP s) } := by unfold putE; rw [if_neg h1, if_neg h2, if_neg h3, if_neg h4, if_neg h5, if_pos h6]
  have HC := Lib.hid hc
  have HE := Lib.hid he
  clear hc he
  have hcut := fun W => cut_lit s.data.toList 44 44 W (by simp; omega) rfl
  rw [← mk_self s] at hcut
  unfold CutPost at hcut
  rw [← mk_self s] at hcut
  have HCUT := Lib.hid hcut
  clear hcut
  go_enter Tryz.func89, Tryz.ntmps89
  obtain ⟨k0, k1, k2, k3, k4, k5, k6, k7, k8, k9, k10⟩ := cells11 H2.out.ev
  obtain ⟨z0, z1, z2, z3, z4, z5, z6, z7, z8, z9, z10⟩ := frozen11 H2.out.ev
  obtain ⟨yy0, yy1, yy2, yy3, yy4, yy5, yy6, yy7, yy8, yy9, yy10⟩ := cells11 H2.out.res
  obtain ⟨y0, y1, y2, y3, y4, y5, y6, y7, y8, y9, y10⟩ := frozen11 H2.out.res
  go_upto_region 4 with fail
  rw [HW.out]
  go_upto_region 32 with fail
  obtain ⟨W1, hW1⟩ : ∃ W1, W.setCell ⟨w.heap.size, 10, none⟩ (.slice none 0 0) = W1 := ⟨_, rfl⟩
  have g1 : Two w W1 { e with mv := [] } (.slice a6 n6 c6) (.slice a9 n9 c9) (.slice none 0 0) := by rw [← hW1]; exact H2.out.set (i := 10) (u := .slice none 0 0) (e' := { e with mv := [] }) (vm' := .slice none 0 0)  rfl
  have hr1 : Ints.Reads W1 (.slice a6 n6 c6) e.ru.ds ∧ Ints.Reads W1 (.slice a9 n9 c9) e.sk := by
    rw [← hW1]
    obtain ⟨p1, p2, p3⟩ := O0.out w.heap.size (Nat.le_refl _)
    exact ⟨reads_off HR.out.d p1, reads_off HR.out.s p2⟩
  rw [hW1]
  have G1 := Lib.hid g1
  have HR1 := Lib.hid hr1
  clear hW1 g1 hr1 k0 k1 k2 k3 k4 k5 k6 k7 k8 k9 k10 z0 z1 z2 z3 z4 z5 z6 z7 z8 z9 z10 y0 y1 y2 y3 y4 y5 y6 y7 y8 y9 y10 yy0 yy1 yy2 yy3 yy4 yy5 yy6 yy7 yy8 yy9 yy10
  go_wp2_with fail
  (with_reducible refine (HCUT.out W1).mono ?_)
  rintro e2 w2 ⟨cv, rfl, hown, hb2⟩
  obtain ⟨f0, t0, hP⟩ := pieces_cons 44 s
  obtain ⟨N, hN⟩ : ∃ N, (pieces 44 s).length = N := ⟨_, rfl⟩
  have hN1 : 1 ≤ N := by rw [← hN, hP]; simp
  have hNs : N ≤ s.size + 1 := by rw [← hN]; exact pieces_len 44 s
  have hrc := reads_ownS hown rfl
  obtain ⟨g, cap, rfl, hgl, hge, hce⟩ : ∃ g cap, cv = .slice (some ⟨g, 0, none⟩) N cap ∧ g < w2.heap.size ∧ W1.heap.size ≤ g ∧ ∀ (j : Nat) x, (pieces 44 s)[j]? = some x → w2.cell? ⟨g, j, none⟩ = some (.string x) := by
    rcases hrc with ⟨h, _⟩ | ⟨g, cap, h1, h2, h3, h4⟩
    · rw [hP] at h; cases h
    · refine ⟨g, cap, by rw [← hN]; exact h1, h3, ?_, fun j x hx => by have := h4 j x hx; rwa [Nat.zero_add] at this⟩
      exact own_ge hown (by rw [h1]; rfl)
  have g2 := G1.out.below hb2
  have hr2 : Ints.Reads w2 (.slice a6 n6 c6) e.ru.ds ∧ Ints.Reads w2 (.slice a9 n9 c9) e.sk := ⟨HR1.out.1.below hb2, HR1.out.2.below hb2⟩
  obtain ⟨L, hL⟩ : ∃ L, listP s = L := ⟨_, rfl⟩
  obtain ⟨M, hM⟩ : ∃ M, L.length = M := ⟨_, rfl⟩
  have hcase : (s.toList = [] ∧ M = 0) ∨ (s.toList ≠ [] ∧ M = N) := by
    unfold listP at hL
    by_cases h0 : s.toList = []
    · rw [if_pos h0] at hL; exact .inl ⟨h0, by rw [← hM, ← hL]; rfl⟩
    · rw [if_neg h0] at hL; exact .inr ⟨h0, by rw [← hM, ← hL, hN]⟩
  have hcl : ∀ (j : Nat) x, L[j]? = some x → w2.cell? ⟨g, j, none⟩ = some (.string x) ∧ x.size ≤ s.size := fun j x hx => by
    unfold listP at hL
    by_cases h0 : s.toList = []
    · rw [if_pos h0] at hL; rw [← hL] at hx; cases hx
    · rw [if_neg h0] at hL; rw [← hL] at hx; exact ⟨hce j x hx, pieces_le (List.mem_of_getElem? hx)⟩
  rw [hL] at HC HE
  have G2 := Lib.hid g2
  have HR2 := Lib.hid hr2
  have HGE := Lib.hid hge
  have HCL := Lib.hid hcl
  have HM := Lib.hid hM
  have HCASE := Lib.hid hcase
  have hgb : g ≠ w.heap.size := by have := G1.out.top; omega
  have HGB := Lib.hid hgb
  have HG0 := Lib.hid G1.out.top
  clear hown hb2 hP hN hrc hge hce g2 hr2 hL hM hcase hcl hgb G1 HR1 HCUT
  go_wp2_with fail
  go_loopw [16] (fun pp wr => ∃ (k : Nat) (a : Option Addr) (c : Nat), k ≤ M ∧ pp = .int .i64 (k : Int) ∧ Two w wr { e with mv := mvV (L.take k) } (.slice a6 n6 c6) (.slice a9 n9 c9) (.slice a k c) ∧ wr.ownsRow w2.heap.size 95 2 (.slice a k c) k (cellsM (mvV (L.take k))) ∧ (∀ x ∈ L.take k, mvC1 x = 0) ∧ Far (fun q => q = w.heap.size) w2 wr) (fun pp _ => M - (intOf pp).toNat)
  case atStart => exact ⟨0, none, 0, Nat.zero_le _, rfl, G2.out, ⟨rfl, .inl ⟨rfl, rfl⟩⟩, by simp, Far.refl _ _⟩
  case round =>
    obtain ⟨k, a, c, hk, rfl, h2, hown, hall, hfar⟩ := hrel
    have H3 := Lib.hid h2
    have HOWN := Lib.hid hown
    have HALL := Lib.hid hall
    have HFAR := Lib.hid hfar
    clear h2 hown hall hfar
    by_cases hlt : k < M
    · have hne : ¬ s.toList = [] := by
        rcases HCASE.out with ⟨_, h⟩ | ⟨h, _⟩
        · omega
        · exact h
      have hMN : M = N := by
        rcases HCASE.out with ⟨_, h⟩ | ⟨_, h⟩
        · omega
        · exact h
      have hne1 : (s.toList == []) = false := by simpa using hne
      have hne2 : s.toList.isEmpty = false := by simpa using hne
      have hi1 : (k : Int) < (N : Int) := by omega
      have hkl : k < L.length := by rw [HM.out]; exact hlt
      obtain ⟨x, hx⟩ : ∃ x, L[k]? = some x := ⟨_, List.getElem?_eq_getElem hkl⟩
      have hcx := far_cell HFAR.out (HCL.out k x hx).1 HGB.out
      have hxs := (HCL.out k x hx).2
      have hts : L.take (k + 1) = L.take k ++ [x] := by
        obtain ⟨h1, h2⟩ := List.getElem?_eq_some_iff.1 hx
        rw [List.take_succ_eq_append_getElem h1, h2]
      have hdrop : L = L.take k ++ x :: L.drop (k + 1) := by
        have h := List.take_append_drop (k + 1) L
        rw [hts] at h
        simpa using h.symm
      have HTS := Lib.hid hts
      have HDROP := Lib.hid hdrop
      have hbadk : mvC1 x ≠ 0 → mvC L = mvC1 x := fun h => by rw [HDROP.out]; exact mvC_bad HALL.out h
      have HBADK := Lib.hid hbadk
      have hxl : x.data.toList.length = x.size := by simp
      have hpc := pos_cases 62 x.data.toList
      have hpn := pos_ne 62 x.data.toList
      have hpl := pos_le 62 x.data.toList
      obtain ⟨P, hP⟩ : ∃ P, posL 62 x.data.toList = P := ⟨_, rfl⟩
      rw [hP] at hpc hpn hpl
      rw [hxl] at hpl
      have HPC := Lib.hid hpc
      have HPN := Lib.hid hpn
      have HXL := Lib.hid hxl
      clear hx hts hdrop hkl hne hbadk hpc hpn hP hxl
      go_wp2_with fail
      go_loopw [17] (fun q wz => ∃ j : Nat, j ≤ P ∧ q = .int .i64 (j : Int) ∧ wz = wr) (fun q _ => P - (intOf q).toNat)
      case atStart => exact ⟨0, Nat.zero_le _, rfl, by trivial⟩
      case round =>
        obtain ⟨j, hj, rfl, rfl⟩ := hrel
        by_cases hjP : j < P
        · obtain ⟨y, hy, hyn⟩ := HPN.out j hjP
          have hjx : j < x.size := by omega
          have hSy : (x[j] : UInt8) = y := at_of x j y hjx hy
          have hi2 : (j : Int) < (x.size : Int) := by omega
          have hn1 : ((y.toNat : Int) != 62) = true := by
            rw [bne_iff_ne]
            intro e1
            exact hyn (UInt8.toNat_inj.1 (by show y.toNat = 62; omega))
          clear hy hyn
          go_wp2_with fail
          go_roundw
          case rel => exact ⟨j + 1, by omega, by go_num, by trivial⟩
          case measure => simp [intOf]; omega
        · obtain rfl : j = P := by omega
          rcases HPC.out with ⟨hlt2, hcut2, h62, htake, hdropx⟩ | ⟨hend, hcut2⟩
          case inr =>
            have hjx : ¬ (j : Int) < (x.size : Int) := by have := HXL.out; omega
            have hje : ((j : Int) == (x.size : Int)) = true := by rw [beq_iff_eq]; have := HXL.out; omega
            have hm1 : mvC1 x = 1 := by unfold mvC1; rw [if_pos hcut2]
            have HCC := Lib.hid (show putC f s = 1 by rw [HC.out, HBADK.out (by rw [hm1]; decide), hm1])
            obtain ⟨k0, k1, k2, k3, k4, k5, k6, k7, k8, k9, k10⟩ := cells11 H3.out.ev
            obtain ⟨yy0, yy1, yy2, yy3, yy4, yy5, yy6, yy7, yy8, yy9, yy10⟩ := cells11 H3.out.res
            obtain ⟨y0, y1, y2, y3, y4, y5, y6, y7, y8, y9, y10⟩ := frozen11 H3.out.res
            clear hm1 hcut2 hend
            go_wp2
            refine bodyPost_ret (two_out H3.out rfl rfl) rfl ?_
            exact pf_bad (by rw [HCC.out]; rfl) (by rw [HCC.out]; decide) H3.out
          case inl =>
          have hlx : j < x.size := by have := HXL.out; omega
          have hSy : (x[j] : UInt8) = 62 := at_of x j 62 hlx h62
          have hi2 : (j : Int) < (x.size : Int) := by omega
          have hje : ((j : Int) == (x.size : Int)) = false := by rw [beq_eq_false_iff_ne]; omega
          have hle1 : j ≤ x.size := by omega
          have hle2 : j + 1 ≤ x.size := by omega
          have hle3 : (j : Int) ≤ (x.size : Int) := by omega
          have hle4 : (j : Int) + 1 ≤ (x.size : Int) := by omega
          obtain ⟨T1, hT1⟩ : ∃ T, x.extract 0 j = T := ⟨_, rfl⟩
          obtain ⟨T2, hT2⟩ : ∃ T, x.extract (j + 1) x.size = T := ⟨_, rfl⟩
          have hA : T1.data.toList = mvA x := by rw [← hT1, ext_take, htake]; rfl
          have hB : T2.data.toList = mvB x := by
            rw [← hT2, ext_mid, hdropx, List.take_of_length_le (by rw [← hdropx, List.length_drop, HXL.out]; exact Nat.le_refl _)]; rfl
          obtain ⟨q1, hq1⟩ : ∃ q, dayC (mvA x) = q := ⟨_, rfl⟩
          obtain ⟨q2, hq2⟩ : ∃ q, dayC (mvB x) = q := ⟨_, rfl⟩
          obtain ⟨d1, hd1⟩ : ∃ q, dayX (mvA x) = q := ⟨_, rfl⟩
          obtain ⟨d2, hd2⟩ : ∃ q, dayX (mvB x) = q := ⟨_, rfl⟩
          have hr1 := fun W => rreadDay_any T1 W
          have hr2 := fun W => rreadDay_any T2 W
          simp only [hA, hq1, hd1] at hr1
          simp only [hB, hq2, hd2] at hr2
          have hmc : mvC1 x = if q1 ≠ 0 then q1 else q2 := by unfold mvC1; rw [if_neg (by rw [hcut2]; simp), hq1, hq2]
          have hmv : mvV1 x = (d1, d2) := by unfold mvV1; rw [hd1, hd2]
          have HRD1 := Lib.hid hr1
          have HRD2 := Lib.hid hr2
          have HMC := Lib.hid hmc
          have HMV := Lib.hid hmv
          clear hr1 hr2 hmc hmv hA hB hq1 hq2 hd1 hd2 hcut2 h62 htake hdropx
          go_wp2_with fail
          (with_reducible refine (HRD1.out _).mono ?_)
          rintro e3 w3 ⟨rfl, hb3⟩
          have H4 := Lib.hid (H3.out.below hb3)
          have HF3 := Lib.hid (HFAR.out.trans (Far.of_below hb3))
          have HO3 := Lib.hid (own_below HOWN.out hb3)
          have hcx3 := cell_later hb3 hcx
          clear hb3
          by_cases hz1 : q1 = 0
          case neg =>
            have hdp : (0 : Int) < (q1 : Int) := by omega
            have hm1 : mvC1 x = q1 := by rw [HMC.out, if_pos hz1]
            have HCC := Lib.hid (show putC f s = q1 by rw [HC.out, HBADK.out (by rw [hm1]; exact hz1), hm1])
            obtain ⟨k0, k1, k2, k3, k4, k5, k6, k7, k8, k9, k10⟩ := cells11 H4.out.ev
            obtain ⟨yy0, yy1, yy2, yy3, yy4, yy5, yy6, yy7, yy8, yy9, yy10⟩ := cells11 H4.out.res
            obtain ⟨y0, y1, y2, y3, y4, y5, y6, y7, y8, y9, y10⟩ := frozen11 H4.out.res
            have HZ1 := Lib.hid hz1
            clear hm1 hz1
            go_wp2
            refine bodyPost_ret (two_out H4.out rfl rfl) rfl ?_
            exact pf_bad (by rw [HCC.out]) (by rw [HCC.out]; exact HZ1.out) H4.out
          subst hz1
          go_wp2_with fail
          (with_reducible refine (HRD2.out _).mono ?_)
          rintro e4 w4 ⟨rfl, hb4⟩
          have H5 := Lib.hid (H4.out.below hb4)
          have HF4 := Lib.hid (HF3.out.trans (Far.of_below hb4))
          have HO4 := Lib.hid (own_below HO3.out hb4)
          clear hb4 hcx3
          obtain ⟨k0, k1, k2, k3, k4, k5, k6, k7, k8, k9, k10⟩ := cells11 H5.out.ev
          obtain ⟨z0, z1, z2, z3, z4, z5, z6, z7, z8, z9, z10⟩ := frozen11 H5.out.ev
          obtain ⟨yy0, yy1, yy2, yy3, yy4, yy5, yy6, yy7, yy8, yy9, yy10⟩ := cells11 H5.out.res
          obtain ⟨y0, y1, y2, y3, y4, y5, y6, y7, y8, y9, y10⟩ := frozen11 H5.out.res
          by_cases hz2 : q2 = 0
          case neg =>
            have hdp : (0 : Int) < (q2 : Int) := by omega
            have hm1 : mvC1 x = q2 := by rw [HMC.out, if_neg (by simp)]
            have HCC := Lib.hid (show putC f s = q2 by rw [HC.out, HBADK.out (by rw [hm1]; exact hz2), hm1])
            have HZ1 := Lib.hid hz2
            clear hm1 hz2
            go_wp2
            refine bodyPost_ret (two_out H5.out rfl rfl) rfl ?_
            exact pf_bad (by rw [HCC.out]) (by rw [HCC.out]; exact HZ1.out) H5.out
          subst hz2
          have hsz := HF4.out.size
          have hkM : k ≤ 30001 := by omega
          have hlen : (mvV (L.take k)).length = k := by rw [mvV_len, List.length_take, HM.out]; omega
          have hO3 := HO4.out
          have hcells : (w4.alloc (.cells #[.int .i64 d1, .int .i64 d2] 95)).cell? ⟨w4.heap.size, 0, none⟩ = some (.int .i64 d1) ∧ (w4.alloc (.cells #[.int .i64 d1, .int .i64 d2] 95)).cell? ⟨w4.heap.size, 1, none⟩ = some (.int .i64 d2) := ⟨cell_of (heap_new w4 _) rfl, cell_of (heap_new w4 _) rfl⟩
          rw [← hlen] at hO3
          have HO5 := Lib.hid (World.ownsRow.alloc hO3 (.cells #[.int .i64 d1, .int .i64 d2] 95))
          have HCELLS := Lib.hid hcells
          clear hO3 hcells
          go_wp2_with (at_builtin
                       refine append_move rfl (.tmp 191) (.tmp 195) rfl w2.heap.size (.slice a k c) (mvV (L.take k)) rfl (by rw [hlen] at HO5 ⊢; exact HO5.out) w4.heap.size (d1, d2) rfl HCELLS.out (by omega) (by rw [World.size_alloc]; omega) ?_
                       intro a6' c6' w6 hown6 hb6
                       have hB6 : Below w2.heap.size w4 w6 := ((Below.refl w2.heap.size w4).alloc hsz _).trans hb6
                       have H6 := Lib.hid (H5.out.later hB6 (by have := G2.out.top; omega))
                       have HF6 := Lib.hid (far_low HF4.out hB6)
                       have HO6 := Lib.hid hown6
                       obtain ⟨k0, k1, k2, k3, k4, k5, k6, k7, k8, k9, k10⟩ := cells11 H6.out.ev
                       obtain ⟨z0, z1, z2, z3, z4, z5, z6, z7, z8, z9, z10⟩ := frozen11 H6.out.ev
                       clear hown6 hb6 hB6)
          go_roundw
          case rel =>
            rw [hlen] at HO6
            have hm0 : mvC1 x = 0 := by rw [HMC.out, if_neg (by simp)]
            refine ⟨k + 1, a6', c6', by omega, by go_num, ?_, ?_, ?_, ?_⟩
            · rw [HTS.out, mvV_snoc, HMV.out]
              exact H6.out.set (i := 10) (u := .slice a6' (k + 1) c6') (e' := { e with mv := mvV (L.take k) ++ [(d1, d2)] }) (vm' := .slice a6' (k + 1) c6') rfl
            · have h := HO6.out
              rw [HTS.out, mvV_snoc, HMV.out]
              have hl2 : (mvV (L.take k) ++ [(d1, d2)]).length = k + 1 := by rw [List.length_append, hlen]; rfl
              rw [hl2] at h
              exact ownM_far h (by show w.heap.size < w2.heap.size; have := G2.out.top; omega)
            · rw [HTS.out]
              intro z hz
              rcases List.mem_append.1 hz with hz | hz
              · exact HALL.out z hz
              · rw [List.mem_singleton] at hz; subst hz; exact hm0
            · exact HF6.out.set (p := ⟨w.heap.size, 10, none⟩) rfl _
          case measure => simp [intOf]; omega
    · obtain rfl : k = M := by omega
      have htk : L.take k = L := List.take_of_length_le (by rw [HM.out]; exact Nat.le_refl _)
      rw [htk] at H3 HOWN HALL
      have hcc : mvC L = 0 := mvC_ok HALL.out
      have HCC := Lib.hid (HC.out.trans hcc)
      clear hcc htk
      obtain ⟨k0, k1, k2, k3, k4, k5, k6, k7, k8, k9, k10⟩ := cells11 H3.out.ev
      obtain ⟨yy0, yy1, yy2, yy3, yy4, yy5, yy6, yy7, yy8, yy9, yy10⟩ := cells11 H3.out.res
      obtain ⟨y0, y1, y2, y3, y4, y5, y6, y7, y8, y9, y10⟩ := frozen11 H3.out.res
      obtain ⟨o1, o2, o3⟩ := O0.out (w.heap.size + 1) (by omega)
      obtain ⟨p1, p2, p3⟩ := O0.out w.heap.size (Nat.le_refl _)
      have hrv : Rv wr { e with mv := mvV L } (.slice a6 n6 c6) (.slice a9 n9 c9) (.slice a k c) := by
        refine ⟨far_reads HFAR.out HR2.out.1 p1, far_reads HFAR.out HR2.out.2 p2, ?_⟩
        exact mreads_own HOWN.out (by show k = (mvV L).length; rw [mvV_len, HM.out])
      have hos : Off (w.heap.size + 1) (.slice a k c) := off_from (own_from HOWN.out) (by have := G2.out.top; omega)
      have HRV := Lib.hid hrv
      have HOS := Lib.hid hos
      clear hrv hos p1 p2 p3
      rcases HCASE.out with ⟨h0, rfl⟩ | ⟨h0, rfl⟩
      · have hN0 : (0 : Int) < (N : Int) := by omega
        have hne1 : (s.toList == []) = true := by simpa using h0
        have hne2 : s.toList.isEmpty = true := by simpa using h0
        clear h0
        go_wp2
        refine bodyPost_ret (two_out H3.out rfl rfl) rfl ?_
        exact ⟨_, _, _, _, ⟨isSl, isSl, isSl⟩, by rw [HCC.out]; rfl, fun _ => ⟨by rw [HE.out], two_rv HRV.out o1 o2 HOS.out, fun q hq h => ⟨h.1, h.2.1, off_from (own_from HOWN.out) (by have := G2.out.top; omega)⟩⟩, two_low H3.out⟩
      · clear h0
        go_wp2
        refine bodyPost_ret (two_out H3.out rfl rfl) rfl ?_
        exact ⟨_, _, _, _, ⟨isSl, isSl, isSl⟩, by rw [HCC.out]; rfl, fun _ => ⟨by rw [HE.out], two_rv HRV.out o1 o2 HOS.out, fun q hq h => ⟨h.1, h.2.1, off_from (own_from HOWN.out) (by have := G2.out.top; omega)⟩⟩, two_low H3.out⟩
theorem putField_any (e : Ev) (vd vs vm : Value) (f s : ByteArray) (w : World) (hr : Rv w e vd vs vm) (hs : s.size ≤ 30000) :
    Calls Tryz.prog 89 #[.agg (e.cells vd vs vm), .string f, .string s] w (PfPost e vd vs vm f s w) := by
  by_cases h1 : f.toList = [116, 105, 116, 108, 101]
  · exact pf_title e vd vs vm f s w hr h1
  by_cases h2 : f.toList = [115, 116, 97, 114, 116]
  · exact pf_start e vd vs vm f s w hr h1 h2
  by_cases h3 : f.toList = [108, 111, 110, 103]
  · exact pf_long e vd vs vm f s w hr hs h1 h2 h3
  by_cases h4 : f.toList = [114, 117, 108, 101]
  · exact pf_rule e vd vs vm f s w hr hs h1 h2 h3 h4
  by_cases h5 : f.toList = [115, 107, 105, 112, 115]
  · exact pf_skips e vd vs vm f s w hr hs h1 h2 h3 h4 h5
  by_cases h6 : f.toList = [109, 111, 118, 101, 115]
  · exact pf_moves e vd vs vm f s w hr hs h1 h2 h3 h4 h5 h6
  exact pf_none e vd vs vm f s w hr h1 h2 h3 h4 h5 h6
end Evt
end Go.Proofs.YtghkalamlcfnnaaGreatDoor
end
