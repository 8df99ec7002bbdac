/- A8, A9: texts joined. -/
import Derived.Test.YtghkalamlcfnnaaGreatDoorQA2
import Derived.Test.YtghkalamlcfnnaaGreatDoorQRuleText
import Derived.Test.YtghkalamlcfnnaaGreatDoorQA3
import Derived.Test.YtghkalamlcfnnaaGreatDoorQA1
import Derived.Test.YtghkalamlcfnnaaGreatDoorQA5
import Derived.Deep.QuietTactic
import Derived.BigQuiet
section
/- DayMore, Cand, CandLaw: texts joined. -/
section
/- Weekdays; months more. -/
namespace Go.Proofs.YtghkalamlcfnnaaGreatDoor
open Go.RowKit Lmd
namespace Day
set_option maxHeartbeats 400000 in
theorem week_yes (n : Int) (w : World) (h1 : 0 ≤ n) (h2 : n ≤ 73048) :
    Calls Tryz.prog 302 #[.int .i64 n] w fun e w' => e = .returned (.tuple #[.int .i64 ((n + 5) % 7), .nilIface]) ∧ w = w' := by
  go_enter Tryz.func302, Tryz.ntmps302
  go_wp2_with (go_at_call 113; refine (right_yes _ _ ⟨h1, h2⟩).mono ?_; rintro e w' ⟨rfl, rfl⟩)
  go_ret2
  exact ⟨rfl, rfl⟩

set_option maxHeartbeats 1000000 in
theorem add_yes (n y m d mo : Int) (w : World) (h : Cal.At n y m d) (m1 : -100000 ≤ mo) (m2 : mo ≤ 100000) (k0 : 0 ≤ Cal.kth y m mo) (ho : Cal.Ok (2000 + Cal.kth y m mo / 12) (Cal.kth y m mo % 12 + 1) d) :
    Calls Tryz.prog 280 #[.int .i64 n, .int .i64 mo] w fun e w' => e = .returned (.tuple #[.int .i64 (Cal.num (2000 + Cal.kth y m mo / 12) (Cal.kth y m mo % 12 + 1) d), .bool true]) ∧ ∃ k, w' = w.drewN k := by
  obtain ⟨a1, a2, a3, a4, a5, a6⟩ := Cal.ok_range h.1
  have k1 : ¬ 12 * (y - 2000) + m - 1 + mo < 0 := by unfold Cal.kth at k0; omega
  have e1 : Cal.kth y m mo = 12 * (y - 2000) + m - 1 + mo := rfl
  rw [e1] at ho ⊢
  clear e1 k0
  go_enter Tryz.func280, Tryz.ntmps280
  go_wp2_with (first | (go_at_call 196; refine (date_at _ _ _ _ _ h).mono ?_; rintro e w' ⟨rfl, rfl⟩) | (go_at_call 230; refine (make_ok _ _ _ _ ho).mono ?_; rintro e w' ⟨rfl, rfl⟩))
  go_quiet (fail)
  go_wp2
  go_ret2
  exact ⟨rfl, _, rfl⟩

set_option maxHeartbeats 1000000 in
theorem add_none (n y m d mo : Int) (ad : Addr) (w : World) (h : Cal.At n y m d) (m1 : -100000 ≤ mo) (m2 : mo ≤ 100000) (hk : Cal.addB (Cal.kth y m mo) d = false)
    (hc : w.cell? ⟨0, 0, none⟩ = some (.iface 348 (.pointer (some ad)))) :
    Calls Tryz.prog 280 #[.int .i64 n, .int .i64 mo] w fun e w' => e = .returned (.tuple #[.int .i64 0, .bool false]) ∧ ∃ k, w' = w.drewN k := by
  obtain ⟨a1, a2, a3, a4, a5, a6⟩ := Cal.ok_range h.1
  have e1 : Cal.kth y m mo = 12 * (y - 2000) + m - 1 + mo := rfl
  rcases Cal.addB_no hk with hk | ⟨hk, ho⟩
  · rw [e1] at hk
    clear e1
    go_enter Tryz.func280, Tryz.ntmps280
    go_wp2_with (go_at_call 196; refine (date_at _ _ _ _ _ h).mono ?_; rintro e w' ⟨rfl, rfl⟩)
    go_ret2
    exact ⟨rfl, 0, rfl⟩
  · rw [e1] at hk ho
    have k1 : ¬ 12 * (y - 2000) + m - 1 + mo < 0 := by omega
    clear e1 hk
    go_enter Tryz.func280, Tryz.ntmps280
    go_wp2_with (first | (go_at_call 196; refine (date_at _ _ _ _ _ h).mono ?_; rintro e w' ⟨rfl, rfl⟩) | (go_at_call 230; refine (make_err _ _ _ ad _ ho hc).mono ?_; rintro e w' ⟨rfl, k, rfl⟩))
    go_quiet (fail)
    go_wp2
    go_ret2
    exact ⟨rfl, _, drewN_add _ _ _⟩

/-- months more, at a day: whatever they lead to -/
theorem add_any (n y m d mo : Int) (ad : Addr) (w : World) (h : Cal.At n y m d) (m1 : -100000 ≤ mo) (m2 : mo ≤ 100000)
    (hc : w.cell? ⟨0, 0, none⟩ = some (.iface 348 (.pointer (some ad)))) :
    Calls Tryz.prog 280 #[.int .i64 n, .int .i64 mo] w fun e w' => e = .returned (.tuple #[.int .i64 (Cal.addV (Cal.kth y m mo) d), .bool (Cal.addB (Cal.kth y m mo) d)]) ∧ ∃ k, w' = w.drewN k := by
  cases hk : Cal.addB (Cal.kth y m mo) d with
  | true =>
    have := Cal.addB_yes hk
    rw [Cal.addV_yes hk]
    exact add_yes n y m d mo w h m1 m2 this.1 this.2
  | false =>
    rw [Cal.addV_no hk]
    exact add_none n y m d mo ad w h m1 m2 hk hc
end Day
end Go.Proofs.YtghkalamlcfnnaaGreatDoor
end

section
/- The candidates of a start and a rule: the iterator candidates$1 (in work). -/
namespace Go.Proofs.YtghkalamlcfnnaaGreatDoor
open Go Go.RowKit Go.Shelf Lmd
attribute [local go_sem] Oper.semAt_some
namespace Cand
open Rul

/-- the start's box and the rule's box -/
structure Boxes (w : World) (br bs : Nat) (start : Int) (r : Ru) (v : Value) : Prop where
  s : w.cell? ⟨bs, 0, none⟩ = some (.int .i64 start)
  r0 : w.cell? ⟨br, 0, none⟩ = some (.string r.fq)
  r1 : w.cell? ⟨br, 1, none⟩ = some (.int .i64 r.ev)
  r2 : w.cell? ⟨br, 2, none⟩ = some v
  r3 : w.cell? ⟨br, 3, none⟩ = some (.int .i64 r.ct)
  r4 : w.cell? ⟨br, 4, none⟩ = some (.int .i64 r.un)
  rd : Ints.Reads w v r.ds
/-- the iterator's captured variables -/
def lb (br bs : Nat) : Array Value := #[.pointer (some ⟨br, 0, none⟩), .pointer (some ⟨bs, 0, none⟩)]
/-- the caller's own blocks are none of these, and lie above a base -/
def Apart (base br bs : Nat) (v : Value) (O : Nat → Prop) : Prop := ¬ O br ∧ ¬ O bs ∧ (∀ b o n c, v = .slice (some ⟨b, o, none⟩) n c → n ≠ 0 → ¬ O b) ∧ ∀ b, O b → base ≤ b

/-- months of a step -/
def mulOf (fq : ByteArray) : Int := if fq.toList = [121, 101, 97, 114, 108, 121] then 12 else 1
theorem mulOf_yes {fq : ByteArray} (h : fq.toList = [121, 101, 97, 114, 108, 121]) : mulOf fq = 12 := if_pos h
theorem mulOf_no {fq : ByteArray} (h : ¬ fq.toList = [121, 101, 97, 114, 108, 121]) : mulOf fq = 1 := if_neg h
theorem months_any (fq : ByteArray) (w : World) : Calls Tryz.prog 279 #[.string fq] w fun e w' => e = .returned (.int .i64 (mulOf fq)) ∧ w' = w := by
  by_cases h : fq.toList = [121, 101, 97, 114, 108, 121]
  · rw [mulOf_yes h]
    go_enter Tryz.func279, Tryz.ntmps279
    go_wp2
    go_ret
    exact ⟨rfl, rfl⟩
  · rw [mulOf_no h]
    have hq : (fq.toList == [121, 101, 97, 114, 108, 121]) = false := by simpa using h
    clear h
    go_enter Tryz.func279, Tryz.ntmps279
    go_wp2
    go_ret
    exact ⟨rfl, rfl⟩

set_option maxRecDepth 100000 in
set_option maxHeartbeats 2000000 in
theorem once_seq (base br bs : Nat) (start : Int) (r : Ru) (v : Value) (w : World) (hB : Boxes w br bs start r v) (hf : r.fq = once) :
    Rng.Seq Tryz.prog 277 (lb br bs) (fun x : Int => #[.int .i64 x]) (Apart base br bs v) (fun xs => xs = [start]) (fun pre => pre = [start]) 1 w := by
  intro O l J Jx W hW hO _ _ hJ hJx hY h0
  refine (callsIn_wide (n := Rng.dp + 1)).1 ?_
  refine callsIn_of_wp Tryz.func277 rfl trivial ?_ rfl
  simp only [Tryz.ntmps277, lb, List.size_toArray, List.length_cons, List.length_nil, Nat.reduceAdd, Nat.reduceSub, Array.replicate_succ, Array.replicate_zero, List.push_toArray, List.append_toArray, List.nil_append, List.cons_append]
  have k0 := cell_later hW hB.r0
  have ks := cell_later hW hB.s
  rw [hf] at k0
  obtain ⟨f1, t1, a1, b1, hy1, hR1⟩ := hY W.heap.size [] start W (Nat.le_refl _) (h0 W (Below.refl _ _)) (by simp)
  dsimp only at hy1
  gi_wp2
  refine hR1.mono ?_
  rintro e W1 (⟨rfl, hJ1, hk1⟩ | ⟨rfl, hx1, hr1⟩)
  · gi_wp2
    go_end0
    exact ⟨⟨_, rfl⟩, W.heap.size, Nat.le_refl _, .inl ⟨[start], rfl, hJ1⟩⟩
  · gi_wp2
    go_end0
    exact ⟨⟨_, rfl⟩, W.heap.size, Nat.le_refl _, .inr ⟨[start], rfl, hx1⟩⟩

/-- what a loop 'for x := a; x <= hi; x += s' goes through -/
def steps (a s hi : Int) : List Int := (List.range ((hi - a) / s + 1).toNat).map fun (k : Nat) => a + s * (k : Int)
/-- .. up to the k-th -/
def upTo (a s : Int) (k : Nat) : List Int := (List.range k).map fun (k : Nat) => a + s * (k : Int)
theorem upTo_succ (a s : Int) (k : Nat) : upTo a s (k + 1) = upTo a s k ++ [a + s * k] := by simp [upTo, List.range_succ]
theorem upTo_len (a s : Int) (k : Nat) : (upTo a s k).length = k := by simp [upTo]
theorem steps_of {a s hi : Int} {k : Nat} (hs : 0 < s) (h1 : hi < a + s * k) (h2 : k = 0 ∨ a + s * ((k : Int) - 1) ≤ hi) : steps a s hi = upTo a s k := by
  have : ((hi - a) / s + 1).toNat = k := by
    have h3 : (hi - a) / s < k := Int.ediv_lt_of_lt_mul hs (by rw [Int.mul_comm]; omega)
    rcases h2 with rfl | h2
    · have : (hi - a) / s < 0 := h3
      omega
    · have h4 : (k : Int) - 1 ≤ (hi - a) / s := Int.le_ediv_of_mul_le hs (by rw [Int.mul_comm]; omega)
      omega
  rw [steps, this]; rfl

theorem upTo_pre (a s : Int) (m d : Nat) : upTo a s m <+: upTo a s (m + d) := by
  induction d with
  | zero => exact List.prefix_rfl
  | succ d ih => rw [← Nat.add_assoc, upTo_succ]; exact ih.trans (List.prefix_append _ _)
theorem steps_pre {a s hi : Int} {k : Nat} (hs : 0 < s) (h : a + s * k ≤ hi) : upTo a s (k + 1) <+: steps a s hi := by
  have h4 : (k : Int) ≤ (hi - a) / s := Int.le_ediv_of_mul_le hs (by rw [Int.mul_comm]; omega)
  obtain ⟨d, hd⟩ : ∃ d, ((hi - a) / s + 1).toNat = (k + 1) + d := ⟨((hi - a) / s + 1).toNat - (k + 1), by omega⟩
  have : steps a s hi = upTo a s ((k + 1) + d) := by rw [steps, hd]; rfl
  rw [this]
  exact upTo_pre _ _ _ _
theorem step_succ (a s : Int) (k : Nat) : a + s * ((k + 1 : Nat) : Int) = a + s * k + s := by rw [Int.natCast_add, Int.mul_add]; simp only [Int.natCast_one, Int.mul_one]; omega
theorem step_le {s : Int} (hs : 1 ≤ s) (k : Nat) : (k : Int) ≤ s * k := by
  have := Int.mul_le_mul_of_nonneg_right hs (Int.natCast_nonneg k)
  simpa using this

set_option maxRecDepth 100000 in
set_option maxHeartbeats 2000000 in
theorem daily_seq (base br bs : Nat) (start : Int) (r : Ru) (v : Value) (w : World) (hB : Boxes w br bs start r v) (hf : r.fq = daily) (hs0 : 0 ≤ start) (hs1 : start ≤ 73048) (he0 : 1 ≤ r.ev) (he1 : r.ev ≤ 100) :
    Rng.Seq Tryz.prog 277 (lb br bs) (fun x : Int => #[.int .i64 x]) (Apart base br bs v) (fun xs => xs = steps start r.ev 73048) (fun pre => pre <+: steps start r.ev 73048) 100000 w := by
  intro O l J Jx W hW hO _ _ hJ hJx hY h0
  refine (callsIn_wide (n := Rng.dp + 1)).1 ?_
  refine callsIn_of_wp Tryz.func277 rfl trivial ?_ rfl
  simp only [Tryz.ntmps277, lb, List.size_toArray, List.length_cons, List.length_nil, Nat.reduceAdd, Nat.reduceSub, Array.replicate_succ, Array.replicate_zero, List.push_toArray, List.append_toArray, List.nil_append, List.cons_append]
  have k0 := cell_later hW hB.r0
  have k1 := cell_later hW hB.r1
  have ks := cell_later hW hB.s
  rw [hf] at k0
  have HJ0 := Lib.hid (h0 W (Below.refl _ _))
  have HY := Lib.hid hY
  clear h0 hY
  have hbr := cell_lt k1
  gi_wp2
  gi_loopw [4] (fun p wr => ∃ k : Nat, p = .int .i64 (start + r.ev * k) ∧ (k = 0 ∨ start + r.ev * ((k : Int) - 1) ≤ 73048) ∧ Rng.Stay O W.heap.size W wr ∧ J W.heap.size (upTo start r.ev k) wr) (fun p _ => (73249 - intOf p).toNat)
  case atStart => exact ⟨0, by simp, Or.inl rfl, Rng.Stay.refl _ _ _, HJ0.out⟩
  case round =>
    obtain ⟨k, rfl, hk, hst, hj⟩ := hrel
    have hkl := step_le he0 k
    have hnn : (0 : Int) ≤ r.ev * k := by omega
    obtain ⟨x, hx⟩ : ∃ x, start + r.ev * (k : Int) = x := ⟨_, rfl⟩
    have hx0 : 0 ≤ x := by omega
    have HX := Lib.hid hx
    have HS := Lib.hid hst
    have HJ1 := Lib.hid hj
    have HK := Lib.hid hk
    have HKL := Lib.hid hkl
    rw [hx]
    clear hx hst hj hk hkl hnn
    by_cases hle : x ≤ 73048
    · obtain ⟨f1, t1, a1, b1, hy1, hR1⟩ := HY.out W.heap.size (upTo start r.ev k) x _ (Nat.le_refl _) HJ1.out (by rw [upTo_len]; have := HX.out; have := HKL.out; omega)
      gi_wp2
      refine hR1.mono ?_
      rintro e W1 (⟨rfl, hJ1, hk1⟩ | ⟨rfl, hx1, hr1⟩)
      · have k1' := stay_cell (HS.out.trans hk1) k1 hO.1 hbr
        have HJ2 := Lib.hid hJ1
        have HK1 := Lib.hid hk1
        clear hJ1 hk1
        gi_wp2
        go_roundw
        case rel => exact ⟨k + 1, by rw [step_succ, HX.out], Or.inr (by rw [show ((k + 1 : Nat) : Int) - 1 = k by omega, HX.out]; exact hle), HS.out.trans HK1.out, by rw [upTo_succ, HX.out]; exact HJ2.out⟩
        case measure => simp [intOf]; omega
      · gi_wp2
        go_end0
        exact ⟨⟨_, rfl⟩, W.heap.size, Nat.le_refl _, .inr ⟨upTo start r.ev k ++ [x], by rw [← HX.out, ← upTo_succ]; exact steps_pre (by omega) (by rw [HX.out]; exact hle), hx1⟩⟩
    · gi_wp2
      refine ⟨fun _ h => (by cases h), ?_⟩
      gi_wp2
      go_end0
      exact ⟨⟨_, rfl⟩, W.heap.size, Nat.le_refl _, .inl ⟨upTo start r.ev k, (steps_of (by omega) (by rw [HX.out]; omega) HK.out).symm, HJ1.out⟩⟩

/-- a candidate of k months more, if there is one -/
def monC (y m d k : Int) : List Int := if Cal.addB (Cal.kth y m k) d then [Cal.addV (Cal.kth y m k) d] else []
def monTo (y m d s : Int) (k : Nat) : List Int := (upTo 0 s k).flatMap (monC y m d)
def mons (y m d s : Int) : List Int := (steps 0 s 2400).flatMap (monC y m d)
theorem monTo_succ (y m d s : Int) (k : Nat) : monTo y m d s (k + 1) = monTo y m d s k ++ monC y m d (0 + s * k) := by simp [monTo, upTo_succ]
theorem monTo_len (y m d s : Int) (k : Nat) : (monTo y m d s k).length ≤ k := by
  induction k with
  | zero => simp [monTo, upTo]
  | succ k ih =>
    rw [monTo_succ, List.length_append]
    have : (monC y m d (0 + s * k)).length ≤ 1 := by unfold monC; split <;> simp
    omega
theorem mons_pre {y m d s : Int} {k : Nat} (hs : 0 < s) (h : 0 + s * k ≤ 2400) : monTo y m d s (k + 1) <+: mons y m d s := by
  obtain ⟨t, ht⟩ := steps_pre hs h
  exact ⟨t.flatMap (monC y m d), by rw [mons, ← ht, List.flatMap_append]; rfl⟩

end Cand
end Go.Proofs.YtghkalamlcfnnaaGreatDoor
end

section
/- Plain facts on the candidates of a rule: they rise; the days of them up to an end and a count; the n-th one. No program stands here. -/
namespace Lmd.Cal
/-- a later month of the same day of the month is a later day -/
theorem num_lt {y m d y' m' d' : Int} (h : Ok y m d) (h' : Ok y' m' d') (hl : y < y' ∨ y = y' ∧ (m < m' ∨ m = m' ∧ d < d')) : num y m d < num y' m' d' := by
  obtain ⟨a, b, c, f, g, _⟩ := ok_range h
  obtain ⟨a', b', c', f', g', _⟩ := ok_range h'
  have h2 := h.2
  have h2' := h'.2
  rw [mon_in a b c f] at h2
  rw [mon_in a' b' c' f'] at h2'
  have hc := cum_bd y m c (by omega)
  have hc' := cum_bd y' m' c' (by omega)
  have hs := cum_succ y m c f
  have hm := cum_mono y (m + 1) 13 (by omega) (by omega) (by omega)
  have hl2 := cum_last y
  have hy := yrs_succ y a
  unfold num
  rcases hl with l | ⟨rfl, l | ⟨rfl, l⟩⟩
  · have := yrs_mono (a := y + 1) (b := y') (by omega) (by omega); omega
  · have := cum_mono y (m + 1) m' (by omega) (by omega) (by omega); omega
  · omega
theorem addV_lt {k k' d : Int} (h : addB k d = true) (h' : addB k' d = true) (hk : k < k') : addV k d < addV k' d := by
  rw [addV_yes h, addV_yes h']
  exact num_lt (addB_yes h).2 (addB_yes h').2 (by omega)
end Lmd.Cal
namespace Go.Proofs.YtghkalamlcfnnaaGreatDoor
open Go Go.RowKit Lmd
namespace Cand
open Rul

theorem steps_mem {a s hi x : Int} (hs : 0 < s) : x ∈ steps a s hi ↔ a ≤ x ∧ x ≤ hi ∧ (x - a) % s = 0 := by
  simp only [steps, List.mem_map, List.mem_range]
  constructor
  · rintro ⟨k, hk, rfl⟩
    have h1 : (k : Int) ≤ (hi - a) / s := by omega
    have h2 : s * k ≤ hi - a := by rw [Int.mul_comm]; exact Int.mul_le_of_le_ediv hs h1
    have h3 : 0 ≤ s * (k : Int) := Int.mul_nonneg (by omega) (by omega)
    refine ⟨by omega, by omega, ?_⟩
    rw [show a + s * (k : Int) - a = s * k by omega]
    exact Int.mul_emod_right s k
  · rintro ⟨h1, h2, h3⟩
    have e := Int.emod_add_mul_ediv (x - a) s
    have h4 : 0 ≤ (x - a) / s := Int.ediv_nonneg (by omega) (by omega)
    have h5 : (x - a) / s ≤ (hi - a) / s := Int.ediv_le_ediv hs (by omega)
    refine ⟨((x - a) / s).toNat, by omega, ?_⟩
    rw [show ((((x - a) / s).toNat : Nat) : Int) = (x - a) / s by omega]
    omega
theorem steps_rise {a s hi : Int} (hs : 0 < s) : (steps a s hi).Pairwise (· < ·) := by
  rw [steps, List.pairwise_map]
  refine List.Pairwise.imp ?_ List.pairwise_lt_range
  intro i j h
  have : s * (i : Int) < s * (j : Int) := Int.mul_lt_mul_of_pos_left (by omega) hs
  omega
/-- .. and each is a step above those ahead of it -/
theorem steps_far {a s hi : Int} (hs : 0 < s) : (steps a s hi).Pairwise (fun x y => x + s ≤ y) := by
  rw [steps, List.pairwise_map]
  refine List.Pairwise.imp ?_ List.pairwise_lt_range
  intro i j h
  have : s * ((i : Int) + 1) ≤ s * (j : Int) := Int.mul_le_mul_of_nonneg_left (by omega) (by omega)
  have h2 : s * ((i : Int) + 1) = s * i + s := by rw [Int.mul_add, Int.mul_one]
  omega
theorem mons_rise {y m d s : Int} (hs : 0 < s) : (mons y m d s).Pairwise (· < ·) := by
  rw [mons, List.pairwise_flatMap]
  constructor
  · intro k _
    unfold monC
    split <;> simp
  · refine (steps_rise hs).imp ?_
    intro k k' hk x hx z hz
    unfold monC at hx hz
    split at hx
    · rename_i h1
      split at hz
      · rename_i h2
        simp at hx hz
        subst hx; subst hz
        exact Cal.addV_lt h1 h2 (by unfold Cal.kth; omega)
      · simp at hz
    · simp at hx

/-- a week's candidates, from its Monday on -/
def wkC (start : Int) (ds : List Int) (monday : Int) : List Int := (ds.map (monday + ·)).filter fun x => decide (start ≤ x ∧ x ≤ 73048)
/-- the weeks' candidates: w the start's weekday -/
def wks (start w ev : Int) (ds : List Int) : List Int := (steps (start - w) (7 * ev) 73048).flatMap (wkC start ds)
def wksTo (start w ev : Int) (ds : List Int) (k : Nat) : List Int := (upTo (start - w) (7 * ev) k).flatMap (wkC start ds)
theorem wksTo_succ (start w ev : Int) (ds : List Int) (k : Nat) : wksTo start w ev ds (k + 1) = wksTo start w ev ds k ++ wkC start ds (start - w + 7 * ev * k) := by simp [wksTo, upTo_succ]
theorem wkC_len (start : Int) (ds : List Int) (m : Int) : (wkC start ds m).length ≤ ds.length := by
  unfold wkC; exact Nat.le_trans (List.length_filter_le _ _) (by simp)
theorem wksTo_len (start w ev : Int) (ds : List Int) (k : Nat) : (wksTo start w ev ds k).length ≤ ds.length * k := by
  induction k with
  | zero => simp [wksTo, upTo]
  | succ k ih =>
    rw [wksTo_succ, List.length_append, Nat.mul_succ]
    have := wkC_len start ds (start - w + 7 * ev * k)
    omega
theorem wkC_rise {start m : Int} {ds : List Int} (h : ds.Pairwise (· < ·)) : (wkC start ds m).Pairwise (· < ·) := by
  unfold wkC
  refine List.Pairwise.filter _ ?_
  rw [List.pairwise_map]
  exact h.imp fun h => by omega
theorem wkC_mem {start m x : Int} {ds : List Int} : x ∈ wkC start ds m ↔ x - m ∈ ds ∧ start ≤ x ∧ x ≤ 73048 := by
  unfold wkC
  simp only [List.mem_filter, List.mem_map, decide_eq_true_eq]
  constructor
  · rintro ⟨⟨k, hk, rfl⟩, h⟩
    exact ⟨by rw [show m + k - m = k by omega]; exact hk, h⟩
  · rintro ⟨hk, h⟩
    exact ⟨⟨x - m, hk, by omega⟩, h⟩
theorem wks_rise {start w ev : Int} {ds : List Int} (he : 1 ≤ ev) (h : ds.Pairwise (· < ·)) (hd : ∀ d ∈ ds, 0 ≤ d ∧ d ≤ 6) : (wks start w ev ds).Pairwise (· < ·) := by
  rw [wks, List.pairwise_flatMap]
  constructor
  · intro k _; exact wkC_rise h
  · refine (steps_far (by omega)).imp ?_
    intro k k' hk x hx z hz
    have h1 := hd _ (wkC_mem.1 hx).1
    have h2 := hd _ (wkC_mem.1 hz).1
    omega
/-- the candidates of a start (its date y m d) and a rule -/
def wdays (start : Int) (ds : List Int) : List Int := if ds = [] then [(start + 5) % 7] else ds
def cands (start y m d : Int) (r : Ru) : List Int :=
  if r.fq.toList = [111, 110, 99, 101] then [start] else if r.fq.toList = [100, 97, 105, 108, 121] then steps start r.ev 73048
  else if r.fq.toList = [119, 101, 101, 107, 108, 121] then wks start ((start + 5) % 7) r.ev (wdays start r.ds) else mons y m d (r.ev * mulOf r.fq)

/-- may a day stand under an end -/
def under (un x : Int) : Bool := decide (un = -1 ∨ x ≤ un)
/-- the days of candidates: up to the end, and no more than the count -/
def daysOf (ct un : Int) (c : List Int) : List Int := if 0 < ct then (c.takeWhile (under un)).take ct.toNat else c.takeWhile (under un)
/-- no day of these is the one that stops -/
def Goes (ct un : Int) (p : List Int) : Prop := (0 < ct → (p.length : Int) ≤ ct) ∧ ∀ x ∈ p, under un x = true
/-- the day that stops, behind n -/
def stopB (ct un : Int) (n : Nat) (x : Int) : Bool := decide (0 < ct ∧ (n : Int) = ct) || !under un x
theorem goes_nil (ct un : Int) : Goes ct un [] := ⟨fun h => by simp; omega, by simp⟩
theorem goes_snoc {ct un x : Int} {p : List Int} (h : Goes ct un p) (hs : stopB ct un p.length x = false) : Goes ct un (p ++ [x]) := by
  simp only [stopB, Bool.or_eq_false_iff, decide_eq_false_iff_not, Bool.not_eq_false'] at hs
  refine ⟨fun h0 => ?_, fun z hz => ?_⟩
  · have := h.1 h0
    have : ¬ (p.length : Int) = ct := fun e => hs.1 ⟨h0, e⟩
    simp; omega
  · rcases List.mem_append.1 hz with hz | hz
    · exact h.2 z hz
    · simp at hz; subst hz; exact hs.2
theorem daysOf_goes {ct un : Int} {p t : List Int} (h : Goes ct un p) : daysOf ct un (p ++ t) = p ++ (if 0 < ct then (t.takeWhile (under un)).take (ct.toNat - p.length) else t.takeWhile (under un)) := by
  unfold daysOf
  rw [List.takeWhile_append_of_pos h.2]
  split
  · rename_i h0
    have := h.1 h0
    rw [List.take_append, List.take_of_length_le (by omega)]
  · rfl
theorem days_done {ct un : Int} {c : List Int} (h : Goes ct un c) : daysOf ct un c = c := by
  have := daysOf_goes (t := []) h
  simpa using this
theorem days_stop {ct un x : Int} {p c : List Int} (h : Goes ct un p) (hp : p ++ [x] <+: c) (hs : stopB ct un p.length x = true) : daysOf ct un c = p := by
  obtain ⟨t, rfl⟩ := hp
  rw [List.append_assoc, daysOf_goes h]
  simp only [stopB, Bool.or_eq_true, decide_eq_true_eq, Bool.not_eq_true'] at hs
  by_cases hu : under un x = true
  · rcases hs with ⟨h0, hn⟩ | hs
    · rw [if_pos h0, show ct.toNat - p.length = 0 by omega]; simp
    · rw [hu] at hs; cases hs
  · simp [hu]
theorem days_pre {ct un : Int} {p c : List Int} (h : Goes ct un p) (hp : p <+: c) : p <+: daysOf ct un c := by
  obtain ⟨t, rfl⟩ := hp
  rw [daysOf_goes h]
  exact List.prefix_append _ _
theorem daysOf_sub (ct un : Int) (c : List Int) : (daysOf ct un c).Sublist c := by
  unfold daysOf
  split
  · exact (List.take_sublist _ _).trans (List.takeWhile_sublist _)
  · exact List.takeWhile_sublist _

theorem days_in {xs : List Int} (h : daysB xs = true) : ∀ d ∈ xs, 0 ≤ d ∧ d ≤ 6 := by
  intro d hd
  unfold daysB at h
  rw [List.all_eq_true] at h
  simpa [inB] using h d hd
theorem cands_rise {start y m d : Int} {r : Ru} (he : 1 ≤ r.ev) (h1 : riseB r.ds = true) (h2 : daysB r.ds = true) : (cands start y m d r).Pairwise (· < ·) := by
  unfold cands
  split
  · simp
  · split
    · exact steps_rise (by omega)
    · split
      · refine wks_rise he ?_ ?_
        · unfold wdays; split
          · simp
          · exact rise_pairwise h1
        · unfold wdays; split
          · intro x hx; simp at hx; omega
          · exact days_in h2
      · refine mons_rise ?_
        have : 1 ≤ mulOf r.fq := by unfold mulOf; split <;> omega
        have := Int.mul_le_mul he this (by omega) (by omega)
        omega
theorem wdays_len {start : Int} {ds : List Int} (h1 : riseB ds = true) (h2 : daysB ds = true) : (wdays start ds).length ≤ 7 := by
  unfold wdays
  split
  · simp
  · have hp := rise_pairwise h1
    have hd := days_in h2
    have : ∀ (xs : List Int) (a : Int), xs.Pairwise (· < ·) → (∀ d ∈ xs, a ≤ d ∧ d ≤ 6) → a ≤ 7 → (xs.length : Int) ≤ 7 - a := by
      intro xs
      induction xs with
      | nil => intro a _ _ _; simp; omega
      | cons x xs ih =>
        intro a hp hd ha
        have hx := hd x (by simp)
        have := ih (x + 1) (List.pairwise_cons.1 hp).2 (fun d hm => ⟨by have := (List.pairwise_cons.1 hp).1 d hm; omega, (hd d (by simp [hm])).2⟩) (by omega)
        simp; omega
    have := this ds 0 hp hd (by omega)
    omega

/-- is a day one of a rising list: the first one that is not below it -/
def isB (l : List Int) (d : Int) : Bool := match l.find? (fun x => decide (d ≤ x)) with | some x => decide (x = d) | none => false
theorem isB_iff {l : List Int} (h : l.Pairwise (· < ·)) (d : Int) : isB l d = true ↔ d ∈ l := by
  unfold isB
  induction l with
  | nil => simp
  | cons x xs ih =>
    rw [List.find?_cons]
    have hp := List.pairwise_cons.1 h
    by_cases hd : d ≤ x
    · simp only [hd, decide_true]
      constructor
      · intro e; simp at e; simp [e]
      · intro e
        rcases List.mem_cons.1 e with e | e
        · simp [e]
        · have := hp.1 d e; omega
    · simp only [hd, decide_false]
      rw [ih hp.2]
      constructor
      · intro e; exact List.mem_cons_of_mem _ e
      · intro e
        rcases List.mem_cons.1 e with e | e
        · omega
        · exact e

/-- candidates lie from the start on, up to the last day -/
theorem cands_bd {start y m d : Int} {r : Ru} (ha : Cal.At start y m d) (he : 1 ≤ r.ev) : ∀ x ∈ cands start y m d r, start ≤ x ∧ x ≤ 73048 := by
  intro x hx
  have hb := Cal.at_bd ha
  unfold cands at hx
  split at hx
  · simp at hx; omega
  · split at hx
    · have := (steps_mem (by omega)).1 hx; omega
    · split at hx
      · rw [wks, List.mem_flatMap] at hx
        obtain ⟨k, hk, hx⟩ := hx
        have := wkC_mem.1 hx; omega
      · rw [mons, List.mem_flatMap] at hx
        obtain ⟨k, hk, hx⟩ := hx
        have : 1 ≤ mulOf r.fq := by unfold mulOf; split <;> omega
        have := Int.mul_le_mul he this (by omega) (by omega)
        have hk2 := (steps_mem (by omega)).1 hk
        unfold monC at hx
        split at hx
        · rename_i hB
          simp at hx
          subst hx
          refine ⟨?_, (Cal.addV_bd _ _).2⟩
          obtain ⟨q1, q2⟩ := ha
          have hr := Cal.ok_range q1
          rw [Cal.addV_yes hB, ← q2]
          by_cases hz : k = 0
          · subst hz
            have := Cal.kth_self (y := y) hr.2.2.1 hr.2.2.2.1
            rw [this.1, this.2]; omega
          · exact Int.le_of_lt (Cal.num_lt q1 (Cal.addB_yes hB).2 (by unfold Cal.kth; omega))
        · simp at hx

end Cand
end Go.Proofs.YtghkalamlcfnnaaGreatDoor
end
end

section
/- Weekly, CandMonths, All, ExpLaw: texts joined. -/
section
/- The candidates by weeks: the function weekly, which calls yield. -/
namespace Go.Proofs.YtghkalamlcfnnaaGreatDoor
open Go Go.RowKit Go.Shelf Lmd
attribute [local go_sem] Oper.semAt_some
namespace Cand
open Rul Day

theorem wkC_take {start M : Int} {ds : List Int} {i : Nat} (h : i < ds.length) : wkC start (ds.take (i + 1)) M = wkC start (ds.take i) M ++ (if start ≤ M + Ints.el ds i ∧ M + Ints.el ds i ≤ 73048 then [M + Ints.el ds i] else []) := by
  rw [Ints.el_lt h]
  unfold wkC
  rw [List.take_succ_eq_append_getElem h, List.map_append, List.filter_append]
  congr 1
  simp only [List.map_cons, List.map_nil, List.filter_cons, List.filter_nil, decide_eq_true_eq]
theorem wkC_yes {start M y : Int} {ds : List Int} {i : Nat} (h : i < ds.length) (hy : Ints.el ds i = y) (h1 : start ≤ M + y ∧ M + y ≤ 73048) : wkC start (ds.take (i + 1)) M = wkC start (ds.take i) M ++ [M + y] := by rw [wkC_take h, hy, if_pos h1]
theorem wkC_no {start M y : Int} {ds : List Int} {i : Nat} (h : i < ds.length) (hy : Ints.el ds i = y) (h1 : ¬ (start ≤ M + y ∧ M + y ≤ 73048)) : wkC start (ds.take (i + 1)) M = wkC start (ds.take i) M := by rw [wkC_take h, hy, if_neg h1, List.append_nil]
theorem wks_pre {start w ev M : Int} {ds : List Int} {k i : Nat} (he : 1 ≤ ev) (hM : start - w + 7 * ev * k = M) (h : M ≤ 73048) : wksTo start w ev ds k ++ wkC start (ds.take i) M <+: wks start w ev ds := by
  obtain ⟨t, ht⟩ := steps_pre (a := start - w) (s := 7 * ev) (hi := 73048) (k := k) (by omega) (by omega)
  have h2 : wks start w ev ds = wksTo start w ev ds k ++ wkC start ds M ++ t.flatMap (wkC start ds) := by
    rw [wks, ← ht, List.flatMap_append, upTo_succ, List.flatMap_append, hM]
    simp [wksTo]
  have h3 : wkC start ds M = wkC start (ds.take i) M ++ wkC start (ds.drop i) M := by
    unfold wkC
    rw [← List.filter_append, ← List.map_append, List.take_append_drop]
  rw [h2, h3]
  exact ⟨wkC start (ds.drop i) M ++ t.flatMap (wkC start ds), by simp⟩
theorem wks_done {start w ev : Int} {ds : List Int} {k : Nat} (he : 1 ≤ ev) (h1 : 73048 < start - w + 7 * ev * k) (h2 : k = 0 ∨ start - w + 7 * ev * ((k : Int) - 1) ≤ 73048) : wks start w ev ds = wksTo start w ev ds k := by
  rw [wks, steps_of (by omega) h1 h2]; rfl

set_option maxRecDepth 100000 in
set_option maxHeartbeats 4000000 in
theorem weekly_seq (start : Int) (r : Ru) (v : Value) (w : World) (hs0 : 0 ≤ start) (hs1 : start ≤ 73048) (he0 : 1 ≤ r.ev) (he1 : r.ev ≤ 100) (hr : Ints.Reads w v r.ds)
    (hl : (wdays start r.ds).length ≤ 7) (hd : ∀ d ∈ wdays start r.ds, 0 ≤ d ∧ d ≤ 6)
    (O : Nat → Prop) (l : Nat) (J Jx : Nat → List Int → World → Prop) (W : World) (hW : Below w.heap.size w W) (hO : ∀ b o n c, v = .slice (some ⟨b, o, none⟩) n c → n ≠ 0 → ¬ O b) (hOb : ∀ b, O b → b < W.heap.size)
    (hY : ∀ hi pre x W1, W.heap.size ≤ hi → J hi pre W1 → pre.length < 100000 → YieldAt Fence.wide Rng.dp Tryz.prog l #[.int .i64 x] W1 fun e W' =>
      (e = .returned (.bool true) ∧ J hi (pre ++ [x]) W' ∧ Rng.Stay O hi W1 W') ∨ (e = .returned (.bool false) ∧ Jx hi (pre ++ [x]) W' ∧ Rng.Rest W.heap.size W1 W'))
    (h0 : ∀ W', Below W.heap.size W W' → J W'.heap.size [] W') :
    Calls Tryz.prog 278 #[.int .i64 start, r.val v, .func (.yield l) #[] #[]] W fun e W' => (∃ v, e = .returned v) ∧ ∃ hi, W.heap.size ≤ hi ∧ ((∃ xs, xs = wks start ((start + 5) % 7) r.ev (wdays start r.ds) ∧ J hi xs W') ∨ (∃ pre, pre <+: wks start ((start + 5) % 7) r.ev (wdays start r.ds) ∧ Jx hi pre W')) := by
  have hweek := fun w => week_yes start w hs0 hs1
  have hrW : Ints.Reads W v r.ds := hr.below hW
  obtain ⟨wd, hwd⟩ : ∃ wd, (start + 5) % 7 = wd := ⟨_, rfl⟩
  obtain ⟨ds, hds⟩ : ∃ ds, wdays start r.ds = ds := ⟨_, rfl⟩
  have hwdays : ds = if r.ds = [] then [wd] else r.ds := by rw [← hds, ← hwd]; rfl
  rw [hds] at hl hd ⊢
  rw [hwd] at hweek ⊢
  have hwd0 : 0 ≤ wd := by omega
  have hwd6 : wd ≤ 6 := by omega
  have HW := Lib.hid hweek
  have HY := Lib.hid hY
  have HH := Lib.hid h0
  have HD := Lib.hid hd
  have HO := Lib.hid hO
  have HOb := Lib.hid hOb
  have HWD := Lib.hid hwdays
  have HWB := Lib.hid hW
  have HRW := Lib.hid hrW
  clear hweek hY h0 hd hO hOb hwdays hW hrW hr hwd hds
  obtain ⟨fq, ev, ct, un, rds⟩ := r
  simp only [Ru.val] at *
  refine (callsIn_wide (n := Rng.dp + 1)).1 ?_
  refine callsIn_of_wp Tryz.func278 rfl trivial ?_ rfl
  simp only [Tryz.ntmps278, List.size_toArray, List.length_cons, List.length_nil, Nat.reduceAdd, Nat.reduceSub, Array.replicate_succ, Array.replicate_zero, List.push_toArray, List.append_toArray, List.nil_append, List.cons_append]
  by_cases hnil : rds = []
  · have hds1 : ds = [wd] := by rw [HWD.out, if_pos hnil]
    subst hnil
    obtain ⟨a, c, rfl⟩ := HRW.out.shape
    gi_wp2_with (refine ⟨trivial, ?_⟩; gi_at_call 302; refine (callsIn_wide.2 (HW.out _)).mono ?_; rintro e w1 ⟨rfl, rfl⟩)
    have hdl : ds.length = 1 := by rw [hds1]; rfl
    obtain ⟨W2, hW2⟩ : ∃ W2, (W.alloc (.cells #[.string fq, .int .i64 ev, .slice a 0 c, .int .i64 ct, .int .i64 un] 37)).alloc (.cells #[.int .i64 wd] 3) = W2 := ⟨_, rfl⟩
    have hB2 : Below W.heap.size W W2 := by rw [← hW2]; exact ((Below.refl _ W).alloc (Nat.le_refl _) _).alloc (by simp) _
    have hz2 : W2.heap.size = W.heap.size + 2 := by rw [← hW2]; simp
    have k1 : W2.cell? ⟨W.heap.size, 1, none⟩ = some (.int .i64 ev) := by
      rw [← hW2]; exact cell_of ((Below.heap_alloc _ _ _ (by simp)).trans (heap_new W _)) rfl
    have hdc : ∀ i, i < ds.length → W2.cell? ⟨W.heap.size + 1, i, none⟩ = some (.int .i64 (Ints.el ds i)) := fun i hi => by
      obtain rfl : i = 0 := by omega
      have h1 := heap_new (W.alloc (.cells #[.string fq, .int .i64 ev, .slice a 0 c, .int .i64 ct, .int .i64 un] 37)) (.cells #[.int .i64 wd] 3)
      rw [World.size_alloc] at h1
      rw [← hW2, hds1]; exact cell_of h1 rfl
    have hdO : ¬ O (W.heap.size + 1) := fun h => by have := HOb.out _ h; omega
    have hdb : W.heap.size + 1 < W2.heap.size := by omega
    rw [hW2]
    clear hW2 hds1
    have hbO : ¬ O W.heap.size := fun h => by have := HOb.out _ h; omega
    have hbz : W.heap.size < W2.heap.size := by omega
    have HJ0 := Lib.hid (HH.out W2 hB2)
    have HB2 := Lib.hid hB2
    have HDC := Lib.hid hdc
    clear HH hB2 hdc HOb HWD
    gi_loopw [9] (fun p wr => ∃ k : Nat, p = .int .i64 (start - wd + 7 * ev * (k : Int)) ∧ (k = 0 ∨ start - wd + 7 * ev * ((k : Int) - 1) ≤ 73048) ∧ Rng.Stay O W2.heap.size W2 wr ∧ J W2.heap.size (wksTo start wd ev ds k) wr) (fun p _ => (74000 - intOf p).toNat)
    case atStart => exact ⟨0, by simp, Or.inl rfl, Rng.Stay.refl _ _ _, HJ0.out⟩
    case round =>
      obtain ⟨k, rfl, hk, hst, hj⟩ := hrel
      have hkl : 7 * (k : Int) ≤ 7 * ev * (k : Int) := Int.mul_le_mul_of_nonneg_right (by omega) (Int.natCast_nonneg k)
      obtain ⟨M, hM⟩ : ∃ M, start - wd + 7 * ev * (k : Int) = M := ⟨_, rfl⟩
      have hM0 : -6 ≤ M := by omega
      have hk7 : 7 * (k : Int) ≤ M + 6 := by omega
      have hlen := wksTo_len start wd ev ds k
      have hlen2 : ds.length * k ≤ 7 * k := Nat.mul_le_mul_right k hl
      have hn1 : (wksTo start wd ev ds k).length ≤ 7 * k := Nat.le_trans hlen hlen2
      have HX := Lib.hid hM
      have HS := Lib.hid hst
      have HJ1 := Lib.hid hj
      have HK := Lib.hid hk
      have HN := Lib.hid hn1
      have HK7 := Lib.hid hk7
      rw [hM]
      clear hM hst hj hk hn1 hlen hlen2 hkl hk7
      by_cases hle : M ≤ 73048
      · gi_wp2
        gi_loopw [39] (fun p wr2 => ∃ i : Nat, i ≤ ds.length ∧ p = .int .i64 (i : Int) ∧ Rng.Stay O W2.heap.size W2 wr2 ∧ J W2.heap.size (wksTo start wd ev ds k ++ wkC start (ds.take i) M) wr2) (fun p _ => ds.length - (intOf p).toNat)
        case atStart => exact ⟨0, Nat.zero_le _, rfl, HS.out, by simpa [wkC] using HJ1.out⟩
        case round =>
          obtain ⟨i, hi, rfl, hst2, hj2⟩ := hrel
          have HS2 := Lib.hid hst2
          have HJ2 := Lib.hid hj2
          clear hst2 hj2
          by_cases hil : i < ds.length
          · obtain ⟨y, hy⟩ : ∃ y, Ints.el ds i = y := ⟨_, rfl⟩
            have hyb := HD.out y (by rw [← hy, Ints.el_lt hil]; exact List.getElem_mem _)
            have hcell := stay_cell HS2.out (HDC.out i hil) hdO hdb
            rw [hy] at hcell
            have HEL := Lib.hid hy
            obtain ⟨hy0, hy6⟩ := hyb
            clear hy
            by_cases hge : start ≤ M + y
            · by_cases hle2 : M + y ≤ 73048
              · obtain ⟨f1, t1, a1, b1, hy1, hR1⟩ := HY.out W2.heap.size (wksTo start wd ev ds k ++ wkC start (ds.take i) M) (M + y) _ (by omega) HJ2.out (by
                  have h1 := HN.out
                  have h2 := HK7.out
                  have h3 := wkC_len start (ds.take i) M
                  have h4 : (ds.take i).length ≤ ds.length := List.length_take_le' _ _
                  rw [List.length_append]; omega)
                gi_wp2
                refine hR1.mono ?_
                rintro e W1 (⟨rfl, hJ3, hk3⟩ | ⟨rfl, hx3, hr3⟩)
                · have HJ3 := Lib.hid hJ3
                  have HK3 := Lib.hid hk3
                  clear hJ3 hk3
                  gi_wp2
                  go_roundw
                  case rel => exact ⟨i + 1, by omega, by simp, HS2.out.trans HK3.out, by rw [wkC_yes hil HEL.out ⟨hge, hle2⟩, ← List.append_assoc]; exact HJ3.out⟩
                  case measure => simp [intOf]; omega
                · gi_wp2
                  refine bodyPost_ret (results_none rfl _ _ _) rfl ?_
                  exact ⟨⟨_, rfl⟩, W2.heap.size, by omega, .inr ⟨_, by
                    have := wks_pre (i := i + 1) (ds := ds) he0 HX.out hle
                    rw [wkC_yes hil HEL.out ⟨hge, hle2⟩, ← List.append_assoc] at this
                    exact this, hx3⟩⟩
              · gi_wp2
                refine ⟨fun _ h => (by cases h), ?_⟩
                gi_wp2
                go_roundw
                case rel => exact ⟨i + 1, by omega, by simp, HS2.out, by rw [wkC_no hil HEL.out (fun h => by have := h.2; omega)]; exact HJ2.out⟩
                case measure => simp [intOf]; omega
            · gi_wp2
              refine ⟨fun _ h => (by cases h), ?_⟩
              gi_wp2
              go_roundw
              case rel => exact ⟨i + 1, by omega, by simp, HS2.out, by rw [wkC_no hil HEL.out (fun h => by have := h.1; omega)]; exact HJ2.out⟩
              case measure => simp [intOf]; omega
          · have hie : i = ds.length := by omega
            have k1' := stay_cell HS2.out k1 hbO hbz
            gi_wp2
            go_roundw
            case rel => exact ⟨k + 1, by rw [step_succ, HX.out], Or.inr (by rw [show ((k + 1 : Nat) : Int) - 1 = k by omega, HX.out]; exact hle), HS2.out, by
              have := HJ2.out
              rw [hie, List.take_length] at this
              rw [wksTo_succ, HX.out]; exact this⟩
            case measure => simp [intOf]; omega
      · gi_wp2
        go_end0
        exact ⟨⟨_, rfl⟩, W2.heap.size, by omega, .inl (by rw [wks_done he0 (by rw [HX.out]; omega) HK.out]; exact HJ1.out)⟩
  · have hds1 : ds = rds := by rw [HWD.out, if_neg hnil]
    subst hds1
    obtain ⟨a, c, rfl⟩ := HRW.out.shape
    obtain ⟨_, db, doff, rfl, hcell⟩ := HRW.out.at hnil
    have hq : ((ds.length : Int) == 0) = false := by
      have : ds.length ≠ 0 := fun h => hnil (List.length_eq_zero_iff.1 h)
      simp; omega
    gi_wp2_with (refine ⟨trivial, ?_⟩; gi_at_call 302; refine (callsIn_wide.2 (HW.out _)).mono ?_; rintro e w1 ⟨rfl, rfl⟩)
    have hdl : ds.length = ds.length := rfl
    have hne : ds.length ≠ 0 := fun h => hnil (List.length_eq_zero_iff.1 h)
    obtain ⟨W2, hW2⟩ : ∃ W2, W.alloc (.cells #[.string fq, .int .i64 ev, .slice (some ⟨db, doff, none⟩) ds.length c, .int .i64 ct, .int .i64 un] 37) = W2 := ⟨_, rfl⟩
    have hB2 : Below W.heap.size W W2 := by rw [← hW2]; exact (Below.refl _ W).alloc (Nat.le_refl _) _
    have hz2 : W2.heap.size = W.heap.size + 1 := by rw [← hW2]; simp
    have k1 : W2.cell? ⟨W.heap.size, 1, none⟩ = some (.int .i64 ev) := by
      rw [← hW2]; exact cell_of (heap_new W _) rfl
    have hdc : ∀ i, i < ds.length → W2.cell? ⟨db, doff + i, none⟩ = some (.int .i64 (Ints.el ds i)) := fun i hi => cell_later hB2 (hcell i hi)
    have hdO : ¬ O db := HO.out _ _ _ _ rfl hne
    have hdb : db < W2.heap.size := by
      have : db < W.heap.size := cell_lt (hcell 0 (by omega))
      omega
    rw [hW2]
    clear hW2 hcell
    have hbO : ¬ O W.heap.size := fun h => by have := HOb.out _ h; omega
    have hbz : W.heap.size < W2.heap.size := by omega
    have HJ0 := Lib.hid (HH.out W2 hB2)
    have HB2 := Lib.hid hB2
    have HDC := Lib.hid hdc
    clear HH hB2 hdc HOb HWD
    gi_loopw [9] (fun p wr => ∃ k : Nat, p = .int .i64 (start - wd + 7 * ev * (k : Int)) ∧ (k = 0 ∨ start - wd + 7 * ev * ((k : Int) - 1) ≤ 73048) ∧ Rng.Stay O W2.heap.size W2 wr ∧ J W2.heap.size (wksTo start wd ev ds k) wr) (fun p _ => (74000 - intOf p).toNat)
    case atStart => exact ⟨0, by simp, Or.inl rfl, Rng.Stay.refl _ _ _, HJ0.out⟩
    case round =>
      obtain ⟨k, rfl, hk, hst, hj⟩ := hrel
      have hkl : 7 * (k : Int) ≤ 7 * ev * (k : Int) := Int.mul_le_mul_of_nonneg_right (by omega) (Int.natCast_nonneg k)
      obtain ⟨M, hM⟩ : ∃ M, start - wd + 7 * ev * (k : Int) = M := ⟨_, rfl⟩
      have hM0 : -6 ≤ M := by omega
      have hk7 : 7 * (k : Int) ≤ M + 6 := by omega
      have hlen := wksTo_len start wd ev ds k
      have hlen2 : ds.length * k ≤ 7 * k := Nat.mul_le_mul_right k hl
      have hn1 : (wksTo start wd ev ds k).length ≤ 7 * k := Nat.le_trans hlen hlen2
      have HX := Lib.hid hM
      have HS := Lib.hid hst
      have HJ1 := Lib.hid hj
      have HK := Lib.hid hk
      have HN := Lib.hid hn1
      have HK7 := Lib.hid hk7
      rw [hM]
      clear hM hst hj hk hn1 hlen hlen2 hkl hk7
      by_cases hle : M ≤ 73048
      · gi_wp2
        gi_loopw [39] (fun p wr2 => ∃ i : Nat, i ≤ ds.length ∧ p = .int .i64 (i : Int) ∧ Rng.Stay O W2.heap.size W2 wr2 ∧ J W2.heap.size (wksTo start wd ev ds k ++ wkC start (ds.take i) M) wr2) (fun p _ => ds.length - (intOf p).toNat)
        case atStart => exact ⟨0, Nat.zero_le _, rfl, HS.out, by simpa [wkC] using HJ1.out⟩
        case round =>
          obtain ⟨i, hi, rfl, hst2, hj2⟩ := hrel
          have HS2 := Lib.hid hst2
          have HJ2 := Lib.hid hj2
          clear hst2 hj2
          by_cases hil : i < ds.length
          · obtain ⟨y, hy⟩ : ∃ y, Ints.el ds i = y := ⟨_, rfl⟩
            have hyb := HD.out y (by rw [← hy, Ints.el_lt hil]; exact List.getElem_mem _)
            have hcell := stay_cell HS2.out (HDC.out i hil) hdO hdb
            rw [hy] at hcell
            have HEL := Lib.hid hy
            obtain ⟨hy0, hy6⟩ := hyb
            clear hy
            by_cases hge : start ≤ M + y
            · by_cases hle2 : M + y ≤ 73048
              · obtain ⟨f1, t1, a1, b1, hy1, hR1⟩ := HY.out W2.heap.size (wksTo start wd ev ds k ++ wkC start (ds.take i) M) (M + y) _ (by omega) HJ2.out (by
                  have h1 := HN.out
                  have h2 := HK7.out
                  have h3 := wkC_len start (ds.take i) M
                  have h4 : (ds.take i).length ≤ ds.length := List.length_take_le' _ _
                  rw [List.length_append]; omega)
                gi_wp2
                refine hR1.mono ?_
                rintro e W1 (⟨rfl, hJ3, hk3⟩ | ⟨rfl, hx3, hr3⟩)
                · have HJ3 := Lib.hid hJ3
                  have HK3 := Lib.hid hk3
                  clear hJ3 hk3
                  gi_wp2
                  go_roundw
                  case rel => exact ⟨i + 1, by omega, by simp, HS2.out.trans HK3.out, by rw [wkC_yes hil HEL.out ⟨hge, hle2⟩, ← List.append_assoc]; exact HJ3.out⟩
                  case measure => simp [intOf]; omega
                · gi_wp2
                  refine bodyPost_ret (results_none rfl _ _ _) rfl ?_
                  exact ⟨⟨_, rfl⟩, W2.heap.size, by omega, .inr ⟨_, by
                    have := wks_pre (i := i + 1) (ds := ds) he0 HX.out hle
                    rw [wkC_yes hil HEL.out ⟨hge, hle2⟩, ← List.append_assoc] at this
                    exact this, hx3⟩⟩
              · gi_wp2
                refine ⟨fun _ h => (by cases h), ?_⟩
                gi_wp2
                go_roundw
                case rel => exact ⟨i + 1, by omega, by simp, HS2.out, by rw [wkC_no hil HEL.out (fun h => by have := h.2; omega)]; exact HJ2.out⟩
                case measure => simp [intOf]; omega
            · gi_wp2
              refine ⟨fun _ h => (by cases h), ?_⟩
              gi_wp2
              go_roundw
              case rel => exact ⟨i + 1, by omega, by simp, HS2.out, by rw [wkC_no hil HEL.out (fun h => by have := h.1; omega)]; exact HJ2.out⟩
              case measure => simp [intOf]; omega
          · have hie : i = ds.length := by omega
            have k1' := stay_cell HS2.out k1 hbO hbz
            gi_wp2
            go_roundw
            case rel => exact ⟨k + 1, by rw [step_succ, HX.out], Or.inr (by rw [show ((k + 1 : Nat) : Int) - 1 = k by omega, HX.out]; exact hle), HS2.out, by
              have := HJ2.out
              rw [hie, List.take_length] at this
              rw [wksTo_succ, HX.out]; exact this⟩
            case measure => simp [intOf]; omega
      · gi_wp2
        go_end0
        exact ⟨⟨_, rfl⟩, W2.heap.size, by omega, .inl (by rw [wks_done he0 (by rw [HX.out]; omega) HK.out]; exact HJ1.out)⟩
end Cand
end Go.Proofs.YtghkalamlcfnnaaGreatDoor
end

section
/- The candidates by months (in work). -/
namespace Go.Proofs.YtghkalamlcfnnaaGreatDoor
open Go Go.RowKit Go.Shelf Lmd
attribute [local go_sem] Oper.semAt_some
namespace Cand
open Rul Day

theorem wrap_small {n : Int} (h0 : 0 ≤ n) (h1 : n < 4611686018427387904) : wrap64 n = n := by unfold wrap64; omega

set_option maxRecDepth 100000 in
set_option maxHeartbeats 2000000 in
theorem months_seq (base br bs : Nat) (start y m d : Int) (r : Ru) (v : Value) (ad : Addr) (w : World) (hB : Boxes w br bs start r v) (hf1 : r.fq.toList ≠ [111, 110, 99, 101]) (hf2 : r.fq.toList ≠ [100, 97, 105, 108, 121]) (hf3 : r.fq.toList ≠ [119, 101, 101, 107, 108, 121])
    (ha : Cal.At start y m d) (he0 : 1 ≤ r.ev) (he1 : r.ev ≤ 100) (hg : 0 < base)
    (hc : w.cell? ⟨0, 0, none⟩ = some (.iface 348 (.pointer (some ad)))) :
    Rng.Seq Tryz.prog 277 (lb br bs) (fun x : Int => #[.int .i64 x]) (Apart base br bs v) (fun xs => xs = mons y m d (r.ev * mulOf r.fq)) (fun pre => pre <+: mons y m d (r.ev * mulOf r.fq)) 100000 w := by
  intro O l J Jx W hW hO _ _ hJ hJx hY h0
  refine (callsIn_wide (n := Rng.dp + 1)).1 ?_
  refine callsIn_of_wp Tryz.func277 rfl trivial ?_ rfl
  simp only [Tryz.ntmps277, lb, List.size_toArray, List.length_cons, List.length_nil, Nat.reduceAdd, Nat.reduceSub, Array.replicate_succ, Array.replicate_zero, List.push_toArray, List.append_toArray, List.nil_append, List.cons_append]
  have k0 := cell_later hW hB.r0
  have k1 := cell_later hW hB.r1
  have ks := cell_later hW hB.s
  have hE := cell_later hW hc
  have q1 : (r.fq.toList == [111, 110, 99, 101]) = false := by simpa using hf1
  have q2 : (r.fq.toList == [100, 97, 105, 108, 121]) = false := by simpa using hf2
  have q3 : (r.fq.toList == [119, 101, 101, 107, 108, 121]) = false := by simpa using hf3
  have HJ0 := Lib.hid (h0 W (Below.refl _ _))
  have HY := Lib.hid hY
  have hbr := cell_lt k1
  have hbs := cell_lt ks
  have hbe := cell_lt hE
  clear h0 hY hf1 hf2 hf3 hB hc
  obtain ⟨sp, hsp⟩ : ∃ sp, r.ev * mulOf r.fq = sp := ⟨_, rfl⟩
  have hs1 : 1 ≤ sp := by rw [← hsp]; unfold mulOf; split <;> omega
  have hs2 : sp ≤ 1200 := by rw [← hsp]; unfold mulOf; split <;> omega
  have HSP := Lib.hid hsp
  have HA := Lib.hid ha
  rw [hsp]
  clear hsp ha
  gi_wp2
  gi_loopw [6] (fun p wr => ∃ k : Nat, p = .int .i64 (0 + sp * k) ∧ (k = 0 ∨ 0 + sp * ((k : Int) - 1) ≤ 2400) ∧ Rng.Stay O W.heap.size W wr ∧ J W.heap.size (monTo y m d sp k) wr) (fun p _ => (4000 - intOf p).toNat)
  case atStart => exact ⟨0, by simp, Or.inl rfl, Rng.Stay.refl _ _ _, HJ0.out⟩
  case round =>
    obtain ⟨k, rfl, hk, hst, hj⟩ := hrel
    have hkl := step_le hs1 k
    obtain ⟨x, hx⟩ : ∃ x, 0 + sp * (k : Int) = x := ⟨_, rfl⟩
    have hx0 : 0 ≤ x := by omega
    have HX := Lib.hid hx
    have HS := Lib.hid hst
    have HJ1 := Lib.hid hj
    have HK := Lib.hid hk
    have HKL := Lib.hid hkl
    rw [hx]
    clear hx hst hj hk hkl
    by_cases hle : x ≤ 2400
    · have ks' := stay_cell HS.out ks hO.2.1 hbs
      have hng : ¬ O 0 := fun h => by have := hO.2.2.2 _ h; omega
      have hA := add_any start y m d x ad _ HA.out (by omega) (by omega) (stay_cell HS.out hE hng hbe)
      obtain ⟨bb, hbb⟩ : ∃ bb, Cal.addB (Cal.kth y m x) d = bb := ⟨_, rfl⟩
      obtain ⟨vv, hvv⟩ : ∃ vv, Cal.addV (Cal.kth y m x) d = vv := ⟨_, rfl⟩
      have hmc : monC y m d x = if bb then [vv] else [] := by unfold monC; rw [hbb, hvv]
      rw [hbb, hvv] at hA
      have HAD := Lib.hid hA
      have HMC := Lib.hid hmc
      clear hA hbb hvv hmc
      cases bb with
      | false =>
        gi_wp2_with (refine ⟨trivial, ?_⟩; gi_at_call 280; refine (callsIn_wide.2 HAD.out).mono ?_; rintro e w1 ⟨rfl, q, rfl⟩)
        refine ⟨fun _ h => (by cases h), ?_⟩
        gi_wp2
        refine wpIn_wide.2 ?_
        have k0' := stay_cell (HS.out.trans (Rng.Stay.of_below (below_draw (Below.refl _ _) q))) k0 hO.1 hbr
        have k1' := stay_cell (HS.out.trans (Rng.Stay.of_below (below_draw (Below.refl _ _) q))) k1 hO.1 hbr
        have hb3 : Below wr.heap.size wr (wr.drewN q) := below_draw (Below.refl _ _) q
        have HB3 := Lib.hid hb3
        clear hb3
        generalize wr.drewN q = w3 at *
        go_quiet ((go_at_call 279; exact Calls.quiet_of_same ((months_any _ _).mono fun _ _ ⟨h1, h2⟩ => ⟨h1, h2⟩)))
        rw [HSP.out, wrap_small (n := sp) (by omega) (by omega), wrap_small (n := x + sp) (by omega) (by omega)]
        go_roundw
        case rel => (repeat apply Exists.intro); exact ⟨⟨k + 1, by rw [step_succ, HX.out], Or.inr (by rw [show ((k + 1 : Nat) : Int) - 1 = k by omega, HX.out]; exact hle), HS.out.trans (Rng.Stay.of_below (below_draw HB3.out _)), by rw [monTo_succ, HX.out, HMC.out]; exact hJ.below (Nat.le_refl _) (by simpa using HJ1.out) (below_draw HB3.out _)⟩, rfl⟩
        case measure => simp [intOf]; omega
      | true =>
        have hjd : ∀ q, J W.heap.size (monTo y m d sp k) (wr.drewN q) := fun q => hJ.below (Nat.le_refl _) HJ1.out (below_draw (Below.refl _ _) q)
        have hyd := fun q => HY.out W.heap.size (monTo y m d sp k) vv (wr.drewN q) (Nat.le_refl _) (hjd q) (by have := monTo_len y m d sp k; have := HX.out; have := HKL.out; omega)
        have HYD := Lib.hid hyd
        clear hjd hyd
        gi_wp2_with (refine ⟨trivial, ?_⟩; gi_at_call 280; refine (callsIn_wide.2 HAD.out).mono ?_; rintro e w1 ⟨rfl, q, rfl⟩; obtain ⟨f1, t1, a1, b1, hy1, hR1⟩ := HYD.out q)
        refine hR1.mono ?_
        rintro e W1 (⟨rfl, hJ1, hk1⟩ | ⟨rfl, hx1, hr1⟩)
        · have hst1 := HS.out.trans ((Rng.Stay.of_below (below_draw (Below.refl _ _) q)).trans hk1)
          have k0' := stay_cell hst1 k0 hO.1 hbr
          have k1' := stay_cell hst1 k1 hO.1 hbr
          have HJ2 := Lib.hid hJ1
          have HS1 := Lib.hid hst1
          clear hJ1 hst1 hk1
          gi_wp2
          refine wpIn_wide.2 ?_
          go_quiet ((go_at_call 279; exact Calls.quiet_of_same ((months_any _ _).mono fun _ _ ⟨h1, h2⟩ => ⟨h1, h2⟩)))
          rw [HSP.out, wrap_small (n := sp) (by omega) (by omega), wrap_small (n := x + sp) (by omega) (by omega)]
          go_roundw
          case rel => (repeat apply Exists.intro); exact ⟨⟨k + 1, by rw [step_succ, HX.out], Or.inr (by rw [show ((k + 1 : Nat) : Int) - 1 = k by omega, HX.out]; exact hle), HS1.out.trans (Rng.Stay.of_below (below_draw (Below.refl _ _) _)), by rw [monTo_succ, HX.out, HMC.out]; exact hJ.below (Nat.le_refl _) HJ2.out (below_draw (Below.refl _ _) _)⟩, rfl⟩
          case measure => simp [intOf]; omega
        · gi_wp2
          refine bodyPost_ret (results_none rfl _ _ _) rfl ?_
          exact ⟨⟨_, rfl⟩, W.heap.size, Nat.le_refl _, .inr ⟨monTo y m d sp k ++ [vv], by
            have := monTo_succ y m d sp k
            rw [HX.out, HMC.out] at this
            rw [show monTo y m d sp k ++ [vv] = monTo y m d sp (k + 1) from this.symm]
            exact mons_pre (by omega) (by rw [HX.out]; exact hle), hx1⟩⟩
    · gi_wp2
      go_end0
      exact ⟨⟨_, rfl⟩, W.heap.size, Nat.le_refl _, .inl (by rw [show mons y m d sp = monTo y m d sp k by rw [mons, steps_of (by omega) (by rw [HX.out]; omega) HK.out]; rfl]; exact HJ1.out)⟩
end Cand
end Go.Proofs.YtghkalamlcfnnaaGreatDoor
end

section
/- All days of a start and a rule: the iterators candidates$1 and All$1, each as a contract. -/
namespace Go.Proofs.YtghkalamlcfnnaaGreatDoor
open Go Go.RowKit Go.Shelf Lmd
attribute [local go_sem] Oper.semAt_some
namespace Cand
open Rul Day

/-- a contract at fewer elements -/
theorem seq_more {α : Type} {P : Program} {g : Nat} {lb : Array Value} {encs : α → Array Value} {R R' : (Nat → Prop) → Prop} {S S' Sp Sp' : List α → Prop} {N N' : Nat} {w : World}
    (h : Rng.Seq P g lb encs R S Sp N w) (hR : ∀ O, R' O → R O) (hS : ∀ xs, S xs → S' xs) (hSp : ∀ xs, Sp xs → Sp' xs) (hN : N ≤ N') : Rng.Seq P g lb encs R' S' Sp' N' w := by
  intro O l J Jx W a b c d e f hY h0
  refine (h O l J Jx W a (hR O b) c d e f (fun hi pre x W1 h1 h2 h3 => hY hi pre x W1 h1 h2 (by omega)) h0).mono ?_
  rintro e W' ⟨hv, hi, hhi, (⟨xs, hs, hj⟩ | ⟨xs, hs, hj⟩)⟩
  · exact ⟨hv, hi, hhi, .inl ⟨xs, hS xs hs, hj⟩⟩
  · exact ⟨hv, hi, hhi, .inr ⟨xs, hSp xs hs, hj⟩⟩

set_option maxRecDepth 100000 in
set_option maxHeartbeats 2000000 in
theorem weekly1_seq (base br bs : Nat) (start : Int) (r : Ru) (v : Value) (w : World) (hB : Boxes w br bs start r v) (hf : r.fq = weekly) (hs0 : 0 ≤ start) (hs1 : start ≤ 73048) (he0 : 1 ≤ r.ev) (he1 : r.ev ≤ 100)
    (hl : (wdays start r.ds).length ≤ 7) (hd : ∀ d ∈ wdays start r.ds, 0 ≤ d ∧ d ≤ 6) :
    Rng.Seq Tryz.prog 277 (lb br bs) (fun x : Int => #[.int .i64 x]) (Apart base br bs v) (fun xs => xs = wks start ((start + 5) % 7) r.ev (wdays start r.ds)) (fun pre => pre <+: wks start ((start + 5) % 7) r.ev (wdays start r.ds)) 100000 w := by
  intro O l J Jx W hW hO hOb _ hJ hJx hY h0
  refine (callsIn_wide (n := Rng.dp + 1)).1 ?_
  refine callsIn_of_wp Tryz.func277 rfl trivial ?_ rfl
  simp only [Tryz.ntmps277, lb, List.size_toArray, List.length_cons, List.length_nil, Nat.reduceAdd, Nat.reduceSub, Array.replicate_succ, Array.replicate_zero, List.push_toArray, List.append_toArray, List.nil_append, List.cons_append]
  have k0 := cell_later hW hB.r0
  have k1 := cell_later hW hB.r1
  have k2 := cell_later hW hB.r2
  have k3 := cell_later hW hB.r3
  have k4 := cell_later hW hB.r4
  have ks := cell_later hW hB.s
  have hwk := weekly_seq start r v w hs0 hs1 he0 he1 hB.rd hl hd O l J Jx W hW hO.2.2.1 hOb hY h0
  have HWK := Lib.hid hwk
  rw [hf] at k0
  have hfe : r.fq = weekly := hf
  clear hwk hY h0 hB hf
  gi_wp2_with (refine ⟨trivial, ?_⟩; gi_at_call 278; rw [← hfe]; refine (callsIn_wide.2 HWK.out).mono ?_; rintro e W1 ⟨⟨vv, rfl⟩, hi, hhi, hq⟩)
  go_end0
  exact ⟨⟨_, rfl⟩, hi, hhi, hq⟩

/-- the iterator candidates$1 -/
theorem cands_seq (base br bs : Nat) (start y m d : Int) (r : Ru) (v : Value) (ad : Addr) (w : World) (hB : Boxes w br bs start r v) (hb : bad r = 0) (ha : Cal.At start y m d) (hg : 0 < base)
    (hc' : w.cell? ⟨0, 0, none⟩ = some (.iface 348 (.pointer (some ad)))) :
    Rng.Seq Tryz.prog 277 (lb br bs) (fun x : Int => #[.int .i64 x]) (Apart base br bs v) (fun xs => xs = cands start y m d r) (fun pre => pre <+: cands start y m d r) 100000 w := by
  obtain ⟨h1, h2, h3, h4, h5⟩ := bad_parts hb
  obtain ⟨⟨e1, e2⟩, _⟩ := bound_parts h2
  have hbd := Cal.at_bd ha
  rcases freqs_mem h1 with h | h | h | h | h
  · have e : r.fq.toList = [111, 110, 99, 101] := by rw [h]; simp
    have hc : cands start y m d r = [start] := by unfold cands; rw [if_pos e]
    rw [hc]
    exact seq_more (once_seq base br bs start r v w hB h) (fun _ h => h) (fun _ h => h) (fun _ h => h ▸ List.prefix_rfl) (by omega)
  · have e : r.fq.toList = [100, 97, 105, 108, 121] := by rw [h]; simp
    have hc : cands start y m d r = steps start r.ev 73048 := by unfold cands; rw [if_neg (by rw [e]; decide), if_pos e]
    rw [hc]
    exact daily_seq base br bs start r v w hB h hbd.1 hbd.2 e1 e2
  · have e : r.fq.toList = [119, 101, 101, 107, 108, 121] := by rw [h]; simp
    have hc : cands start y m d r = wks start ((start + 5) % 7) r.ev (wdays start r.ds) := by unfold cands; rw [if_neg (by rw [e]; decide), if_neg (by rw [e]; decide), if_pos e]
    rw [hc]
    refine weekly1_seq base br bs start r v w hB h hbd.1 hbd.2 e1 e2 (wdays_len h5 h3) ?_
    unfold wdays; split
    · intro x hx; simp at hx; omega
    · exact days_in h3
  · have e : r.fq.toList = [109, 111, 110, 116, 104, 108, 121] := by rw [h]; simp
    have hc : cands start y m d r = mons y m d (r.ev * mulOf r.fq) := by unfold cands; rw [if_neg (by rw [e]; decide), if_neg (by rw [e]; decide), if_neg (by rw [e]; decide)]
    rw [hc]
    exact months_seq base br bs start y m d r v ad w hB (by rw [e]; decide) (by rw [e]; decide) (by rw [e]; decide) ha e1 e2 hg hc'
  · have e : r.fq.toList = [121, 101, 97, 114, 108, 121] := by rw [h]; simp
    have hc : cands start y m d r = mons y m d (r.ev * mulOf r.fq) := by unfold cands; rw [if_neg (by rw [e]; decide), if_neg (by rw [e]; decide), if_neg (by rw [e]; decide)]
    rw [hc]
    exact months_seq base br bs start y m d r v ad w hB (by rw [e]; decide) (by rw [e]; decide) (by rw [e]; decide) ha e1 e2 hg hc'

set_option maxHeartbeats 1000000 in
theorem candidates_any (start : Int) (r : Ru) (v : Value) (w : World) :
    Calls Tryz.prog 250 #[.int .i64 start, r.val v] w fun e w' => e = .returned (.func (.func 277) #[] (lb (w.heap.size + 1) w.heap.size)) ∧ w' = (w.alloc (.cells #[.int .i64 start] 3)).alloc (.cells #[.string r.fq, .int .i64 r.ev, v, .int .i64 r.ct, .int .i64 r.un] 37) := by
  obtain ⟨fq, ev, ct, un, ds⟩ := r
  simp only [Ru.val] at *
  go_enter Tryz.func250, Tryz.ntmps250
  go_wp2
  go_ret
  exact ⟨rfl, rfl⟩
set_option maxHeartbeats 1000000 in
theorem all_any (start : Int) (r : Ru) (v : Value) (w : World) :
    Calls Tryz.prog 204 #[.int .i64 start, r.val v] w fun e w' => e = .returned (.func (.func 249) #[] #[.pointer (some ⟨w.heap.size, 0, none⟩), .pointer (some ⟨w.heap.size + 1, 0, none⟩)]) ∧ w' = (w.alloc (.cells #[.int .i64 start] 3)).alloc (.cells #[.string r.fq, .int .i64 r.ev, v, .int .i64 r.ct, .int .i64 r.un] 37) := by
  obtain ⟨fq, ev, ct, un, ds⟩ := r
  simp only [Ru.val] at *
  go_enter Tryz.func204, Tryz.ntmps204
  go_wp2
  go_ret
  exact ⟨rfl, rfl⟩
theorem boxes_new (start : Int) (r : Ru) (v : Value) (w : World) (hr : Ints.Reads w v r.ds) (t1 t2 : TypeId) :
    Boxes ((w.alloc (.cells #[.int .i64 start] t1)).alloc (.cells #[.string r.fq, .int .i64 r.ev, v, .int .i64 r.ct, .int .i64 r.un] t2)) (w.heap.size + 1) w.heap.size start r v := by
  have h1 := heap_new (w.alloc (.cells #[.int .i64 start] t1)) (.cells #[.string r.fq, .int .i64 r.ev, v, .int .i64 r.ct, .int .i64 r.un] t2)
  rw [World.size_alloc] at h1
  have h0 : ((w.alloc (.cells #[.int .i64 start] t1)).alloc (.cells #[.string r.fq, .int .i64 r.ev, v, .int .i64 r.ct, .int .i64 r.un] t2)).heap[w.heap.size]? = some (.cells #[.int .i64 start] t1) :=
    (Below.heap_alloc _ _ _ (by simp)).trans (heap_new w _)
  exact ⟨cell_of h0 rfl, cell_of h1 rfl, cell_of h1 rfl, cell_of h1 rfl, cell_of h1 rfl, cell_of h1 rfl, hr.below (((Below.refl _ w).alloc (Nat.le_refl _) _).alloc (by simp) _)⟩
end Cand
end Go.Proofs.YtghkalamlcfnnaaGreatDoor
end

section
/- Plain facts for the reference of expand: its test of a candidate, its list of all days, its step. No program stands here. -/
namespace Lmd.Cal
end Lmd.Cal
namespace Go.Proofs.YtghkalamlcfnnaaGreatDoor
open Go Go.RowKit Lmd
namespace Cand
open Rul

/-- two rising lists with the same members are one -/
theorem rise_ext : ∀ {a b : List Int}, a.Pairwise (· < ·) → b.Pairwise (· < ·) → (∀ x, x ∈ a ↔ x ∈ b) → a = b
  | [], [], _, _, _ => rfl
  | [], y :: ys, _, _, h => by have := (h y).2 (by simp); cases this
  | x :: xs, [], _, _, h => by have := (h x).1 (by simp); cases this
  | x :: xs, y :: ys, ha, hb, h => by
    have pa := List.pairwise_cons.1 ha
    have pb := List.pairwise_cons.1 hb
    have e : x = y := by
      rcases List.mem_cons.1 ((h x).1 (by simp)) with e | e
      · exact e
      · rcases List.mem_cons.1 ((h y).2 (by simp)) with e2 | e2
        · exact e2.symm
        · have := pa.1 y e2; have := pb.1 x e; omega
    subst e
    rw [rise_ext pa.2 pb.2 fun z => ?_]
    constructor
    · intro hz
      rcases List.mem_cons.1 ((h z).1 (List.mem_cons_of_mem _ hz)) with e | e
      · have := pa.1 z hz; omega
      · exact e
    · intro hz
      rcases List.mem_cons.1 ((h z).2 (List.mem_cons_of_mem _ hz)) with e | e
      · have := pb.1 z hz; omega
      · exact e

end Cand
end Go.Proofs.YtghkalamlcfnnaaGreatDoor
end
end
