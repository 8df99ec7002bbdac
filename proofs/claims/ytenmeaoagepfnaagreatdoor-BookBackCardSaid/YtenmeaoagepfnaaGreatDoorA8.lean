/- DayMore, Cand, CandLaw: texts joined. -/
import Derived.Test.YtenmeaoagepfnaaGreatDoorA2
import Derived.Test.YtenmeaoagepfnaaGreatDoorRuleText
import Derived.Test.YtenmeaoagepfnaaGreatDoorA3
import Derived.Test.YtenmeaoagepfnaaGreatDoorA1
section
/- Weekdays; months more. -/
namespace Go.Proofs.YtenmeaoagepfnaaGreatDoor
open Go.RowKit Lmd
namespace Day
set_option maxHeartbeats 400000 in
theorem week_yes (n : Int) (w : World) (h1 : 0 ≤ n) (h2 : n ≤ 73048) :
    Calls Tryz.prog 292 #[.int .i64 n] w fun e w' => e = .returned (.tuple #[.int .i64 ((n + 5) % 7), .nilIface]) ∧ w = w' := by
  go_enter Tryz.func292, Tryz.ntmps292
  go_wp2_with (go_at_call 101; refine (right_yes _ _ ⟨h1, h2⟩).mono ?_; rintro e w' ⟨rfl, rfl⟩)
  go_ret2
  exact ⟨rfl, rfl⟩
set_option maxHeartbeats 400000 in
theorem week_no (n : Int) (a : Addr) (w : World) (h : ¬ (0 ≤ n ∧ n ≤ 73048)) (hc : w.cell? ⟨2, 0, none⟩ = some (.iface 363 (.pointer (some a)))) :
    Calls Tryz.prog 292 #[.int .i64 n] w fun e w' => e = .returned (.tuple #[.int .i64 0, .iface 363 (.pointer (some a))]) ∧ ∃ k, w' = w.drewN k := by
  go_enter Tryz.func292, Tryz.ntmps292
  go_wp2_with (go_at_call 101; refine (right_no _ _ h).mono ?_; rintro e w' ⟨rfl, rfl⟩)
  go_quiet (fail)
  go_wp2
  go_ret2
  exact ⟨rfl, _, rfl⟩


set_option maxHeartbeats 1000000 in
theorem add_yes (n y m d mo : Int) (w : World) (h : Cal.At n y m d) (m1 : -100000 ≤ mo) (m2 : mo ≤ 100000) (k0 : 0 ≤ Cal.kth y m mo) (ho : Cal.Ok (2000 + Cal.kth y m mo / 12) (Cal.kth y m mo % 12 + 1) d) :
    Calls Tryz.prog 251 #[.int .i64 n, .int .i64 mo] w fun e w' => e = .returned (.tuple #[.int .i64 (Cal.num (2000 + Cal.kth y m mo / 12) (Cal.kth y m mo % 12 + 1) d), .bool true]) ∧ ∃ k, w' = w.drewN k := by
  obtain ⟨a1, a2, a3, a4, a5, a6⟩ := Cal.ok_range h.1
  have k1 : ¬ 12 * (y - 2000) + m - 1 + mo < 0 := by unfold Cal.kth at k0; omega
  have e1 : Cal.kth y m mo = 12 * (y - 2000) + m - 1 + mo := rfl
  rw [e1] at ho ⊢
  clear e1 k0
  go_enter Tryz.func251, Tryz.ntmps251
  go_wp2_with (first | (go_at_call 221; refine (date_at _ _ _ _ _ h).mono ?_; rintro e w' ⟨rfl, rfl⟩) | (go_at_call 267; refine (make_ok _ _ _ _ ho).mono ?_; rintro e w' ⟨rfl, rfl⟩))
  go_quiet (fail)
  go_wp2
  go_ret2
  exact ⟨rfl, _, rfl⟩


set_option maxHeartbeats 1000000 in
theorem add_none (n y m d mo : Int) (ad : Addr) (w : World) (h : Cal.At n y m d) (m1 : -100000 ≤ mo) (m2 : mo ≤ 100000) (hk : Cal.addB (Cal.kth y m mo) d = false)
    (hc : w.cell? ⟨2, 0, none⟩ = some (.iface 363 (.pointer (some ad)))) :
    Calls Tryz.prog 251 #[.int .i64 n, .int .i64 mo] w fun e w' => e = .returned (.tuple #[.int .i64 0, .bool false]) ∧ ∃ k, w' = w.drewN k := by
  obtain ⟨a1, a2, a3, a4, a5, a6⟩ := Cal.ok_range h.1
  have e1 : Cal.kth y m mo = 12 * (y - 2000) + m - 1 + mo := rfl
  rcases Cal.addB_no hk with hk | ⟨hk, ho⟩
  · rw [e1] at hk
    clear e1
    go_enter Tryz.func251, Tryz.ntmps251
    go_wp2_with (go_at_call 221; refine (date_at _ _ _ _ _ h).mono ?_; rintro e w' ⟨rfl, rfl⟩)
    go_ret2
    exact ⟨rfl, 0, rfl⟩
  · rw [e1] at hk ho
    have k1 : ¬ 12 * (y - 2000) + m - 1 + mo < 0 := by omega
    clear e1 hk
    go_enter Tryz.func251, Tryz.ntmps251
    go_wp2_with (first | (go_at_call 221; refine (date_at _ _ _ _ _ h).mono ?_; rintro e w' ⟨rfl, rfl⟩) | (go_at_call 267; refine (make_err _ _ _ ad _ ho hc).mono ?_; rintro e w' ⟨rfl, k, rfl⟩))
    go_quiet (fail)
    go_wp2
    go_ret2
    exact ⟨rfl, _, drewN_add _ _ _⟩

set_option maxHeartbeats 1000000 in
theorem add_off (n mo : Int) (ad : Addr) (w : World) (h : ¬ (0 ≤ n ∧ n ≤ 73048) ∨ (0 ≤ n ∧ n ≤ 73048 ∧ (mo < -100000 ∨ 100000 < mo)))
    (hc : w.cell? ⟨2, 0, none⟩ = some (.iface 363 (.pointer (some ad)))) :
    Calls Tryz.prog 251 #[.int .i64 n, .int .i64 mo] w fun e w' => e = .returned (.tuple #[.int .i64 0, .bool false]) ∧ ∃ k, w' = w.drewN k := by
  rcases h with h | ⟨h1, h2, h⟩
  · go_enter Tryz.func251, Tryz.ntmps251
    go_wp2_with (go_at_call 221; refine (date_no _ ad _ h hc).mono ?_; rintro e w' ⟨rfl, k, rfl⟩)
    go_ret2
    exact ⟨rfl, _, rfl⟩
  · obtain ⟨y, m, d, ha⟩ := Cal.at_exists n h1 h2
    rcases h with h | h
    all_goals
      go_enter Tryz.func251, Tryz.ntmps251
      go_wp2_with (go_at_call 221; refine (date_at _ _ _ _ _ ha).mono ?_; rintro e w' ⟨rfl, rfl⟩)
      go_ret2
      exact ⟨rfl, 0, rfl⟩

/-- months more, at a day: whatever they lead to -/
theorem add_any (n y m d mo : Int) (ad : Addr) (w : World) (h : Cal.At n y m d) (m1 : -100000 ≤ mo) (m2 : mo ≤ 100000)
    (hc : w.cell? ⟨2, 0, none⟩ = some (.iface 363 (.pointer (some ad)))) :
    Calls Tryz.prog 251 #[.int .i64 n, .int .i64 mo] w fun e w' => e = .returned (.tuple #[.int .i64 (Cal.addV (Cal.kth y m mo) d), .bool (Cal.addB (Cal.kth y m mo) d)]) ∧ ∃ k, w' = w.drewN k := by
  cases hk : Cal.addB (Cal.kth y m mo) d with
  | true =>
    have := Cal.addB_yes hk
    rw [Cal.addV_yes hk]
    exact add_yes n y m d mo w h m1 m2 this.1 this.2
  | false =>
    rw [Cal.addV_no hk]
    exact add_none n y m d mo ad w h m1 m2 hk hc
end Day
end Go.Proofs.YtenmeaoagepfnaaGreatDoor
end

section
/- The candidates of a start and a rule: the iterator candidates$1 (in work). -/
namespace Go.Proofs.YtenmeaoagepfnaaGreatDoor
open Go Go.RowKit Go.Shelf Lmd
attribute [local go_sem] Oper.semAt_some
namespace Cand
open Rul

/-- the start's box and the rule's box -/
structure Boxes (w : World) (br bs : Nat) (start : Int) (r : Ru) (v : Value) : Prop where
  s : w.cell? ⟨bs, 0, none⟩ = some (.int .i64 start)
  r0 : w.cell? ⟨br, 0, none⟩ = some (.string r.fq)
  r1 : w.cell? ⟨br, 1, none⟩ = some (.int .i64 r.ev)
  r2 : w.cell? ⟨br, 2, none⟩ = some v
  r3 : w.cell? ⟨br, 3, none⟩ = some (.int .i64 r.ct)
  r4 : w.cell? ⟨br, 4, none⟩ = some (.int .i64 r.un)
  rd : Ints.Reads w v r.ds
/-- the iterator's captured variables -/
def lb (br bs : Nat) : Array Value := #[.pointer (some ⟨br, 0, none⟩), .pointer (some ⟨bs, 0, none⟩)]
/-- the caller's own blocks are none of these, and lie above a base -/
def Apart (base br bs : Nat) (v : Value) (O : Nat → Prop) : Prop := ¬ O br ∧ ¬ O bs ∧ (∀ b o n c, v = .slice (some ⟨b, o, none⟩) n c → n ≠ 0 → ¬ O b) ∧ ∀ b, O b → base ≤ b

/-- months of a step -/
def mulOf (fq : ByteArray) : Int := if fq.toList = [121, 101, 97, 114, 108, 121] then 12 else 1
theorem mulOf_yes {fq : ByteArray} (h : fq.toList = [121, 101, 97, 114, 108, 121]) : mulOf fq = 12 := if_pos h
theorem mulOf_no {fq : ByteArray} (h : ¬ fq.toList = [121, 101, 97, 114, 108, 121]) : mulOf fq = 1 := if_neg h
theorem months_any (fq : ByteArray) (w : World) : Calls Tryz.prog 250 #[.string fq] w fun e w' => e = .returned (.int .i64 (mulOf fq)) ∧ w' = w := by
  by_cases h : fq.toList = [121, 101, 97, 114, 108, 121]
  · rw [mulOf_yes h]
    go_enter Tryz.func250, Tryz.ntmps250
    go_wp2
    go_ret
    exact ⟨rfl, rfl⟩
  · rw [mulOf_no h]
    have hq : (fq.toList == [121, 101, 97, 114, 108, 121]) = false := by simpa using h
    clear h
    go_enter Tryz.func250, Tryz.ntmps250
    go_wp2
    go_ret
    exact ⟨rfl, rfl⟩

set_option maxRecDepth 100000 in
set_option maxHeartbeats 2000000 in
theorem once_seq (base br bs : Nat) (start : Int) (r : Ru) (v : Value) (w : World) (hB : Boxes w br bs start r v) (hf : r.fq = once) :
    Rng.Seq Tryz.prog 248 (lb br bs) (fun x : Int => #[.int .i64 x]) (Apart base br bs v) (fun xs => xs = [start]) (fun pre => pre = [start]) 1 w := by
  intro O l J Jx W hW hO _ _ hJ hJx hY h0
  refine (callsIn_wide (n := Rng.dp + 1)).1 ?_
  refine callsIn_of_wp Tryz.func248 rfl trivial ?_ rfl
  simp only [Tryz.ntmps248, lb, List.size_toArray, List.length_cons, List.length_nil, Nat.reduceAdd, Nat.reduceSub, Array.replicate_succ, Array.replicate_zero, List.push_toArray, List.append_toArray, List.nil_append, List.cons_append]
  have k0 := cell_later hW hB.r0
  have ks := cell_later hW hB.s
  rw [hf] at k0
  obtain ⟨f1, t1, a1, b1, hy1, hR1⟩ := hY W.heap.size [] start W (Nat.le_refl _) (h0 W (Below.refl _ _)) (by simp)
  dsimp only at hy1
  gi_wp2
  refine hR1.mono ?_
  rintro e W1 (⟨rfl, hJ1, hk1⟩ | ⟨rfl, hx1, hr1⟩)
  · gi_wp2
    go_end0
    exact ⟨⟨_, rfl⟩, W.heap.size, Nat.le_refl _, .inl ⟨[start], rfl, hJ1⟩⟩
  · gi_wp2
    go_end0
    exact ⟨⟨_, rfl⟩, W.heap.size, Nat.le_refl _, .inr ⟨[start], rfl, hx1⟩⟩

/-- what a loop 'for x := a; x <= hi; x += s' goes through -/
def steps (a s hi : Int) : List Int := (List.range ((hi - a) / s + 1).toNat).map fun (k : Nat) => a + s * (k : Int)
/-- .. up to the k-th -/
def upTo (a s : Int) (k : Nat) : List Int := (List.range k).map fun (k : Nat) => a + s * (k : Int)
theorem upTo_succ (a s : Int) (k : Nat) : upTo a s (k + 1) = upTo a s k ++ [a + s * k] := by simp [upTo, List.range_succ]
theorem upTo_len (a s : Int) (k : Nat) : (upTo a s k).length = k := by simp [upTo]
theorem steps_of {a s hi : Int} {k : Nat} (hs : 0 < s) (h1 : hi < a + s * k) (h2 : k = 0 ∨ a + s * ((k : Int) - 1) ≤ hi) : steps a s hi = upTo a s k := by
  have : ((hi - a) / s + 1).toNat = k := by
    have h3 : (hi - a) / s < k := Int.ediv_lt_of_lt_mul hs (by rw [Int.mul_comm]; omega)
    rcases h2 with rfl | h2
    · have : (hi - a) / s < 0 := h3
      omega
    · have h4 : (k : Int) - 1 ≤ (hi - a) / s := Int.le_ediv_of_mul_le hs (by rw [Int.mul_comm]; omega)
      omega
  rw [steps, this]; rfl

theorem upTo_pre (a s : Int) (m d : Nat) : upTo a s m <+: upTo a s (m + d) := by
  induction d with
  | zero => exact List.prefix_rfl
  | succ d ih => rw [← Nat.add_assoc, upTo_succ]; exact ih.trans (List.prefix_append _ _)
theorem steps_pre {a s hi : Int} {k : Nat} (hs : 0 < s) (h : a + s * k ≤ hi) : upTo a s (k + 1) <+: steps a s hi := by
  have h4 : (k : Int) ≤ (hi - a) / s := Int.le_ediv_of_mul_le hs (by rw [Int.mul_comm]; omega)
  obtain ⟨d, hd⟩ : ∃ d, ((hi - a) / s + 1).toNat = (k + 1) + d := ⟨((hi - a) / s + 1).toNat - (k + 1), by omega⟩
  have : steps a s hi = upTo a s ((k + 1) + d) := by rw [steps, hd]; rfl
  rw [this]
  exact upTo_pre _ _ _ _
theorem step_succ (a s : Int) (k : Nat) : a + s * ((k + 1 : Nat) : Int) = a + s * k + s := by rw [Int.natCast_add, Int.mul_add]; simp only [Int.natCast_one, Int.mul_one]; omega
theorem step_le {s : Int} (hs : 1 ≤ s) (k : Nat) : (k : Int) ≤ s * k := by
  have := Int.mul_le_mul_of_nonneg_right hs (Int.natCast_nonneg k)
  simpa using this

set_option maxRecDepth 100000 in
set_option maxHeartbeats 2000000 in
theorem daily_seq (base br bs : Nat) (start : Int) (r : Ru) (v : Value) (w : World) (hB : Boxes w br bs start r v) (hf : r.fq = daily) (hs0 : 0 ≤ start) (hs1 : start ≤ 73048) (he0 : 1 ≤ r.ev) (he1 : r.ev ≤ 100) :
    Rng.Seq Tryz.prog 248 (lb br bs) (fun x : Int => #[.int .i64 x]) (Apart base br bs v) (fun xs => xs = steps start r.ev 73048) (fun pre => pre <+: steps start r.ev 73048) 100000 w := by
  intro O l J Jx W hW hO _ _ hJ hJx hY h0
  refine (callsIn_wide (n := Rng.dp + 1)).1 ?_
  refine callsIn_of_wp Tryz.func248 rfl trivial ?_ rfl
  simp only [Tryz.ntmps248, lb, List.size_toArray, List.length_cons, List.length_nil, Nat.reduceAdd, Nat.reduceSub, Array.replicate_succ, Array.replicate_zero, List.push_toArray, List.append_toArray, List.nil_append, List.cons_append]
  have k0 := cell_later hW hB.r0
  have k1 := cell_later hW hB.r1
  have ks := cell_later hW hB.s
  rw [hf] at k0
  have HJ0 := Lib.hid (h0 W (Below.refl _ _))
  have HY := Lib.hid hY
  clear h0 hY
  have hbr := cell_lt k1
  gi_wp2
  gi_loopw [4] (fun p wr => ∃ k : Nat, p = .int .i64 (start + r.ev * k) ∧ (k = 0 ∨ start + r.ev * ((k : Int) - 1) ≤ 73048) ∧ Rng.Stay O W.heap.size W wr ∧ J W.heap.size (upTo start r.ev k) wr) (fun p _ => (73249 - intOf p).toNat)
  case atStart => exact ⟨0, by simp, Or.inl rfl, Rng.Stay.refl _ _ _, HJ0.out⟩
  case round =>
    obtain ⟨k, rfl, hk, hst, hj⟩ := hrel
    have hkl := step_le he0 k
    have hnn : (0 : Int) ≤ r.ev * k := by omega
    obtain ⟨x, hx⟩ : ∃ x, start + r.ev * (k : Int) = x := ⟨_, rfl⟩
    have hx0 : 0 ≤ x := by omega
    have HX := Lib.hid hx
    have HS := Lib.hid hst
    have HJ1 := Lib.hid hj
    have HK := Lib.hid hk
    have HKL := Lib.hid hkl
    rw [hx]
    clear hx hst hj hk hkl hnn
    by_cases hle : x ≤ 73048
    · obtain ⟨f1, t1, a1, b1, hy1, hR1⟩ := HY.out W.heap.size (upTo start r.ev k) x _ (Nat.le_refl _) HJ1.out (by rw [upTo_len]; have := HX.out; have := HKL.out; omega)
      gi_wp2
      refine hR1.mono ?_
      rintro e W1 (⟨rfl, hJ1, hk1⟩ | ⟨rfl, hx1, hr1⟩)
      · have k1' := stay_cell (HS.out.trans hk1) k1 hO.1 hbr
        have HJ2 := Lib.hid hJ1
        have HK1 := Lib.hid hk1
        clear hJ1 hk1
        gi_wp2
        go_roundw
        case rel => exact ⟨k + 1, by rw [step_succ, HX.out], Or.inr (by rw [show ((k + 1 : Nat) : Int) - 1 = k by omega, HX.out]; exact hle), HS.out.trans HK1.out, by rw [upTo_succ, HX.out]; exact HJ2.out⟩
        case measure => simp [intOf]; omega
      · gi_wp2
        go_end0
        exact ⟨⟨_, rfl⟩, W.heap.size, Nat.le_refl _, .inr ⟨upTo start r.ev k ++ [x], by rw [← HX.out, ← upTo_succ]; exact steps_pre (by omega) (by rw [HX.out]; exact hle), hx1⟩⟩
    · gi_wp2
      refine ⟨fun _ h => (by cases h), ?_⟩
      gi_wp2
      go_end0
      exact ⟨⟨_, rfl⟩, W.heap.size, Nat.le_refl _, .inl ⟨upTo start r.ev k, (steps_of (by omega) (by rw [HX.out]; omega) HK.out).symm, HJ1.out⟩⟩

/-- a candidate of k months more, if there is one -/
def monC (y m d k : Int) : List Int := if Cal.addB (Cal.kth y m k) d then [Cal.addV (Cal.kth y m k) d] else []
def monTo (y m d s : Int) (k : Nat) : List Int := (upTo 0 s k).flatMap (monC y m d)
def mons (y m d s : Int) : List Int := (steps 0 s 2400).flatMap (monC y m d)
theorem monTo_succ (y m d s : Int) (k : Nat) : monTo y m d s (k + 1) = monTo y m d s k ++ monC y m d (0 + s * k) := by simp [monTo, upTo_succ]
theorem monTo_len (y m d s : Int) (k : Nat) : (monTo y m d s k).length ≤ k := by
  induction k with
  | zero => simp [monTo, upTo]
  | succ k ih =>
    rw [monTo_succ, List.length_append]
    have : (monC y m d (0 + s * k)).length ≤ 1 := by unfold monC; split <;> simp
    omega
theorem mons_pre {y m d s : Int} {k : Nat} (hs : 0 < s) (h : 0 + s * k ≤ 2400) : monTo y m d s (k + 1) <+: mons y m d s := by
  obtain ⟨t, ht⟩ := steps_pre hs h
  exact ⟨t.flatMap (monC y m d), by rw [mons, ← ht, List.flatMap_append]; rfl⟩

end Cand
end Go.Proofs.YtenmeaoagepfnaaGreatDoor
end

section
/- Plain facts on the candidates of a rule: they rise; the days of them up to an end and a count; the n-th one. No program stands here. -/
namespace Lmd.Cal
/-- a later month of the same day of the month is a later day -/
theorem num_lt {y m d y' m' d' : Int} (h : Ok y m d) (h' : Ok y' m' d') (hl : y < y' ∨ y = y' ∧ (m < m' ∨ m = m' ∧ d < d')) : num y m d < num y' m' d' := by
  obtain ⟨a, b, c, f, g, _⟩ := ok_range h
  obtain ⟨a', b', c', f', g', _⟩ := ok_range h'
  have h2 := h.2
  have h2' := h'.2
  rw [mon_in a b c f] at h2
  rw [mon_in a' b' c' f'] at h2'
  have hc := cum_bd y m c (by omega)
  have hc' := cum_bd y' m' c' (by omega)
  have hs := cum_succ y m c f
  have hm := cum_mono y (m + 1) 13 (by omega) (by omega) (by omega)
  have hl2 := cum_last y
  have hy := yrs_succ y a
  unfold num
  rcases hl with l | ⟨rfl, l | ⟨rfl, l⟩⟩
  · have := yrs_mono (a := y + 1) (b := y') (by omega) (by omega); omega
  · have := cum_mono y (m + 1) m' (by omega) (by omega) (by omega); omega
  · omega
theorem addV_lt {k k' d : Int} (h : addB k d = true) (h' : addB k' d = true) (hk : k < k') : addV k d < addV k' d := by
  rw [addV_yes h, addV_yes h']
  exact num_lt (addB_yes h).2 (addB_yes h').2 (by omega)
end Lmd.Cal
namespace Go.Proofs.YtenmeaoagepfnaaGreatDoor
open Go Go.RowKit Lmd
namespace Cand
open Rul

theorem steps_mem {a s hi x : Int} (hs : 0 < s) : x ∈ steps a s hi ↔ a ≤ x ∧ x ≤ hi ∧ (x - a) % s = 0 := by
  simp only [steps, List.mem_map, List.mem_range]
  constructor
  · rintro ⟨k, hk, rfl⟩
    have h1 : (k : Int) ≤ (hi - a) / s := by omega
    have h2 : s * k ≤ hi - a := by rw [Int.mul_comm]; exact Int.mul_le_of_le_ediv hs h1
    have h3 : 0 ≤ s * (k : Int) := Int.mul_nonneg (by omega) (by omega)
    refine ⟨by omega, by omega, ?_⟩
    rw [show a + s * (k : Int) - a = s * k by omega]
    exact Int.mul_emod_right s k
  · rintro ⟨h1, h2, h3⟩
    have e := Int.emod_add_mul_ediv (x - a) s
    have h4 : 0 ≤ (x - a) / s := Int.ediv_nonneg (by omega) (by omega)
    have h5 : (x - a) / s ≤ (hi - a) / s := Int.ediv_le_ediv hs (by omega)
    refine ⟨((x - a) / s).toNat, by omega, ?_⟩
    rw [show ((((x - a) / s).toNat : Nat) : Int) = (x - a) / s by omega]
    omega
theorem steps_rise {a s hi : Int} (hs : 0 < s) : (steps a s hi).Pairwise (· < ·) := by
  rw [steps, List.pairwise_map]
  refine List.Pairwise.imp ?_ List.pairwise_lt_range
  intro i j h
  have : s * (i : Int) < s * (j : Int) := Int.mul_lt_mul_of_pos_left (by omega) hs
  omega
/-- .. and each is a step above those ahead of it -/
theorem steps_far {a s hi : Int} (hs : 0 < s) : (steps a s hi).Pairwise (fun x y => x + s ≤ y) := by
  rw [steps, List.pairwise_map]
  refine List.Pairwise.imp ?_ List.pairwise_lt_range
  intro i j h
  have : s * ((i : Int) + 1) ≤ s * (j : Int) := Int.mul_le_mul_of_nonneg_left (by omega) (by omega)
  have h2 : s * ((i : Int) + 1) = s * i + s := by rw [Int.mul_add, Int.mul_one]
  omega
theorem mons_rise {y m d s : Int} (hs : 0 < s) : (mons y m d s).Pairwise (· < ·) := by
  rw [mons, List.pairwise_flatMap]
  constructor
  · intro k _
    unfold monC
    split <;> simp
  · refine (steps_rise hs).imp ?_
    intro k k' hk x hx z hz
    unfold monC at hx hz
    split at hx
    · rename_i h1
      split at hz
      · rename_i h2
        simp at hx hz
        subst hx; subst hz
        exact Cal.addV_lt h1 h2 (by unfold Cal.kth; omega)
      · simp at hz
    · simp at hx

/-- a week's candidates, from its Monday on -/
def wkC (start : Int) (ds : List Int) (monday : Int) : List Int := (ds.map (monday + ·)).filter fun x => decide (start ≤ x ∧ x ≤ 73048)
/-- the weeks' candidates: w the start's weekday -/
def wks (start w ev : Int) (ds : List Int) : List Int := (steps (start - w) (7 * ev) 73048).flatMap (wkC start ds)
def wksTo (start w ev : Int) (ds : List Int) (k : Nat) : List Int := (upTo (start - w) (7 * ev) k).flatMap (wkC start ds)
theorem wksTo_succ (start w ev : Int) (ds : List Int) (k : Nat) : wksTo start w ev ds (k + 1) = wksTo start w ev ds k ++ wkC start ds (start - w + 7 * ev * k) := by simp [wksTo, upTo_succ]
theorem wkC_len (start : Int) (ds : List Int) (m : Int) : (wkC start ds m).length ≤ ds.length := by
  unfold wkC; exact Nat.le_trans (List.length_filter_le _ _) (by simp)
theorem wksTo_len (start w ev : Int) (ds : List Int) (k : Nat) : (wksTo start w ev ds k).length ≤ ds.length * k := by
  induction k with
  | zero => simp [wksTo, upTo]
  | succ k ih =>
    rw [wksTo_succ, List.length_append, Nat.mul_succ]
    have := wkC_len start ds (start - w + 7 * ev * k)
    omega
theorem wkC_rise {start m : Int} {ds : List Int} (h : ds.Pairwise (· < ·)) : (wkC start ds m).Pairwise (· < ·) := by
  unfold wkC
  refine List.Pairwise.filter _ ?_
  rw [List.pairwise_map]
  exact h.imp fun h => by omega
theorem wkC_mem {start m x : Int} {ds : List Int} : x ∈ wkC start ds m ↔ x - m ∈ ds ∧ start ≤ x ∧ x ≤ 73048 := by
  unfold wkC
  simp only [List.mem_filter, List.mem_map, decide_eq_true_eq]
  constructor
  · rintro ⟨⟨k, hk, rfl⟩, h⟩
    exact ⟨by rw [show m + k - m = k by omega]; exact hk, h⟩
  · rintro ⟨hk, h⟩
    exact ⟨⟨x - m, hk, by omega⟩, h⟩
theorem wks_rise {start w ev : Int} {ds : List Int} (he : 1 ≤ ev) (h : ds.Pairwise (· < ·)) (hd : ∀ d ∈ ds, 0 ≤ d ∧ d ≤ 6) : (wks start w ev ds).Pairwise (· < ·) := by
  rw [wks, List.pairwise_flatMap]
  constructor
  · intro k _; exact wkC_rise h
  · refine (steps_far (by omega)).imp ?_
    intro k k' hk x hx z hz
    have h1 := hd _ (wkC_mem.1 hx).1
    have h2 := hd _ (wkC_mem.1 hz).1
    omega
/-- the candidates of a start (its date y m d) and a rule -/
def wdays (start : Int) (ds : List Int) : List Int := if ds = [] then [(start + 5) % 7] else ds
def cands (start y m d : Int) (r : Ru) : List Int :=
  if r.fq.toList = [111, 110, 99, 101] then [start] else if r.fq.toList = [100, 97, 105, 108, 121] then steps start r.ev 73048
  else if r.fq.toList = [119, 101, 101, 107, 108, 121] then wks start ((start + 5) % 7) r.ev (wdays start r.ds) else mons y m d (r.ev * mulOf r.fq)

/-- may a day stand under an end -/
def under (un x : Int) : Bool := decide (un = -1 ∨ x ≤ un)
/-- the days of candidates: up to the end, and no more than the count -/
def daysOf (ct un : Int) (c : List Int) : List Int := if 0 < ct then (c.takeWhile (under un)).take ct.toNat else c.takeWhile (under un)
/-- no day of these is the one that stops -/
def Goes (ct un : Int) (p : List Int) : Prop := (0 < ct → (p.length : Int) ≤ ct) ∧ ∀ x ∈ p, under un x = true
/-- the day that stops, behind n -/
def stopB (ct un : Int) (n : Nat) (x : Int) : Bool := decide (0 < ct ∧ (n : Int) = ct) || !under un x
theorem goes_nil (ct un : Int) : Goes ct un [] := ⟨fun h => by simp; omega, by simp⟩
theorem goes_snoc {ct un x : Int} {p : List Int} (h : Goes ct un p) (hs : stopB ct un p.length x = false) : Goes ct un (p ++ [x]) := by
  simp only [stopB, Bool.or_eq_false_iff, decide_eq_false_iff_not, Bool.not_eq_false'] at hs
  refine ⟨fun h0 => ?_, fun z hz => ?_⟩
  · have := h.1 h0
    have : ¬ (p.length : Int) = ct := fun e => hs.1 ⟨h0, e⟩
    simp; omega
  · rcases List.mem_append.1 hz with hz | hz
    · exact h.2 z hz
    · simp at hz; subst hz; exact hs.2
theorem daysOf_goes {ct un : Int} {p t : List Int} (h : Goes ct un p) : daysOf ct un (p ++ t) = p ++ (if 0 < ct then (t.takeWhile (under un)).take (ct.toNat - p.length) else t.takeWhile (under un)) := by
  unfold daysOf
  rw [List.takeWhile_append_of_pos h.2]
  split
  · rename_i h0
    have := h.1 h0
    rw [List.take_append, List.take_of_length_le (by omega)]
  · rfl
theorem days_done {ct un : Int} {c : List Int} (h : Goes ct un c) : daysOf ct un c = c := by
  have := daysOf_goes (t := []) h
  simpa using this
theorem days_stop {ct un x : Int} {p c : List Int} (h : Goes ct un p) (hp : p ++ [x] <+: c) (hs : stopB ct un p.length x = true) : daysOf ct un c = p := by
  obtain ⟨t, rfl⟩ := hp
  rw [List.append_assoc, daysOf_goes h]
  simp only [stopB, Bool.or_eq_true, decide_eq_true_eq, Bool.not_eq_true'] at hs
  by_cases hu : under un x = true
  · rcases hs with ⟨h0, hn⟩ | hs
    · rw [if_pos h0, show ct.toNat - p.length = 0 by omega]; simp
    · rw [hu] at hs; cases hs
  · simp [hu]
theorem days_pre {ct un : Int} {p c : List Int} (h : Goes ct un p) (hp : p <+: c) : p <+: daysOf ct un c := by
  obtain ⟨t, rfl⟩ := hp
  rw [daysOf_goes h]
  exact List.prefix_append _ _
theorem daysOf_sub (ct un : Int) (c : List Int) : (daysOf ct un c).Sublist c := by
  unfold daysOf
  split
  · exact (List.take_sublist _ _).trans (List.takeWhile_sublist _)
  · exact List.takeWhile_sublist _
theorem daysOf_pre (ct un : Int) (c : List Int) : daysOf ct un c <+: c := by
  unfold daysOf
  split
  · exact (List.take_prefix _ _).trans (List.takeWhile_prefix _)
  · exact List.takeWhile_prefix _

theorem rise_pairwise {xs : List Int} (h : riseB xs = true) : xs.Pairwise (· < ·) := by
  unfold riseB at h
  rw [List.all_eq_true] at h
  have hk : ∀ i, i + 1 < xs.length → Ints.el xs i < Ints.el xs (i + 1) := fun i hi => by
    have := h i (List.mem_range.2 (by omega))
    simpa using this
  clear h
  have hd : ∀ j i, i < j → j < xs.length → Ints.el xs i < Ints.el xs j := by
    intro j
    induction j with
    | zero => intro i h; omega
    | succ j ih =>
      intro i h hj
      by_cases e : i = j
      · subst e; exact hk i hj
      · exact Int.lt_trans (ih i (by omega) (by omega)) (hk j hj)
  rw [List.pairwise_iff_getElem]
  intro i j hi hj hij
  have := hd j i hij hj
  simpa [Ints.el, List.getD_eq_getElem?_getD, hi, hj] using this
theorem days_in {xs : List Int} (h : daysB xs = true) : ∀ d ∈ xs, 0 ≤ d ∧ d ≤ 6 := by
  intro d hd
  unfold daysB at h
  rw [List.all_eq_true] at h
  simpa [inB] using h d hd
theorem cands_rise {start y m d : Int} {r : Ru} (he : 1 ≤ r.ev) (h1 : riseB r.ds = true) (h2 : daysB r.ds = true) : (cands start y m d r).Pairwise (· < ·) := by
  unfold cands
  split
  · simp
  · split
    · exact steps_rise (by omega)
    · split
      · refine wks_rise he ?_ ?_
        · unfold wdays; split
          · simp
          · exact rise_pairwise h1
        · unfold wdays; split
          · intro x hx; simp at hx; omega
          · exact days_in h2
      · refine mons_rise ?_
        have : 1 ≤ mulOf r.fq := by unfold mulOf; split <;> omega
        have := Int.mul_le_mul he this (by omega) (by omega)
        omega
theorem wdays_len {start : Int} {ds : List Int} (h1 : riseB ds = true) (h2 : daysB ds = true) : (wdays start ds).length ≤ 7 := by
  unfold wdays
  split
  · simp
  · have hp := rise_pairwise h1
    have hd := days_in h2
    have : ∀ (xs : List Int) (a : Int), xs.Pairwise (· < ·) → (∀ d ∈ xs, a ≤ d ∧ d ≤ 6) → a ≤ 7 → (xs.length : Int) ≤ 7 - a := by
      intro xs
      induction xs with
      | nil => intro a _ _ _; simp; omega
      | cons x xs ih =>
        intro a hp hd ha
        have hx := hd x (by simp)
        have := ih (x + 1) (List.pairwise_cons.1 hp).2 (fun d hm => ⟨by have := (List.pairwise_cons.1 hp).1 d hm; omega, (hd d (by simp [hm])).2⟩) (by omega)
        simp; omega
    have := this ds 0 hp hd (by omega)
    omega

/-- the n-th day of a list -/
def nthB (l : List Int) (n : Int) : Bool := decide (0 ≤ n ∧ n < l.length)
def nthV (l : List Int) (n : Int) : Int := if nthB l n = true then Ints.el l n.toNat else 0
/-- is a day one of a rising list: the first one that is not below it -/
def isB (l : List Int) (d : Int) : Bool := match l.find? (fun x => decide (d ≤ x)) with | some x => decide (x = d) | none => false
theorem isB_iff {l : List Int} (h : l.Pairwise (· < ·)) (d : Int) : isB l d = true ↔ d ∈ l := by
  unfold isB
  induction l with
  | nil => simp
  | cons x xs ih =>
    rw [List.find?_cons]
    have hp := List.pairwise_cons.1 h
    by_cases hd : d ≤ x
    · simp only [hd, decide_true]
      constructor
      · intro e; simp at e; simp [e]
      · intro e
        rcases List.mem_cons.1 e with e | e
        · simp [e]
        · have := hp.1 d e; omega
    · simp only [hd, decide_false]
      rw [ih hp.2]
      constructor
      · intro e; exact List.mem_cons_of_mem _ e
      · intro e
        rcases List.mem_cons.1 e with e | e
        · omega
        · exact e
theorem nth_yes {l : List Int} {n : Nat} (h : n < l.length) : nthB l n = true := decide_eq_true ⟨by omega, by omega⟩
theorem nth_el {l : List Int} {n : Nat} (h : n < l.length) : nthV l n = l[n] := by unfold nthV; rw [if_pos (nth_yes h)]; simp [Ints.el, h]
theorem nth_no {l : List Int} {n : Nat} (h : ¬ n < l.length) : nthB l n = false := decide_eq_false (by omega)
theorem nth_zero {l : List Int} {n : Nat} (h : ¬ n < l.length) : nthV l n = 0 := by unfold nthV; rw [nth_no h]; rfl
theorem nth_congr {l l' : List Int} {n : Nat} (h : l[n]? = l'[n]?) : nthB l n = nthB l' n ∧ nthV l n = nthV l' n := by
  by_cases h1 : n < l.length
  · have h2 : n < l'.length := by
      rw [List.getElem?_eq_getElem h1] at h
      exact (List.getElem?_eq_some_iff.1 h.symm).1
    refine ⟨by rw [nth_yes h1, nth_yes h2], ?_⟩
    rw [nth_el h1, nth_el h2]
    rw [List.getElem?_eq_getElem h1, List.getElem?_eq_getElem h2] at h
    exact Option.some.inj h
  · have h2 : ¬ n < l'.length := by
      intro h2
      rw [List.getElem?_eq_getElem h2] at h
      exact h1 (List.getElem?_eq_some_iff.1 h).1
    exact ⟨by rw [nth_no h1, nth_no h2], by rw [nth_zero h1, nth_zero h2]⟩
theorem while_get {l : List Int} (h : l.Pairwise (· < ·)) (u : Int) (n : Nat) (hn : n < l.length) : (l.takeWhile (fun x => decide (x ≤ u)))[n]? = if l[n] ≤ u then some l[n] else none := by
  induction l generalizing n with
  | nil => simp at hn
  | cons x xs ih =>
    have hp := List.pairwise_cons.1 h
    by_cases hx : x ≤ u
    · simp only [List.takeWhile_cons, hx, decide_true, if_true]
      cases n with
      | zero => simp [hx]
      | succ n => simpa using ih hp.2 n (by simpa using hn)
    · simp only [List.takeWhile_cons, hx, decide_false]
      cases n with
      | zero => simp [hx]
      | succ n =>
        have h1 : n < xs.length := by simpa using hn
        have := hp.1 xs[n] (List.getElem_mem h1)
        simp; omega
theorem daysOf_free (c : List Int) : daysOf 0 (-1) c = c := by
  have : Goes 0 (-1) c := ⟨fun h => by omega, fun x _ => by simp [under]⟩
  exact days_done this
theorem daysOf_count {n : Int} (h : 1 ≤ n) (c : List Int) : daysOf n (-1) c = c.take n.toNat := by
  unfold daysOf
  rw [if_pos (by omega)]
  congr 1
  have : Goes 0 (-1) c := ⟨fun h => by omega, fun x _ => by simp [under]⟩
  have := days_done this
  unfold daysOf at this
  simpa using this
theorem daysOf_end {u : Int} (h : 0 ≤ u) (c : List Int) : daysOf 0 u c = c.takeWhile (fun x => decide (x ≤ u)) := by
  unfold daysOf
  rw [if_neg (by omega)]
  congr 1
  funext x
  simp only [under]
  congr 1
  simp only [eq_iff_iff]
  omega
/-- a round of ExpandCounts holds -/
theorem counts_round {c : List Int} (h : c.Pairwise (· < ·)) {n u : Int} (hn : 1 ≤ n) (hu : 0 ≤ u) {i : Nat} (hi : (i : Int) < n) :
    nthB c i = nthB (daysOf n (-1) c) i ∧ nthV c i = nthV (daysOf n (-1) c) i ∧ nthB (daysOf 0 u c) i = (nthB c i && decide (nthV c i ≤ u)) ∧ (nthB (daysOf 0 u c) i = true → nthV (daysOf 0 u c) i = nthV c i) := by
  have h1 : c[i]? = (daysOf n (-1) c)[i]? := by rw [daysOf_count hn, List.getElem?_take_of_lt (by omega)]
  obtain ⟨a, b⟩ := nth_congr h1
  refine ⟨a, b, ?_⟩
  rw [daysOf_end hu]
  by_cases hc : i < c.length
  · have hw := while_get h u i hc
    rw [nth_yes hc, nth_el hc]
    by_cases hle : c[i] ≤ u
    · rw [if_pos hle] at hw
      obtain ⟨h2, h3⟩ := List.getElem?_eq_some_iff.1 hw
      exact ⟨by rw [nth_yes h2]; simp [hle], fun _ => by rw [nth_el h2, h3]⟩
    · rw [if_neg hle] at hw
      have h2 : ¬ i < (c.takeWhile (fun x => decide (x ≤ u))).length := by
        have := List.getElem?_eq_none_iff.1 hw; omega
      exact ⟨by rw [nth_no h2]; simp [hle], fun e => by rw [nth_no h2] at e; cases e⟩
  · have h2 : ¬ i < (c.takeWhile (fun x => decide (x ≤ u))).length := by
      have := (List.takeWhile_sublist (fun x : Int => decide (x ≤ u)) (l := c)).length_le; omega
    exact ⟨by rw [nth_no hc, nth_no h2]; rfl, fun e => by rw [nth_no h2] at e; cases e⟩
theorem counts_end {c : List Int} {n : Int} (hn : 1 ≤ n) : nthB (daysOf n (-1) c) n = false := by
  rw [daysOf_count hn]
  refine decide_eq_false ?_
  have := List.length_take_le n.toNat c
  omega

/-- a rule with another step, count, end -/
theorem cands_other (start y m d : Int) (r : Ru) (ct un : Int) : cands start y m d { r with ct := ct, un := un } = cands start y m d r := rfl
theorem cands_wide {start y m d : Int} {r : Ru} (he : 1 ≤ r.ev) : ∀ x ∈ cands start y m d { r with ev := 2 * r.ev }, x ∈ cands start y m d r := by
  have hmod : ∀ {z s : Int}, z % (2 * s) = 0 → z % s = 0 := fun {z s} h => Int.emod_eq_zero_of_dvd (Int.dvd_trans ⟨2, by omega⟩ (Int.dvd_of_emod_eq_zero h))
  intro x hx
  unfold cands at hx ⊢
  dsimp only at hx
  by_cases h1 : r.fq.toList = [111, 110, 99, 101]
  · rw [if_pos h1] at hx ⊢; exact hx
  · rw [if_neg h1] at hx ⊢
    by_cases h2 : r.fq.toList = [100, 97, 105, 108, 121]
    · rw [if_pos h2] at hx ⊢
      rw [steps_mem (by omega)] at hx ⊢
      exact ⟨hx.1, hx.2.1, hmod hx.2.2⟩
    · rw [if_neg h2] at hx ⊢
      by_cases h3 : r.fq.toList = [119, 101, 101, 107, 108, 121]
      · rw [if_pos h3] at hx ⊢
        rw [wks, List.mem_flatMap] at hx ⊢
        obtain ⟨k, hk, hx⟩ := hx
        rw [steps_mem (by omega)] at hk
        exact ⟨k, by rw [steps_mem (by omega)]; exact ⟨hk.1, hk.2.1, hmod (by rw [show 2 * (7 * r.ev) = 7 * (2 * r.ev) by omega]; exact hk.2.2)⟩, hx⟩
      · rw [if_neg h3] at hx ⊢
        have : 1 ≤ mulOf r.fq := by unfold mulOf; split <;> omega
        have := Int.mul_le_mul he this (by omega) (by omega)
        rw [mons, List.mem_flatMap] at hx ⊢
        obtain ⟨k, hk, hx⟩ := hx
        rw [Int.mul_assoc, steps_mem (by omega)] at hk
        exact ⟨k, by rw [steps_mem (by omega)]; exact ⟨hk.1, hk.2.1, hmod hk.2.2⟩, hx⟩
/-- candidates lie from the start on, up to the last day -/
theorem cands_bd {start y m d : Int} {r : Ru} (ha : Cal.At start y m d) (he : 1 ≤ r.ev) : ∀ x ∈ cands start y m d r, start ≤ x ∧ x ≤ 73048 := by
  intro x hx
  have hb := Cal.at_bd ha
  unfold cands at hx
  split at hx
  · simp at hx; omega
  · split at hx
    · have := (steps_mem (by omega)).1 hx; omega
    · split at hx
      · rw [wks, List.mem_flatMap] at hx
        obtain ⟨k, hk, hx⟩ := hx
        have := wkC_mem.1 hx; omega
      · rw [mons, List.mem_flatMap] at hx
        obtain ⟨k, hk, hx⟩ := hx
        have : 1 ≤ mulOf r.fq := by unfold mulOf; split <;> omega
        have := Int.mul_le_mul he this (by omega) (by omega)
        have hk2 := (steps_mem (by omega)).1 hk
        unfold monC at hx
        split at hx
        · rename_i hB
          simp at hx
          subst hx
          refine ⟨?_, (Cal.addV_bd _ _).2⟩
          obtain ⟨q1, q2⟩ := ha
          have hr := Cal.ok_range q1
          rw [Cal.addV_yes hB, ← q2]
          by_cases hz : k = 0
          · subst hz
            have := Cal.kth_self (y := y) hr.2.2.1 hr.2.2.2.1
            rw [this.1, this.2]; omega
          · exact Int.le_of_lt (Cal.num_lt q1 (Cal.addB_yes hB).2 (by unfold Cal.kth; omega))
        · simp at hx

end Cand
end Go.Proofs.YtenmeaoagepfnaaGreatDoor
end
