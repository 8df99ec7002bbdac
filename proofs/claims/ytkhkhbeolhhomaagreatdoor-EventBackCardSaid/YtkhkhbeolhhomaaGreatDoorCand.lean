/- The candidates of a start and a rule: the iterator candidates$1 (in work). -/
import Derived.Test.YtkhkhbeolhhomaaGreatDoorRuleText
import Derived.Test.YtkhkhbeolhhomaaGreatDoorDayMore
import Derived.Test.YtkhkhbeolhhomaaGreatDoorDayText
import Derived.Test.YtkhkhbeolhhomaaGreatDoorFrame
namespace Go.Proofs.YtkhkhbeolhhomaaGreatDoor
open Go Go.RowKit Go.Shelf Lmd
attribute [local go_sem] Oper.semAt_some
namespace Cand
open Rul

/-- the start's box and the rule's box -/
structure Boxes (w : World) (br bs : Nat) (start : Int) (r : Ru) (v : Value) : Prop where
  s : w.cell? ⟨bs, 0, none⟩ = some (.int .i64 start)
  r0 : w.cell? ⟨br, 0, none⟩ = some (.string r.fq)
  r1 : w.cell? ⟨br, 1, none⟩ = some (.int .i64 r.ev)
  r2 : w.cell? ⟨br, 2, none⟩ = some v
  r3 : w.cell? ⟨br, 3, none⟩ = some (.int .i64 r.ct)
  r4 : w.cell? ⟨br, 4, none⟩ = some (.int .i64 r.un)
  rd : Ints.Reads w v r.ds
/-- the iterator's captured variables -/
def lb (br bs : Nat) : Array Value := #[.pointer (some ⟨br, 0, none⟩), .pointer (some ⟨bs, 0, none⟩)]
/-- the caller's own blocks are none of these, and lie above a base -/
def Apart (base br bs : Nat) (v : Value) (O : Nat → Prop) : Prop := ¬ O br ∧ ¬ O bs ∧ (∀ b o n c, v = .slice (some ⟨b, o, none⟩) n c → n ≠ 0 → ¬ O b) ∧ ∀ b, O b → base ≤ b

/-- months of a step -/
def mulOf (fq : ByteArray) : Int := if fq.toList = [121, 101, 97, 114, 108, 121] then 12 else 1
theorem mulOf_yes {fq : ByteArray} (h : fq.toList = [121, 101, 97, 114, 108, 121]) : mulOf fq = 12 := if_pos h
theorem mulOf_no {fq : ByteArray} (h : ¬ fq.toList = [121, 101, 97, 114, 108, 121]) : mulOf fq = 1 := if_neg h
theorem months_any (fq : ByteArray) (w : World) : Calls Tryz.prog 203 #[.string fq] w fun e w' => e = .returned (.int .i64 (mulOf fq)) ∧ w' = w := by
  by_cases h : fq.toList = [121, 101, 97, 114, 108, 121]
  · rw [mulOf_yes h]
    go_enter Tryz.func203, Tryz.ntmps203
    go_wp2
    go_ret
    exact ⟨rfl, rfl⟩
  · rw [mulOf_no h]
    have hq : (fq.toList == [121, 101, 97, 114, 108, 121]) = false := by simpa using h
    clear h
    go_enter Tryz.func203, Tryz.ntmps203
    go_wp2
    go_ret
    exact ⟨rfl, rfl⟩

set_option maxRecDepth 100000 in
set_option maxHeartbeats 2000000 in
theorem once_seq (base br bs : Nat) (start : Int) (r : Ru) (v : Value) (w : World) (hB : Boxes w br bs start r v) (hf : r.fq = once) :
    Rng.Seq Tryz.prog 201 (lb br bs) (fun x : Int => #[.int .i64 x]) (Apart base br bs v) (fun xs => xs = [start]) (fun pre => pre = [start]) 1 w := by
  intro O l J Jx W hW hO _ _ hJ hJx hY h0
  refine (callsIn_wide (n := Rng.dp + 1)).1 ?_
  refine callsIn_of_wp Tryz.func201 rfl trivial ?_ rfl
  simp only [Tryz.ntmps201, lb, List.size_toArray, List.length_cons, List.length_nil, Nat.reduceAdd, Nat.reduceSub, Array.replicate_succ, Array.replicate_zero, List.push_toArray, List.append_toArray, List.nil_append, List.cons_append]
  have k0 := cell_later hW hB.r0
  have ks := cell_later hW hB.s
  rw [hf] at k0
  obtain ⟨f1, t1, a1, b1, hy1, hR1⟩ := hY W.heap.size [] start W (Nat.le_refl _) (h0 W (Below.refl _ _)) (by simp)
  dsimp only at hy1
  gi_wp2
  refine hR1.mono ?_
  rintro e W1 (⟨rfl, hJ1, hk1⟩ | ⟨rfl, hx1, hr1⟩)
  · gi_wp2
    go_end0
    exact ⟨⟨_, rfl⟩, W.heap.size, Nat.le_refl _, .inl ⟨[start], rfl, hJ1⟩⟩
  · gi_wp2
    go_end0
    exact ⟨⟨_, rfl⟩, W.heap.size, Nat.le_refl _, .inr ⟨[start], rfl, hx1⟩⟩

/-- what a loop 'for x := a; x <= hi; x += s' goes through -/
def steps (a s hi : Int) : List Int := (List.range ((hi - a) / s + 1).toNat).map fun (k : Nat) => a + s * (k : Int)
/-- .. up to the k-th -/
def upTo (a s : Int) (k : Nat) : List Int := (List.range k).map fun (k : Nat) => a + s * (k : Int)
theorem upTo_succ (a s : Int) (k : Nat) : upTo a s (k + 1) = upTo a s k ++ [a + s * k] := by simp [upTo, List.range_succ]
theorem upTo_len (a s : Int) (k : Nat) : (upTo a s k).length = k := by simp [upTo]
theorem steps_of {a s hi : Int} {k : Nat} (hs : 0 < s) (h1 : hi < a + s * k) (h2 : k = 0 ∨ a + s * ((k : Int) - 1) ≤ hi) : steps a s hi = upTo a s k := by
  have : ((hi - a) / s + 1).toNat = k := by
    have h3 : (hi - a) / s < k := Int.ediv_lt_of_lt_mul hs (by rw [Int.mul_comm]; omega)
    rcases h2 with rfl | h2
    · have : (hi - a) / s < 0 := h3
      omega
    · have h4 : (k : Int) - 1 ≤ (hi - a) / s := Int.le_ediv_of_mul_le hs (by rw [Int.mul_comm]; omega)
      omega
  rw [steps, this]; rfl

theorem upTo_pre (a s : Int) (m d : Nat) : upTo a s m <+: upTo a s (m + d) := by
  induction d with
  | zero => exact List.prefix_rfl
  | succ d ih => rw [← Nat.add_assoc, upTo_succ]; exact ih.trans (List.prefix_append _ _)
theorem steps_pre {a s hi : Int} {k : Nat} (hs : 0 < s) (h : a + s * k ≤ hi) : upTo a s (k + 1) <+: steps a s hi := by
  have h4 : (k : Int) ≤ (hi - a) / s := Int.le_ediv_of_mul_le hs (by rw [Int.mul_comm]; omega)
  obtain ⟨d, hd⟩ : ∃ d, ((hi - a) / s + 1).toNat = (k + 1) + d := ⟨((hi - a) / s + 1).toNat - (k + 1), by omega⟩
  have : steps a s hi = upTo a s ((k + 1) + d) := by rw [steps, hd]; rfl
  rw [this]
  exact upTo_pre _ _ _ _
theorem step_succ (a s : Int) (k : Nat) : a + s * ((k + 1 : Nat) : Int) = a + s * k + s := by rw [Int.natCast_add, Int.mul_add]; simp only [Int.natCast_one, Int.mul_one]; omega
theorem step_le {s : Int} (hs : 1 ≤ s) (k : Nat) : (k : Int) ≤ s * k := by
  have := Int.mul_le_mul_of_nonneg_right hs (Int.natCast_nonneg k)
  simpa using this

set_option maxRecDepth 100000 in
set_option maxHeartbeats 2000000 in
theorem daily_seq (base br bs : Nat) (start : Int) (r : Ru) (v : Value) (w : World) (hB : Boxes w br bs start r v) (hf : r.fq = daily) (hs0 : 0 ≤ start) (hs1 : start ≤ 73048) (he0 : 1 ≤ r.ev) (he1 : r.ev ≤ 100) :
    Rng.Seq Tryz.prog 201 (lb br bs) (fun x : Int => #[.int .i64 x]) (Apart base br bs v) (fun xs => xs = steps start r.ev 73048) (fun pre => pre <+: steps start r.ev 73048) 100000 w := by
  intro O l J Jx W hW hO _ _ hJ hJx hY h0
  refine (callsIn_wide (n := Rng.dp + 1)).1 ?_
  refine callsIn_of_wp Tryz.func201 rfl trivial ?_ rfl
  simp only [Tryz.ntmps201, lb, List.size_toArray, List.length_cons, List.length_nil, Nat.reduceAdd, Nat.reduceSub, Array.replicate_succ, Array.replicate_zero, List.push_toArray, List.append_toArray, List.nil_append, List.cons_append]
  have k0 := cell_later hW hB.r0
  have k1 := cell_later hW hB.r1
  have ks := cell_later hW hB.s
  rw [hf] at k0
  have HJ0 := Lib.hid (h0 W (Below.refl _ _))
  have HY := Lib.hid hY
  clear h0 hY
  have hbr := cell_lt k1
  gi_wp2
  gi_loopw [4] (fun p wr => ∃ k : Nat, p = .int .i64 (start + r.ev * k) ∧ (k = 0 ∨ start + r.ev * ((k : Int) - 1) ≤ 73048) ∧ Rng.Stay O W.heap.size W wr ∧ J W.heap.size (upTo start r.ev k) wr) (fun p _ => (73249 - intOf p).toNat)
  case atStart => exact ⟨0, by simp, Or.inl rfl, Rng.Stay.refl _ _ _, HJ0.out⟩
  case round =>
    obtain ⟨k, rfl, hk, hst, hj⟩ := hrel
    have hkl := step_le he0 k
    have hnn : (0 : Int) ≤ r.ev * k := by omega
    obtain ⟨x, hx⟩ : ∃ x, start + r.ev * (k : Int) = x := ⟨_, rfl⟩
    have hx0 : 0 ≤ x := by omega
    have HX := Lib.hid hx
    have HS := Lib.hid hst
    have HJ1 := Lib.hid hj
    have HK := Lib.hid hk
    have HKL := Lib.hid hkl
    rw [hx]
    clear hx hst hj hk hkl hnn
    by_cases hle : x ≤ 73048
    · obtain ⟨f1, t1, a1, b1, hy1, hR1⟩ := HY.out W.heap.size (upTo start r.ev k) x _ (Nat.le_refl _) HJ1.out (by rw [upTo_len]; have := HX.out; have := HKL.out; omega)
      gi_wp2
      refine hR1.mono ?_
      rintro e W1 (⟨rfl, hJ1, hk1⟩ | ⟨rfl, hx1, hr1⟩)
      · have k1' := stay_cell (HS.out.trans hk1) k1 hO.1 hbr
        have HJ2 := Lib.hid hJ1
        have HK1 := Lib.hid hk1
        clear hJ1 hk1
        gi_wp2
        go_roundw
        case rel => exact ⟨k + 1, by rw [step_succ, HX.out], Or.inr (by rw [show ((k + 1 : Nat) : Int) - 1 = k by omega, HX.out]; exact hle), HS.out.trans HK1.out, by rw [upTo_succ, HX.out]; exact HJ2.out⟩
        case measure => simp [intOf]; omega
      · gi_wp2
        go_end0
        exact ⟨⟨_, rfl⟩, W.heap.size, Nat.le_refl _, .inr ⟨upTo start r.ev k ++ [x], by rw [← HX.out, ← upTo_succ]; exact steps_pre (by omega) (by rw [HX.out]; exact hle), hx1⟩⟩
    · gi_wp2
      refine ⟨fun _ h => (by cases h), ?_⟩
      gi_wp2
      go_end0
      exact ⟨⟨_, rfl⟩, W.heap.size, Nat.le_refl _, .inl ⟨upTo start r.ev k, (steps_of (by omega) (by rw [HX.out]; omega) HK.out).symm, HJ1.out⟩⟩

/-- a candidate of k months more, if there is one -/
def monC (y m d k : Int) : List Int := if Cal.addB (Cal.kth y m k) d then [Cal.addV (Cal.kth y m k) d] else []
def monTo (y m d s : Int) (k : Nat) : List Int := (upTo 0 s k).flatMap (monC y m d)
def mons (y m d s : Int) : List Int := (steps 0 s 2400).flatMap (monC y m d)
theorem monTo_succ (y m d s : Int) (k : Nat) : monTo y m d s (k + 1) = monTo y m d s k ++ monC y m d (0 + s * k) := by simp [monTo, upTo_succ]
theorem monTo_len (y m d s : Int) (k : Nat) : (monTo y m d s k).length ≤ k := by
  induction k with
  | zero => simp [monTo, upTo]
  | succ k ih =>
    rw [monTo_succ, List.length_append]
    have : (monC y m d (0 + s * k)).length ≤ 1 := by unfold monC; split <;> simp
    omega
theorem mons_pre {y m d s : Int} {k : Nat} (hs : 0 < s) (h : 0 + s * k ≤ 2400) : monTo y m d s (k + 1) <+: mons y m d s := by
  obtain ⟨t, ht⟩ := steps_pre hs h
  exact ⟨t.flatMap (monC y m d), by rw [mons, ← ht, List.flatMap_append]; rfl⟩

end Cand
end Go.Proofs.YtkhkhbeolhhomaaGreatDoor
