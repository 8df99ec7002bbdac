/- package rule: Check, Text; general laws. -/
import Derived.Test.YtghkalamlcfnnaaGreatDoorQA1
import Derived.Test.YtghkalamlcfnnaaGreatDoorRows
import Derived.Test.YtghkalamlcfnnaaGreatDoorQShelf
import Derived.Test.YtghkalamlcfnnaaGreatDoorQA2
import Derived.Test.YtghkalamlcfnnaaGreatDoorQA3
import Derived.WalkKit
import Derived.LaidEql
import Derived.Stop.Asserts
import Derived.RowKitTokens
import Derived.WalkSpells
import Derived.WalkLawsBesides
import Derived.Lib.Hide
import Derived.Deep.Cut
import Derived.Deep.CutRange
import Derived.Maps.AppendAt
import Derived.OwnWalk
import Derived.OwnWalkIn
import Derived.Lib.ItoaLen
namespace Go.Proofs.YtghkalamlcfnnaaGreatDoor
open Go.RowKit
namespace Er
open Go.Proofs.YtghkalamlcfnnaaGreatDoor.Frame (Sent)
def tx (l : List UInt8) : List UInt8 := [108, 97, 109, 109, 97, 115, 116, 105, 100, 101, 58, 32] ++ l
structure Errs (w : World) (e : Nat → Addr) : Prop where
  s0 : Sent w 1 (tx [116, 101, 120, 116]) (e 0)
  s1 : Sent w 0 (tx [98, 111, 117, 110, 100]) (e 1)
  s2 : Sent w 6 (tx [115, 104, 97, 112, 101]) (e 2)
  s3 : Sent w 3 (tx [110, 97, 109, 101]) (e 3)
  s4 : Sent w 4 (tx [110, 111, 110, 101]) (e 4)
  s5 : Sent w 7 (tx [101, 120, 105, 115, 116]) (e 5)
  s6 : Sent w 2 (tx [102, 117, 108, 108]) (e 6)
  s7 : Sent w 8 (tx [111, 114, 100, 101, 114]) (e 7)
  s8 : Sent w 5 (tx [115, 116, 97, 108, 101]) (e 8)
  s9 : Sent w 9 (tx [99, 108, 97, 115, 104]) (e 9)
  s10 : Sent w 10 (tx [111, 102, 102]) (e 10)
  handle : w.cell? ⟨11, 0, none⟩ = some (.iface 246 (.agg #[.pointer (some ⟨20, 60, none⟩)]))
abbrev ev (a : Addr) : Value := .iface 348 (.pointer (some a))
end Er
end Go.Proofs.YtghkalamlcfnnaaGreatDoor
namespace Go.Proofs.YtghkalamlcfnnaaGreatDoor
open Go Go.RowKit Lmd
namespace Rul
structure Ru where
  (fq : ByteArray) (ev ct un : Int) (ds : List Int)
def Ru.val (r : Ru) (v : Value) : Value := .agg #[.string r.fq, .int .i64 r.ev, v, .int .i64 r.ct, .int .i64 r.un]
abbrev once : ByteArray := ⟨#[111, 110, 99, 101]⟩
abbrev daily : ByteArray := ⟨#[100, 97, 105, 108, 121]⟩
abbrev weekly : ByteArray := ⟨#[119, 101, 101, 107, 108, 121]⟩
abbrev monthly : ByteArray := ⟨#[109, 111, 110, 116, 104, 108, 121]⟩
abbrev yearly : ByteArray := ⟨#[121, 101, 97, 114, 108, 121]⟩
def freqs : List ByteArray := [once, daily, weekly, monthly, yearly]
def inB (n a b : Int) : Bool := decide (a ≤ n ∧ n ≤ b)
def boundB (r : Ru) : Bool := inB r.ev 1 100 && inB r.ct 0 1000 && inB r.un (-1) 73048
def daysB (xs : List Int) : Bool := xs.all fun d => inB d 0 6
def shapeB (r : Ru) : Bool := (!decide (r.fq.toList = [111, 110, 99, 101]) || decide (r.ev = 1) && decide (r.ct = 0) && decide (r.un = -1)) && (decide (r.fq.toList = [119, 101, 101, 107, 108, 121]) || decide (r.ds = [])) && (decide (r.ct = 0) || decide (r.un = -1))
def riseB (xs : List Int) : Bool := (List.range (xs.length - 1)).all fun i => decide (Ints.el xs i < Ints.el xs (i + 1))
def bad (r : Ru) : Nat :=
  if Lib.containsS freqs r.fq = false then 4 else if (boundB r && daysB r.ds) = false then 2 else if shapeB r = false then 3 else if riseB r.ds = false then 8 else 0
theorem within_any (n a b : Int) (w : World) : Calls Tryz.prog 168 #[.int .i64 n, .int .i64 a, .int .i64 b] w fun e w' => e = .returned (.bool (inB n a b)) ∧ w' = w := by
  by_cases h1 : a ≤ n
  · by_cases h2 : n ≤ b
    · have hq : inB n a b = true := decide_eq_true ⟨h1, h2⟩
      have HQ := Lib.hid hq
      clear hq
      go_enter Tryz.func168, Tryz.ntmps168
      go_wp2
      go_ret
      exact ⟨by rw [HQ.out]; rfl, rfl⟩
    · have hq : inB n a b = false := decide_eq_false (fun h => h2 h.2)
      have HQ := Lib.hid hq
      clear hq
      go_enter Tryz.func168, Tryz.ntmps168
      go_wp2
      go_ret
      exact ⟨by rw [HQ.out]; rfl, rfl⟩
  · have hq : inB n a b = false := decide_eq_false (fun h => h1 h.1)
    have HQ := Lib.hid hq
    clear hq
    go_enter Tryz.func168, Tryz.ntmps168
    go_wp2
    go_ret
    exact ⟨by rw [HQ.out]; rfl, rfl⟩
theorem heap_new (w : World) (o : Obj) : (w.alloc o).heap[w.heap.size]? = some o := by show (w.heap.push o)[w.heap.size]? = _; simp
abbrev freqsV : Array Value := #[.string once, .string daily, .string weekly, .string monthly, .string yearly]
theorem cell_of {W : World} {B : Nat} {vs : Array Value} {t : TypeId} {i : Nat} {v : Value} (h : W.heap[B]? = some (.cells vs t)) (hv : vs[i]? = some v) : W.cell? ⟨B, i, none⟩ = some v := by
  simp only [World.cell?, h]; exact hv
theorem freqs_new (w : World) : Calls Tryz.prog 167 #[] w fun e w' => e = .returned (.slice (some ⟨w.heap.size, 0, none⟩) 5 5) ∧ w' = w.alloc (.cells freqsV 9) := by
  go_enter Tryz.func167, Tryz.ntmps167
  go_wp2
  go_ret
  exact ⟨rfl, rfl⟩
theorem freqs_cells (W : World) (B : Nat) (h : W.heap[B]? = some (.cells freqsV 9)) (j : Nat) (hj : j < freqs.length) : W.cell? ⟨B, 0 + j, none⟩ = some (.string (freqs.getD j ByteArray.empty)) := by
  simp only [World.cell?, h, Nat.zero_add]
  have hj' : j < 5 := hj
  have : j = 0 ∨ j = 1 ∨ j = 2 ∨ j = 3 ∨ j = 4 := by omega
  rcases this with rfl | rfl | rfl | rfl | rfl <;> rfl
theorem freqs_has (W : World) (B : Nat) (h : W.heap[B]? = some (.cells freqsV 9)) (x : ByteArray) :
    Calls Tryz.prog 100 #[.slice (some ⟨B, 0, none⟩) 5 5, .string x] W fun e w' => e = .returned (.bool (Lib.containsS freqs x)) ∧ w' = W :=
  (Tryz.slices_Contains_string B 0 5 5 freqs x W (by decide) (by decide) (freqs_cells W B h)).mono fun _ _ ⟨h1, h2⟩ => ⟨h1, h2⟩
set_option maxHeartbeats 4000000 in
theorem shape_any (r : Ru) (a : Option Addr) (cap : Nat) (w : World) (hl : r.ds.length < 50000) :
    Calls Tryz.prog 169 #[r.val (.slice a r.ds.length cap)] w fun e w' => e = .returned (.bool (shapeB r)) ∧ Below w.heap.size w w' := by
  obtain ⟨fq, ev, ct, un, ds⟩ := r
  simp only [Ru.val] at *
  obtain ⟨q, hq⟩ : ∃ q, shapeB ⟨fq, ev, ct, un, ds⟩ = q := ⟨_, rfl⟩
  have HQ := Lib.hid hq
  rw [hq]
  clear hq
  go_enter Tryz.func169, Tryz.ntmps169
  go_wp2
  all_goals go_ret
  all_goals refine ⟨?_, (Below.refl _ w).alloc (Nat.le_refl _) _⟩
  all_goals (have hq := HQ.out; clear HQ; subst hq; simp_all [shapeB])
  all_goals (by_cases hu : un = -1 <;> simp_all)
end Rul
end Go.Proofs.YtghkalamlcfnnaaGreatDoor
namespace Go.Proofs.YtghkalamlcfnnaaGreatDoor
open Go Go.RowKit Lmd
namespace Rul
open Er Day
structure E4 (w : World) (e : Nat → Addr) : Prop where
  s1 : Frame.Sent w 0 (tx [98, 111, 117, 110, 100]) (e 1)
  s2 : Frame.Sent w 6 (tx [115, 104, 97, 112, 101]) (e 2)
  s3 : Frame.Sent w 3 (tx [110, 97, 109, 101]) (e 3)
  s7 : Frame.Sent w 8 (tx [111, 114, 100, 101, 114]) (e 7)
theorem E4.below {w w' : World} {e : Nat → Addr} (h : E4 w e) (hb : Below w.heap.size w w') : E4 w' e := ⟨h.s1.below hb, h.s2.below hb, h.s3.below hb, h.s7.below hb⟩
def errV (e : Nat → Addr) : Nat → Value
  | 0 => .nilIface
  | k + 1 => ev (e k)
def daysTo (xs : List Int) (k : Nat) : Bool := (List.range k).all fun i => inB (Ints.el xs i) 0 6
theorem daysTo_succ (xs : List Int) (k : Nat) : daysTo xs (k + 1) = (daysTo xs k && inB (Ints.el xs k) 0 6) := by simp [daysTo, List.range_succ]
theorem daysTo_all (xs : List Int) : daysTo xs xs.length = daysB xs := by
  rw [Bool.eq_iff_iff]
  simp only [daysTo, daysB, List.all_eq_true, List.mem_range]
  constructor
  · intro h x hx
    obtain ⟨i, hi, rfl⟩ := List.mem_iff_getElem.1 hx
    rw [← Ints.el_lt hi]; exact h i hi
  · intro h i hi
    rw [Ints.el_lt hi]; exact h _ (List.getElem_mem _)
theorem bad_name {r : Ru} (h : Lib.containsS freqs r.fq = false) : bad r = 4 := by simp [bad, h]
theorem bad_bound {r : Ru} (h : Lib.containsS freqs r.fq = true) (hb : (boundB r && daysB r.ds) = false) : bad r = 2 := by simp only [bad, h, hb]; simp
theorem bad_shape {r : Ru} (h : Lib.containsS freqs r.fq = true) (hb : (boundB r && daysB r.ds) = true) (hs : shapeB r = false) : bad r = 3 := by simp only [bad, h, hb, hs]; simp
theorem bad_order {r : Ru} (h : Lib.containsS freqs r.fq = true) (hb : (boundB r && daysB r.ds) = true) (hs : shapeB r = true) (hq : riseB r.ds = false) : bad r = 8 := by simp only [bad, h, hb, hs, hq]; simp
theorem bad_none {r : Ru} (h : Lib.containsS freqs r.fq = true) (hb : (boundB r && daysB r.ds) = true) (hs : shapeB r = true) (hq : riseB r.ds = true) : bad r = 0 := by simp only [bad, h, hb, hs, hq]; simp
theorem rise_no {xs : List Int} {k : Nat} (h : k + 1 < xs.length) (hq : Ints.el xs (k + 1) ≤ Ints.el xs k) : riseB xs = false := by
  cases hr : riseB xs with
  | false => rfl
  | true =>
    have := List.all_eq_true.1 hr k (List.mem_range.2 (by omega))
    simp only [decide_eq_true_eq] at this
    omega
theorem rise_yes {xs : List Int} {k : Nat} (h : xs.length ≤ k + 1) (hq : ∀ j, j < k → Ints.el xs j < Ints.el xs (j + 1)) : riseB xs = true :=
  List.all_eq_true.2 fun i hi => decide_eq_true (hq i (by have := List.mem_range.1 hi; omega))
set_option maxRecDepth 100000 in
set_option maxHeartbeats 4000000 in
theorem check_any (r : Ru) (v : Value) (e : Nat → Addr) (w : World) (he : E4 w e) (hr : Ints.Reads w v r.ds) (hl : r.ds.length < 50000) :
    Calls Tryz.prog 114 #[r.val v] w fun e' w' => e' = .returned (errV e (bad r)) ∧ Below w.heap.size w w' := by
  obtain ⟨a, cap, rfl⟩ := hr.shape
  obtain ⟨q, hq⟩ : ∃ q, bad r = q := ⟨_, rfl⟩
  rw [hq]
  have HQ := Lib.hid hq
  clear hq
  have hE : ∀ W, Below w.heap.size w W → E4 W e := fun W hW => he.below hW
  have HE := Lib.hid hE
  have HR := Lib.hid hr
  clear he hE hr
  obtain ⟨fq, ev', ct, un, ds⟩ := r
  simp only [Ru.val] at *
  have hF := heap_new (w.alloc (.cells #[.string fq, .int .i64 ev', .slice a ds.length cap, .int .i64 ct, .int .i64 un] 37)) (.cells freqsV 9)
  rw [World.size_alloc] at hF
  have HF := Lib.hid hF
  clear hF
  go_enter Tryz.func114, Tryz.ntmps114
  go_wp2_with fail
  generalize hc : Lib.containsS freqs fq = c
  have HC := Lib.hid hc
  clear hc
  go_cut [11] from 7 (fun s11 wc => s11 = .bool (!c) ∧ Below w.heap.size w wc ∧ wc.heap[w.heap.size]? = some (.cells #[.string fq, .int .i64 ev', .slice a ds.length cap, .int .i64 ct, .int .i64 un] 37))
  case first =>
    go_region_with (first
      | (go_at_call 167; refine (freqs_new _).mono ?_; rintro e1 w1 ⟨rfl, rfl⟩)
      | (go_at_call 100; refine (freqs_has _ _ (by exact HF.out) _).mono ?_; rw [HC.out]; rintro e1 w1 ⟨rfl, rfl⟩))
    all_goals go_wp2_with fail
    all_goals go_meet
    all_goals exact ⟨rfl, below_draw (((Below.refl _ w).alloc (Nat.le_refl _) _).alloc (by simp) _) 1, by show ((w.alloc _).alloc _).heap[w.heap.size]? = _; rw [Below.heap_alloc _ _ _ (by simp)]; exact heap_new w _⟩
  case rest =>
    obtain ⟨rfl, hb1, hB⟩ := hcut
    have hE := HE.out _ hb1
    have k0 : wc.cell? ⟨w.heap.size, 0, none⟩ = some (.string fq) := cell_of hB rfl
    have k1 : wc.cell? ⟨w.heap.size, 1, none⟩ = some (.int .i64 ev') := cell_of hB rfl
    have k2 : wc.cell? ⟨w.heap.size, 2, none⟩ = some (.slice a ds.length cap) := cell_of hB rfl
    have k3 : wc.cell? ⟨w.heap.size, 3, none⟩ = some (.int .i64 ct) := cell_of hB rfl
    have k4 : wc.cell? ⟨w.heap.size, 4, none⟩ = some (.int .i64 un) := cell_of hB rfl
    clear HF
    have HBX := Lib.hid hB
    clear hB
    cases c with
    | false =>
      have g3 := hE.s3.cell
      have hr := bad_name (r := ⟨fq, ev', ct, un, ds⟩) HC.out
      have HB := Lib.hid hr
      clear hr hE HC
      go_wp2
      go_ret
      obtain rfl : 4 = q := HB.out.symm.trans HQ.out
      exact ⟨rfl, hb1⟩
    | true =>
      go_upto_region 3 with fail
      go_cut [3] from 13 (fun s3 wx => s3 = .bool (inB ev' 1 100 && inB ct 0 1000 && inB un (-1) 73048) ∧ wx = wc)
      case first =>
        clear HQ HE HR HC hE
        obtain ⟨g1, hg1⟩ : ∃ g1, inB ev' 1 100 = g1 := ⟨_, rfl⟩
        obtain ⟨g2, hg2⟩ : ∃ g2, inB ct 0 1000 = g2 := ⟨_, rfl⟩
        obtain ⟨g3, hg3⟩ : ∃ g3, inB un (-1) 73048 = g3 := ⟨_, rfl⟩
        have W1 := within_any ev' 1 100 wc
        have W2 := within_any ct 0 1000 wc
        have W3 := within_any un (-1) 73048 wc
        rw [hg1] at W1
        rw [hg2] at W2
        rw [hg3] at W3
        have W1 := Lib.hid W1
        have W2 := Lib.hid W2
        have W3 := Lib.hid W3
        have G1 := Lib.hid hg1
        have G2 := Lib.hid hg2
        have G3 := Lib.hid hg3
        clear hg1 hg2 hg3
        go_wp2_with fail
        refine W1.out.mono ?_; rintro e1 w1 ⟨rfl, rfl⟩
        clear W1
        cases g1 with
        | false => go_wp2_with fail; go_meet; exact ⟨by rw [G1.out]; rfl, rfl⟩
        | true =>
          go_wp2_with fail
          refine W2.out.mono ?_; rintro e1 w1 ⟨rfl, rfl⟩
          clear W2
          cases g2 with
          | false => go_wp2_with fail; go_meet; exact ⟨by rw [G1.out, G2.out]; rfl, rfl⟩
          | true =>
            go_wp2_with fail
            refine W3.out.mono ?_; rintro e1 w1 ⟨rfl, rfl⟩
            clear W3
            go_wp2_with fail; go_meet; exact ⟨by rw [G1.out, G2.out, G3.out]; rfl, rfl⟩
      case rest =>
        obtain ⟨rfl, hwx⟩ := hcut
        subst hwx
        have HR1 := Lib.hid (HR.out.below hb1)
        obtain ⟨b0, hb0⟩ : ∃ b0, (inB ev' 1 100 && inB ct 0 1000 && inB un (-1) 73048) = b0 := ⟨_, rfl⟩
        rw [hb0]
        have HB0 := Lib.hid hb0
        have HE1 := Lib.hid hE
        clear hb0 HR hE
        go_wp2_with fail
        go_loopw [3, 29] (fun s3 i wr => ∃ k : Nat, k ≤ ds.length ∧ i = .int .i64 k ∧ s3 = .bool (b0 && daysTo ds k) ∧ wr = wc) (fun _ i _ => ds.length - (intOf i).toNat)
        case atStart => exact ⟨0, Nat.zero_le _, rfl, by simp [daysTo], rfl⟩
        case round =>
          obtain ⟨k, hk, rfl, rfl, rfl⟩ := hrel
          by_cases hlt : k < ds.length
          · obtain ⟨_, b, o, ha, hc⟩ := HR1.out.at (by rintro rfl; exact absurd hlt (Nat.not_lt_zero _))
            subst ha
            have c1 := hc k hlt
            have hi1 : (k : Int) < (ds.length : Int) := by omega
            obtain ⟨b1, hb⟩ : ∃ b1, (b0 && daysTo ds k) = b1 := ⟨_, rfl⟩
            have HB1 := Lib.hid hb
            rw [hb]
            clear hb hc
            cases b1 with
            | false =>
              go_wp2_with fail
              go_roundw
              case rel => exact ⟨k + 1, by omega, by go_num, by rw [daysTo_succ, ← Bool.and_assoc, HB1.out]; rfl, trivial⟩
              case measure => simp [intOf]; omega
            | true =>
              go_wp2_with fail
              refine (within_any _ _ _ _).mono ?_; rintro e1 w1 ⟨rfl, rfl⟩
              go_wp2_with fail
              go_roundw
              case rel => (repeat apply Exists.intro); exact ⟨⟨k + 1, by omega, by go_num, by rw [daysTo_succ, ← Bool.and_assoc, HB1.out]; simp, trivial⟩, rfl⟩
              case measure => simp [intOf]; omega
          · obtain rfl : k = ds.length := by omega
            rw [daysTo_all]
            obtain ⟨b2, hb⟩ : ∃ b2, (b0 && daysB ds) = b2 := ⟨_, rfl⟩
            have HB2 := Lib.hid hb
            rw [hb]
            clear hb
            have HBD := Lib.hid (show (boundB ⟨fq, ev', ct, un, ds⟩ && daysB ds) = b2 by rw [← HB2.out, ← HB0.out]; rfl)
            cases b2 with
            | false =>
              have g1 := HE1.out.s1.cell
              go_wp2_with fail
              go_ret
              obtain rfl : 2 = q := (bad_bound HC.out HBD.out).symm.trans HQ.out
              exact ⟨rfl, hb1⟩
            | true =>
              go_wp2_with fail
              refine (shape_any ⟨fq, ev', ct, un, ds⟩ a cap _ hl).mono ?_; rintro e1 w1 ⟨rfl, hb3⟩
              obtain ⟨b3, hb⟩ : ∃ b3, shapeB ⟨fq, ev', ct, un, ds⟩ = b3 := ⟨_, rfl⟩
              have HS := Lib.hid hb
              rw [hb]
              clear hb
              have HE2 := Lib.hid (HE1.out.below hb3)
              have HR2 := Lib.hid (HR1.out.below hb3)
              have hb4 := below2 hb1 hb3
              have K2 := cell_later hb3 k2
              have g2 := HE2.out.s2.cell
              clear k0 k1 k2 k3 k4
              cases b3 with
              | false =>
                go_wp2_with fail
                go_ret
                obtain rfl : 3 = q := (bad_shape HC.out HBD.out HS.out).symm.trans HQ.out
                exact ⟨rfl, hb4⟩
              | true =>
                clear g2
                go_wp2_with fail
                go_loopw [6] (fun i wr => ∃ (k m : Nat), (k = 0 ∨ k < ds.length) ∧ i = .int .i64 ((k : Int) + 1) ∧ wr = w1.drewN m ∧ ∀ j, j < k → Ints.el ds j < Ints.el ds (j + 1)) (fun i _ => ds.length + 1 - (intOf i).toNat)
                case atStart => exact ⟨0, 0, Or.inl rfl, rfl, rfl, fun _ h => absurd h (Nat.not_lt_zero _)⟩
                case round =>
                  obtain ⟨k, m, hk, rfl, rfl, hs⟩ := hrel
                  have HSo := Lib.hid hs
                  clear hs
                  have Km : (w1.drewN m).cell? ⟨w.heap.size, 2, none⟩ = some (.slice a ds.length cap) := by exact K2
                  have g7 : ∀ m' : Nat, (w1.drewN m').cell? ⟨8, 0, none⟩ = some (ev (e 7)) := fun _ => by exact HE2.out.s7.cell
                  by_cases hlt : k + 1 < ds.length
                  · obtain ⟨_, b, o, ha, hc⟩ := HR2.out.at (by rintro rfl; exact absurd hlt (Nat.not_lt_zero _))
                    subst ha
                    have c1 : (w1.drewN m).cell? ⟨b, o + (k + 1), none⟩ = some (.int .i64 (Ints.el ds (k + 1))) := by exact hc (k + 1) hlt
                    have c2 : (w1.drewN m).cell? ⟨b, o + k, none⟩ = some (.int .i64 (Ints.el ds k)) := by exact hc k (by omega)
                    have hi1 : (k : Int) + 1 < (ds.length : Int) := by omega
                    by_cases hq : Ints.el ds (k + 1) ≤ Ints.el ds k
                    · have hb := decide_eq_true hq
                      have HQ1 := Lib.hid hq
                      clear hq
                      go_wp2
                      go_quiet (fail)
                      go_wp2
                      go_ret
                      obtain rfl : 8 = q := (bad_order HC.out HBD.out HS.out (rise_no hlt HQ1.out)).symm.trans HQ.out
                      exact ⟨rfl, below_draw hb4 _⟩
                    · have hb := decide_eq_false hq
                      have HQ1 := Lib.hid hq
                      clear hq
                      go_wp2
                      go_quiet (fail)
                      go_wp2
                      go_roundw
                      case rel => exact ⟨k + 1, _, Or.inr hlt, by go_num, rfl, fun j hj => by
                        by_cases ej : j = k
                        · subst ej; exact HQ1.out
                        · exact HSo.out j (by omega)⟩
                      case measure => simp [intOf]; omega
                  · have hi1 : (ds.length : Int) ≤ (k : Int) + 1 := by omega
                    go_wp2
                    go_ret
                    obtain rfl : 0 = q := (bad_none HC.out HBD.out HS.out (rise_yes (show ds.length ≤ k + 1 by omega) HSo.out)).symm.trans HQ.out
                    exact ⟨rfl, below_draw hb4 m⟩
end Rul
end Go.Proofs.YtghkalamlcfnnaaGreatDoor
namespace Go.Proofs.YtghkalamlcfnnaaGreatDoor
open Go Go.RowKit Lmd
namespace Rul
open Day
def cellsOf (xs : List Int) : List Value := (List.range xs.length).map fun i => .int .i64 (Ints.el xs i)
theorem cellsOf_get {xs : List Int} {j : Nat} (h : j < xs.length) : (cellsOf xs)[j]? = some (.int .i64 (Ints.el xs j)) := by
  simp [cellsOf, h]
theorem cellsOf_at {xs : List Int} {j : Nat} {u : Value} (h : (cellsOf xs)[j]? = some u) : j < xs.length ∧ u = .int .i64 (Ints.el xs j) := by
  have hl : j < (cellsOf xs).length := (List.getElem?_eq_some_iff.1 h).1
  have hj : j < xs.length := by simpa [cellsOf] using hl
  rw [cellsOf_get hj] at h
  exact ⟨hj, (Option.some.inj h).symm⟩
theorem cellsOf_one {xs : List Int} (u : Value) (h : u ∈ cellsOf xs) : u.oneCell' = true := by
  simp only [cellsOf, List.mem_map] at h
  obtain ⟨_, _, rfl⟩ := h
  rfl
theorem cellsOf_len (xs : List Int) : (cellsOf xs).length = xs.length := by simp [cellsOf]
theorem int_info : (Tryz.prog.info? 3).map (fun i => (i.zero, i.size, i.bytes)) = some (some (.int .i64 0), 1, 8) := by kernel_rfl
theorem reads_own {w : World} {base : Nat} {e : TypeId} {v : Value} {xs : List Int} (h : w.ownsRow base e 1 v xs.length (cellsOf xs)) : Ints.Reads w v xs := by
  rcases h.2 with ⟨rfl, h0⟩ | ⟨g, cap, cur, rfl, _, hh, _, _, _, ht⟩
  · exact Or.inl ⟨List.length_eq_zero_iff.1 h0, none, 0, rfl⟩
  · refine Or.inr ⟨g, 0, cap, rfl, fun i hi => ?_⟩
    have h1 := cellsOf_get hi
    rw [← ht, Nat.mul_one, List.getElem?_take_of_lt hi] at h1
    simp only [World.cell?, hh, Nat.zero_add]
    simpa using h1
theorem row_set {w : World} {g : Nat} {t : TypeId} {cs : Array Value} {fr : Nat × Nat} (h : w.heap[g]? = some (.cells cs t fr)) (i : Nat) (u : Value) : (w.setCell ⟨g, i, none⟩ u).heap[g]? = some (.cells (cs.setIfInBounds i u) t fr) := by
  simp [World.setCell, Array.getElem?_modify, h]
theorem row_far {w : World} {g : Nat} {p : Addr} {u : Value} (h : g ≠ p.block) : (w.setCell p u).heap[g]? = w.heap[g]? := Below.heap_setCell _ _ _ _ h
theorem own_far {w : World} {base n : Nat} {e : TypeId} {v u : Value} {xs : List Value} {p : Addr} (h : w.ownsRow base e 1 v n xs) (hp : p.block < base) : (w.setCell p u).ownsRow base e 1 v n xs := by
  refine ⟨h.1, ?_⟩
  rcases h.2 with h2 | ⟨g, cap, cur, h1, h2, hh, hr⟩
  · exact .inl h2
  · exact .inr ⟨g, cap, cur, h1, h2, (row_far (by omega)).trans hh, hr⟩
theorem wpList_append_nil {P : Program} {w : World} {ops : Array Oper} {rest : List Oper} {o : Oper} {a : Act} {Q : Exit → Act → World → Prop} (hgd : o.guard = none) (s x : Operand) (t : TypeId)
    (ho : o.op = .call { callee := .builtin .append, args := #[s, x], argTypes := #[t, t] }) (e : TypeId) (i : TypeInfo) (size : Nat) (ht : P.underlying t = some (.slice e)) (hi : P.info? e = some i) (_hz : i.size = size)
    (c : Nat) (hs : a.eval s = .slice none 0 0) (hx : a.eval x = .slice none 0 c)
    (h : wpList P ops Q rest (a.put o.dst (.slice none 0 0)) w) : wpList P ops Q (o :: rest) a w := by
  refine wpList_plain hgd fun K hK => ?_
  have hrun : (Builtin.append_ #[t, t] o.type #[.slice none 0 0, .slice none 0 c]).run P w = .ok (.slice none 0 0) w := by
    simp [Builtin.append_, run_underlying ht, sizeOf, typeInfo, hi, Builtin.lenOf, Builtin.firstCells]
  unfold Oper.wp
  simp [execOp, ho, resolve, invoke, builtin, hs, hx, hrun, Result.andThen]
  exact hK _ _ h
theorem longRule_any (r : Ru) (a : Option Addr) (cap : Nat) (w : World) (hf : r.fq.size ≤ 9223372036854775807) (hd : r.ds.length ≤ 9223372036854775807) :
    Calls Tryz.prog 73 #[r.val (.slice a r.ds.length cap)] w fun e w' => e = .returned (.int .i64 (if 20 < r.fq.size ∨ 20 < r.ds.length then 1 else 0)) ∧ Below w.heap.size w w' := by
  obtain ⟨fq, ev, ct, un, ds⟩ := r
  simp only [Ru.val] at *
  by_cases h1 : (20 : Int) < fq.size
  · go_enter Tryz.func73, Tryz.ntmps73
    go_wp2
    go_ret
    exact ⟨rfl, (Below.refl _ w).alloc (Nat.le_refl _) _⟩
  · by_cases h2 : (20 : Int) < ds.length
    · go_enter Tryz.func73, Tryz.ntmps73
      go_wp2
      go_ret
      exact ⟨rfl, (Below.refl _ w).alloc (Nat.le_refl _) _⟩
    · go_enter Tryz.func73, Tryz.ntmps73
      go_wp2
      go_ret
      exact ⟨rfl, (Below.refl _ w).alloc (Nat.le_refl _) _⟩
set_option maxRecDepth 100000 in
set_option maxHeartbeats 1000000 in
theorem ownRule_far (r : Ru) (v : Value) (w : World) (hr : Ints.Reads w v r.ds) (hl : r.ds.length ≤ 65536) :
    Calls Tryz.prog 74 #[r.val v] w fun e w' => ∃ v', e = .returned (r.val v') ∧ Ints.Reads w' v' r.ds ∧ (∀ b, v'.ownBlock = some b → w.heap.size ≤ b) ∧ Below w.heap.size w w' := by
  obtain ⟨fq, ev, ct, un, ds⟩ := r
  obtain ⟨a, cap, rfl⟩ := hr.shape
  obtain ⟨i0, hi0, hz0, hz1, hz2⟩ := info_parts int_info
  simp only [Ru.val] at *
  have HR := Lib.hid hr
  obtain ⟨W, hW⟩ : ∃ W, (w.alloc (.cells #[.string fq, .int .i64 ev, .slice a ds.length cap, .int .i64 ct, .int .i64 un] 37)).alloc (.cells #[.string ⟨#[]⟩, .int .i64 0, .slice none 0 0, .int .i64 0, .int .i64 0] 37) = W := ⟨_, rfl⟩
  have hbW : Below w.heap.size w W := by rw [← hW]; exact ((Below.refl _ w).alloc (Nat.le_refl _) _).alloc (by simp) _
  have hsW : W.heap.size = w.heap.size + 2 := by rw [← hW]; simp
  have hB1 : W.heap[w.heap.size]? = some (.cells #[.string fq, .int .i64 ev, .slice a ds.length cap, .int .i64 ct, .int .i64 un] 37) := by rw [← hW, Below.heap_alloc _ _ _ (by simp)]; exact heap_new w _
  have hB2 : W.heap[w.heap.size + 1]? = some (.cells #[.string ⟨#[]⟩, .int .i64 0, .slice none 0 0, .int .i64 0, .int .i64 0] 37) := by
    rw [← hW]; have := heap_new (w.alloc (.cells #[.string fq, .int .i64 ev, .slice a ds.length cap, .int .i64 ct, .int .i64 un] 37)) (.cells #[.string ⟨#[]⟩, .int .i64 0, .slice none 0 0, .int .i64 0, .int .i64 0] 37); rwa [World.size_alloc] at this
  have HB2 := Lib.hid hB2
  have HW := Lib.hid hW
  have HBW := Lib.hid hbW
  have HSW := Lib.hid hsW
  have HB1 := Lib.hid hB1
  clear hr hW hbW hsW hB1 hB2
  cases a with
  | none =>
    have hd : ds = [] := by
      rcases HR.out with ⟨h, _⟩ | ⟨b, off, cap', h, _⟩
      · exact h
      · cases h
    subst hd
    have hB1 := HB1.out
    have hB2 := HB2.out
    have k0 : W.cell? ⟨w.heap.size, 0, none⟩ = some (.string fq) := cell_of hB1 rfl
    have k1 : W.cell? ⟨w.heap.size, 1, none⟩ = some (.int .i64 ev) := cell_of hB1 rfl
    have k2 : W.cell? ⟨w.heap.size, 2, none⟩ = some (.slice none 0 cap) := cell_of hB1 rfl
    have k3 : W.cell? ⟨w.heap.size, 3, none⟩ = some (.int .i64 ct) := cell_of hB1 rfl
    have k4 : W.cell? ⟨w.heap.size, 4, none⟩ = some (.int .i64 un) := cell_of hB1 rfl
    have f2 : W.frozen? ⟨w.heap.size, 2, none⟩ = false := by simp [World.frozen?, hB1]
    have q0 : W.cell? ⟨w.heap.size + 1, 0, none⟩ = some (.string ⟨#[]⟩) := cell_of hB2 rfl
    have q1 : W.cell? ⟨w.heap.size + 1, 1, none⟩ = some (.int .i64 0) := cell_of hB2 rfl
    have q2 : W.cell? ⟨w.heap.size + 1, 2, none⟩ = some (.slice none 0 0) := cell_of hB2 rfl
    have q3 : W.cell? ⟨w.heap.size + 1, 3, none⟩ = some (.int .i64 0) := cell_of hB2 rfl
    have q4 : W.cell? ⟨w.heap.size + 1, 4, none⟩ = some (.int .i64 0) := cell_of hB2 rfl
    have g0 : W.frozen? ⟨w.heap.size + 1, 0, none⟩ = false := by simp [World.frozen?, hB2]
    have g1 : W.frozen? ⟨w.heap.size + 1, 1, none⟩ = false := by simp [World.frozen?, hB2]
    have g2 : W.frozen? ⟨w.heap.size + 1, 2, none⟩ = false := by simp [World.frozen?, hB2]
    have g3 : W.frozen? ⟨w.heap.size + 1, 3, none⟩ = false := by simp [World.frozen?, hB2]
    have g4 : W.frozen? ⟨w.heap.size + 1, 4, none⟩ = false := by simp [World.frozen?, hB2]
    clear hB1 hB2
    simp only [List.length_nil] at *
    go_enter Tryz.func74, Tryz.ntmps74
    go_wp2_with (at_builtin
                 refine wpList_append_nil rfl (.tmp 4) (.tmp 6) _ rfl 3 i0 1 Tryz.underlying35 hi0 hz1 cap rfl rfl ?_
                 change wpList _ _ _ _ _ (World.alloc _ _)
                 rw [HW.out])
    have hfin := row_set (row_set (row_set (row_set (row_set ((row_far (p := ⟨w.heap.size, 2, none⟩) (u := .slice none 0 0) (by show w.heap.size + 1 ≠ w.heap.size; omega)).trans HB2.out) 0 (.string fq)) 1 (.int .i64 ev)) 2 (.slice none 0 0)) 3 (.int .i64 ct)) 4 (.int .i64 un)
    (try simp only [Exit.inBlock, Exit.then])
    refine bodyPost_ret (results_cell_row rfl _ _ (w.heap.size + 1) _ _ _ _ rfl hfin Tryz.underlying37 rfl (by kernel_rfl)) rfl ?_
    refine ⟨_, rfl, Or.inl ⟨rfl, none, 0, rfl⟩, fun b hb => by simp [Value.ownBlock] at hb, ?_⟩
    exact (((((HBW.out.setCell (p := ⟨w.heap.size, 2, none⟩) (Nat.le_refl _) _).setCell (p := ⟨w.heap.size + 1, 0, none⟩) (Nat.le_succ _) _).setCell (p := ⟨w.heap.size + 1, 1, none⟩) (Nat.le_succ _) _).setCell (p := ⟨w.heap.size + 1, 2, none⟩) (Nat.le_succ _) _).setCell (p := ⟨w.heap.size + 1, 3, none⟩) (Nat.le_succ _) _).setCell (p := ⟨w.heap.size + 1, 4, none⟩) (Nat.le_succ _) _
  | some ad =>
    have hnews : ∀ j u, (cellsOf ds)[j]? = some u → W.cell? (ad.add j) = some u := fun j u hu => by
      obtain ⟨hj, rfl⟩ := cellsOf_at hu
      obtain ⟨_, b, o, ha, hc⟩ := (HR.out.below HBW.out).at (by rintro rfl; exact absurd hj (Nat.not_lt_zero _))
      cases ha
      have := hc j hj
      by_cases hz : j = 0
      · subst hz; exact this
      · rw [Addr.add, if_neg hz]; exact this
    have HN := Lib.hid hnews
    clear hnews
    go_enter Tryz.func74, Tryz.ntmps74
    go_wp2_with (at_builtin
                 rw [HW.out]
                 refine wpList_append_own _ rfl (.tmp 4) (.tmp 6) _ rfl W.heap.size 3 i0 _ 1 8 Tryz.underlying35 hi0 hz0 hz1 hz2 rfl (by omega) (.slice none 0 0) 0 [] rfl
                   ⟨by simp, .inl ⟨rfl, rfl⟩⟩ ad ds.length cap (cellsOf ds) rfl (by rw [cellsOf_len, Nat.mul_one]) HN.out cellsOf_one (by simp only [maxLen]; omega) (by omega) (Nat.le_refl _) ?_
                 intro v1 w1 hown hg hnil
                 have hown' : w1.ownsRow W.heap.size 3 1 v1 ds.length (cellsOf ds) := by simpa using hown
                 have hrd := reads_own hown'
                 obtain ⟨av, cv, rfl⟩ := hrd.shape
                 have hb1 : Below W.heap.size W w1 := (Below.refl _ W).grown hg (Nat.le_refl _) (by simp [Value.ownBlock])
                 have hB1 := (hb1.block w.heap.size (by rw [HSW.out]; omega)).trans HB1.out
                 have hB2 := (hb1.block (w.heap.size + 1) (by rw [HSW.out]; omega)).trans HB2.out
                 have k0 : w1.cell? ⟨w.heap.size, 0, none⟩ = some (.string fq) := cell_of hB1 rfl
                 have k1 : w1.cell? ⟨w.heap.size, 1, none⟩ = some (.int .i64 ev) := cell_of hB1 rfl
                 have k2 : w1.cell? ⟨w.heap.size, 2, none⟩ = some (.slice (some ad) ds.length cap) := cell_of hB1 rfl
                 have k3 : w1.cell? ⟨w.heap.size, 3, none⟩ = some (.int .i64 ct) := cell_of hB1 rfl
                 have k4 : w1.cell? ⟨w.heap.size, 4, none⟩ = some (.int .i64 un) := cell_of hB1 rfl
                 have f2 : w1.frozen? ⟨w.heap.size, 2, none⟩ = false := by simp [World.frozen?, hB1]
                 have q0 : w1.cell? ⟨w.heap.size + 1, 0, none⟩ = some (.string ⟨#[]⟩) := cell_of hB2 rfl
                 have q1 : w1.cell? ⟨w.heap.size + 1, 1, none⟩ = some (.int .i64 0) := cell_of hB2 rfl
                 have q2 : w1.cell? ⟨w.heap.size + 1, 2, none⟩ = some (.slice none 0 0) := cell_of hB2 rfl
                 have q3 : w1.cell? ⟨w.heap.size + 1, 3, none⟩ = some (.int .i64 0) := cell_of hB2 rfl
                 have q4 : w1.cell? ⟨w.heap.size + 1, 4, none⟩ = some (.int .i64 0) := cell_of hB2 rfl
                 have g0 : w1.frozen? ⟨w.heap.size + 1, 0, none⟩ = false := by simp [World.frozen?, hB2]
                 have g1 : w1.frozen? ⟨w.heap.size + 1, 1, none⟩ = false := by simp [World.frozen?, hB2]
                 have g2 : w1.frozen? ⟨w.heap.size + 1, 2, none⟩ = false := by simp [World.frozen?, hB2]
                 have g3 : w1.frozen? ⟨w.heap.size + 1, 3, none⟩ = false := by simp [World.frozen?, hB2]
                 have g4 : w1.frozen? ⟨w.heap.size + 1, 4, none⟩ = false := by simp [World.frozen?, hB2]
                 have HG := Lib.hid hb1
                 have HRD := Lib.hid hown'
                 have HX := Lib.hid hB2
                 clear hown hown' hg hnil hB1 hB2 hb1 hrd)
    have hfin := row_set (row_set (row_set (row_set (row_set ((row_far (p := ⟨w.heap.size, 2, none⟩) (u := .slice av ds.length cv) (by show w.heap.size + 1 ≠ w.heap.size; omega)).trans HX.out) 0 (.string fq)) 1 (.int .i64 ev)) 2 (.slice av ds.length cv)) 3 (.int .i64 ct)) 4 (.int .i64 un)
    (try simp only [Exit.inBlock, Exit.then])
    refine bodyPost_ret (results_cell_row rfl _ _ (w.heap.size + 1) _ _ _ _ rfl hfin Tryz.underlying37 rfl (by kernel_rfl)) rfl ?_
    have hl1 : w.heap.size < W.heap.size := by rw [HSW.out]; omega
    have hl2 : w.heap.size + 1 < W.heap.size := by rw [HSW.out]; omega
    refine ⟨_, rfl, reads_own (own_far (own_far (own_far (own_far (own_far (own_far HRD.out hl1) hl2) hl2) hl2) hl2) hl2), fun b hb => ?_, ?_⟩
    · rcases HRD.out.2 with ⟨h1, _⟩ | ⟨g, cap, cur, h1, h2, _⟩
      · rw [h1] at hb; simp [Value.ownBlock] at hb
      · rw [h1] at hb
        obtain rfl : g = b := by simpa [Value.ownBlock] using hb
        omega
    exact ((((((HBW.out.trans (HG.out.mono HBW.out.size)).setCell (p := ⟨w.heap.size, 2, none⟩) (Nat.le_refl _) _).setCell (p := ⟨w.heap.size + 1, 0, none⟩) (Nat.le_succ _) _).setCell (p := ⟨w.heap.size + 1, 1, none⟩) (Nat.le_succ _) _).setCell (p := ⟨w.heap.size + 1, 2, none⟩) (Nat.le_succ _) _).setCell (p := ⟨w.heap.size + 1, 3, none⟩) (Nat.le_succ _) _).setCell (p := ⟨w.heap.size + 1, 4, none⟩) (Nat.le_succ _) _
end Rul
end Go.Proofs.YtghkalamlcfnnaaGreatDoor
namespace Go.Proofs.YtghkalamlcfnnaaGreatDoor
open Go Go.RowKit Go.Shelf Lmd
attribute [local go_sem] Oper.semAt_some
namespace Cand
open Rul Day Er
theorem stay_cell {O : Nat → Prop} {hi : Nat} {W W' : World} {p : Addr} {v : Value} (h : Rng.Stay O hi W W') (hc : W.cell? p = some v) (hO : ¬ O p.block) (hl : p.block < hi) : W'.cell? p = some v := by
  obtain ⟨o, ho⟩ : ∃ o, W.heap[p.block]? = some o := by
    cases hx : W.heap[p.block]? with
    | none => simp [World.cell?, hx] at hc
    | some o => exact ⟨o, rfl⟩
  have h1 := h.same _ o ho (.inr ⟨hO, hl⟩)
  simp only [World.cell?, ho] at hc
  simp only [World.cell?, h1]
  exact hc
theorem cell_lt {W : World} {p : Addr} {v : Value} (hc : W.cell? p = some v) : p.block < W.heap.size := by
  cases hx : W.heap[p.block]? with
  | none => simp [World.cell?, hx] at hc
  | some o => exact (Array.getElem?_eq_some_iff.1 hx).1
theorem reads_lt {w : World} {v : Value} {xs : List Int} (h : Ints.Reads w v xs) {b o n c : Nat} (hv : v = .slice (some ⟨b, o, none⟩) n c) (hn : n ≠ 0) : b < w.heap.size := by
  rcases h with ⟨rfl, a, cap, e⟩ | ⟨b', off, cap, e, hc⟩
  · rw [e] at hv; cases hv; exact absurd rfl hn
  · rw [e] at hv; cases hv
    exact cell_lt (hc 0 (by omega))
theorem stay_below {O : Nat → Prop} {hi B : Nat} {W W' : World} (h : Rng.Stay O hi W W') (hO : ∀ b, O b → B ≤ b) (hB : B ≤ hi) (hz : B ≤ W.heap.size) : Below B W W' := by
  refine ⟨h.os, h.tape, h.output, h.size, fun k hk => ?_⟩
  obtain ⟨o, ho⟩ : ∃ o, W.heap[k]? = some o := ⟨W.heap[k]'(by omega), by simp⟩
  rw [h.same k o ho (.inr ⟨fun x => by have := hO k x; omega, by omega⟩), ho]
theorem rest_set {B : Nat} {W W' : World} (h : Rng.Rest B W W') (p : Addr) (hp : p.block < B) (v : Value) : Rng.Rest B W (W'.setCell p v) := fun b o hb hc ho => by
  rw [Below.heap_setCell _ _ _ _ (by omega)]
  exact h b o hb hc ho
theorem chk_any (r : Ru) (v : Value) (e : Nat → Addr) (w : World) (he : E4 w e) (hr : Ints.Reads w v r.ds) (hl : r.ds.length < 50000) :
    Calls Tryz.prog 114 #[.agg #[.string r.fq, .int .i64 r.ev, v, .int .i64 r.ct, .int .i64 r.un]] w fun e' w' => e' = .returned (errV e (bad r)) ∧ Below w.heap.size w w' := check_any r v e w he hr hl
theorem row_below {w w' : World} {b : Nat} {o : Obj} (h : w.heap[b]? = some o) (hb : Below w.heap.size w w') : w'.heap[b]? = some o := by
  rw [hb.block b (Array.getElem?_eq_some_iff.1 h).1]; exact h
theorem cells5 {w : World} {b : Nat} {a0 a1 a2 a3 a4 : Value} {t : TypeId} (h : w.heap[b]? = some (.cells #[a0, a1, a2, a3, a4] t (0, 0))) :
    w.cell? ⟨b, 0, none⟩ = some a0 ∧ w.cell? ⟨b, 1, none⟩ = some a1 ∧ w.cell? ⟨b, 2, none⟩ = some a2 ∧ w.cell? ⟨b, 3, none⟩ = some a3 ∧ w.cell? ⟨b, 4, none⟩ = some a4 ∧ (w.frozen? ⟨b, 3, none⟩ = false ∧ w.frozen? ⟨b, 4, none⟩ = false ∧ w.frozen? ⟨b, 1, none⟩ = false) := by
  simp [World.cell?, World.frozen?, h]
theorem bad_parts {r : Ru} (h : bad r = 0) : Lib.containsS freqs r.fq = true ∧ boundB r = true ∧ daysB r.ds = true ∧ shapeB r = true ∧ riseB r.ds = true := by
  unfold bad at h
  by_cases h1 : Lib.containsS freqs r.fq = false
  · rw [if_pos h1] at h; cases h
  · rw [if_neg h1] at h
    by_cases h2 : (boundB r && daysB r.ds) = false
    · rw [if_pos h2] at h; cases h
    · rw [if_neg h2] at h
      by_cases h3 : shapeB r = false
      · rw [if_pos h3] at h; cases h
      · rw [if_neg h3] at h
        by_cases h4 : riseB r.ds = false
        · rw [if_pos h4] at h; cases h
        · simp only [Bool.not_eq_false, Bool.and_eq_true] at h1 h2 h3 h4
          exact ⟨h1, h2.1, h2.2, h3, h4⟩
theorem bound_parts {r : Ru} (h : boundB r = true) : (1 ≤ r.ev ∧ r.ev ≤ 100) ∧ (0 ≤ r.ct ∧ r.ct ≤ 1000) ∧ -1 ≤ r.un ∧ r.un ≤ 73048 := by
  simpa [boundB, inB, and_assoc] using h
theorem freqs_mem {fq : ByteArray} (h : Lib.containsS freqs fq = true) : fq = once ∨ fq = daily ∨ fq = weekly ∨ fq = monthly ∨ fq = yearly := by
  have := (Lib.containsS_iff _ _).1 h
  simpa [freqs] using this
theorem cellsOf_snoc (xs : List Int) (x : Int) : cellsOf (xs ++ [x]) = cellsOf xs ++ [.int .i64 x] := by
  apply List.ext_getElem?
  intro i
  by_cases h : i < xs.length
  · rw [List.getElem?_append_left (by rw [cellsOf_len]; exact h), cellsOf_get h, cellsOf_get (by simp; omega), Ints.el_lt h, Ints.el_lt (by simp; omega), List.getElem_append_left h]
  · by_cases h2 : i = xs.length
    · subst h2
      rw [cellsOf_get (by simp), List.getElem?_append_right (by rw [cellsOf_len]; exact Nat.le_refl _), cellsOf_len, Nat.sub_self, Ints.el_lt (by simp)]
      simp
    · rw [List.getElem?_eq_none (by rw [cellsOf_len, List.length_append]; simp; omega), List.getElem?_eq_none (by rw [List.length_append, cellsOf_len]; simp; omega)]
def Holds (b : Nat) (hi : Nat) (l : List Int) (W : World) : Prop :=
  ∃ v, Boxed W b 35 v ∧ W.ownsRow hi 3 1 v l.length (cellsOf l)
theorem ownBlock_ge {W : World} {base : Nat} {e : TypeId} {size : Nat} {v : Value} {k : Nat} {xs : List Value} (h : W.ownsRow base e size v k xs) {r : Nat} (hr : v.ownBlock = some r) : base ≤ r := by
  rcases h.2 with ⟨rfl, _⟩ | ⟨g, cap, cur, rfl, hb, _⟩
  · simp [Value.ownBlock] at hr
  · obtain rfl : g = r := by simpa [Value.ownBlock] using hr
    exact hb
theorem holds_kept {b hi : Nat} {l : List Int} {W W' : World} {row : Option Nat} (h : Holds b hi l W) (hg : W.grownBy W' row) (hb : ∀ r, row = some r → r ≠ b) (hr : ∀ r, row = some r → r < hi) : Holds b hi l W' := by
  obtain ⟨v, h1, h2⟩ := h
  refine ⟨v, h1.kept hg (fun e => hb b e.symm rfl), h2.kept hg ?_⟩
  cases hv : v.ownBlock with
  | none =>
    rcases h2.2 with ⟨rfl, _⟩ | ⟨g, cap, cur, rfl, _⟩
    · exact .inl rfl
    · simp [Value.ownBlock] at hv
  | some g =>
    exact .inr fun e => by have := ownBlock_ge h2 hv; have := hr g e.symm; omega
theorem holds_reads {b hi : Nat} {l : List Int} {W : World} (h : Holds b hi l W) : ∃ a c, Boxed W b 35 (.slice a l.length c) ∧ W.ownsRow hi 3 1 (.slice a l.length c) l.length (cellsOf l) ∧ Ints.Reads W (.slice a l.length c) l := by
  obtain ⟨v, h1, h2⟩ := h
  have h3 := reads_own h2
  obtain ⟨a, c, rfl⟩ := h3.shape
  exact ⟨a, c, h1, h2, h3⟩
theorem holds_append {b hi : Nat} {l : List Int} {x : Int} {W w1 : World} {v v' : Value} {O : Nat → Prop} (hv : Boxed W b 35 v) (hrow : W.ownsRow hi 3 1 v l.length (cellsOf l))
    (hO : O b) (hown : w1.ownsRow hi 3 1 v' (l.length + 1) (cellsOf l ++ [.int .i64 x])) (hg : (W.alloc (.cells #[.int .i64 x] 3)).grownBy w1 v.ownBlock) :
    Boxed w1 b 35 v ∧ Holds b hi (l ++ [x]) (w1.setCell ⟨b, 0, none⟩ v') ∧ Rng.Stay O hi W (w1.setCell ⟨b, 0, none⟩ v') := by
  have hte : 35 ≠ 3 := by decide
  have hv1 : Boxed w1 b 35 v := (hv.alloc _).kept hg (hv.not_row hte hrow)
  refine ⟨hv1, ⟨v', hv1.set v', ?_⟩, ?_⟩
  · rw [cellsOf_snoc, List.length_append]
    exact hown.kept (grownBy_setCell' w1 b v') (.inr (hv1.not_row hte hown).symm)
  · have h1 : Rng.Stay O hi W (W.alloc (.cells #[.int .i64 x] 3)) := Rng.Stay.of_below ((Below.refl _ W).alloc (Nat.le_refl _) _)
    have h2 : Rng.Stay O hi (W.alloc (.cells #[.int .i64 x] 3)) w1 := by
      refine ⟨hg.os, hg.tape, hg.output, hg.size, fun k o hk ho => ?_⟩
      have hlt := (Array.getElem?_eq_some_iff.1 hk).1
      rw [hg.block k hlt ?_]
      · exact hk
      · intro e
        have hge := ownBlock_ge hrow e.symm
        rcases ho with ho | ⟨_, ho⟩
        · rcases (hrow.alloc (.cells #[.int .i64 x] 3)).2 with ⟨rfl, _⟩ | ⟨g, cap, cur, rfl, _, hgb, _⟩
          · simp [Value.ownBlock] at e
          · obtain rfl : g = k := by simpa [Value.ownBlock] using e.symm
            rw [hgb] at hk; cases hk; cases ho
        · omega
    refine (h1.trans h2).setCell (.inl hO) (fun o ho => ?_) _
    rw [show W.heap[b]? = _ from hv] at ho; cases ho; rfl
end Cand
end Go.Proofs.YtghkalamlcfnnaaGreatDoor
namespace Go.Proofs.YtghkalamlcfnnaaGreatDoor
open Go Go.RowKit Go.Shelf Lmd
namespace Cand
theorem row_below' {w w' : World} {b : Nat} {o : Obj} (h : w.heap[b]? = some o) (hb : Below w.heap.size w w') : w'.heap[b]? = some o := by
  rw [hb.block b (Array.getElem?_eq_some_iff.1 h).1]; exact h
theorem cells5' {w : World} {b : Nat} {a0 a1 a2 a3 a4 : Value} {t : TypeId} (h : w.heap[b]? = some (.cells #[a0, a1, a2, a3, a4] t (0, 0))) :
    w.cell? ⟨b, 0, none⟩ = some a0 ∧ w.cell? ⟨b, 1, none⟩ = some a1 ∧ w.cell? ⟨b, 2, none⟩ = some a2 ∧ w.cell? ⟨b, 3, none⟩ = some a3 ∧ w.cell? ⟨b, 4, none⟩ = some a4 ∧ (w.frozen? ⟨b, 3, none⟩ = false ∧ w.frozen? ⟨b, 4, none⟩ = false ∧ w.frozen? ⟨b, 1, none⟩ = false) := by
  simp [World.cell?, World.frozen?, h]
end Cand
namespace Rul
open Er Day
abbrev namesV : Array Value := #[.string ⟨#[109, 111]⟩, .string ⟨#[116, 117]⟩, .string ⟨#[119, 101]⟩, .string ⟨#[116, 104]⟩, .string ⟨#[102, 114]⟩, .string ⟨#[115, 97]⟩, .string ⟨#[115, 117]⟩]
def nameL : List ByteArray := [⟨#[109, 111]⟩, ⟨#[116, 117]⟩, ⟨#[119, 101]⟩, ⟨#[116, 104]⟩, ⟨#[102, 114]⟩, ⟨#[115, 97]⟩, ⟨#[115, 117]⟩]
def nameOf (k : Int) : ByteArray := nameL.getD k.toNat ByteArray.empty
theorem names_new (w : World) : Calls Tryz.prog 199 #[] w fun e w' => e = .returned (.slice (some ⟨w.heap.size, 0, none⟩) 7 7) ∧ w' = w.alloc (.cells namesV 9) := by
  go_enter Tryz.func199, Tryz.ntmps199
  go_wp2
  go_ret
  exact ⟨rfl, rfl⟩
theorem names_cell (w : World) (k : Int) (h0 : 0 ≤ k) (h6 : k ≤ 6) : (w.alloc (.cells namesV 9)).cell? ⟨w.heap.size, 0 + k.toNat, none⟩ = some (.string (nameOf k)) := by
  have h := heap_new w (.cells namesV 9)
  have hk : k = 0 ∨ k = 1 ∨ k = 2 ∨ k = 3 ∨ k = 4 ∨ k = 5 ∨ k = 6 := by omega
  rcases hk with rfl | rfl | rfl | rfl | rfl | rfl | rfl <;> exact cell_of h rfl
noncomputable def dayT (n : Int) : List UInt8 :=
  open Classical in if h : ∃ t, ∃ y m d, Cal.At n y m d ∧ t = Cal.text y m d then Classical.choose h else []
theorem dayT_at {n y m d : Int} (h : Cal.At n y m d) : dayT n = Cal.text y m d := by
  have hex : ∃ t, ∃ y m d, Cal.At n y m d ∧ t = Cal.text y m d := ⟨_, y, m, d, h, rfl⟩
  unfold dayT
  rw [dif_pos hex]
  obtain ⟨y', m', d', h', e⟩ := Classical.choose_spec hex
  obtain ⟨rfl, rfl, rfl⟩ := Cal.at_unique h h'
  exact e
noncomputable def headL (r : Ru) : List UInt8 := r.fq.data.toList ++ [32] ++ Lib.itoa r.ev
noncomputable def daysL (r : Ru) : List UInt8 := if r.ds = [] then [] else [32] ++ Lib.join ((r.ds.map nameOf).map (·.data.toList)) [44]
noncomputable def countL (r : Ru) : List UInt8 := if 0 < r.ct then [32, 99, 111, 117, 110, 116, 32] ++ Lib.itoa r.ct else []
noncomputable def untilL (r : Ru) : List UInt8 := if r.un ≠ -1 then [32, 117, 110, 116, 105, 108, 32] ++ dayT r.un else []
noncomputable def textL (r : Ru) : List UInt8 := if r.fq.toList = [111, 110, 99, 101] then r.fq.data.toList else headL r ++ daysL r ++ countL r ++ untilL r
theorem itoa_b (n : Int) (h0 : -9223372036854775808 ≤ n) (h1 : n ≤ 9223372036854775807) (w : World) (htab : Lib.TabIs Tryz.prog w "internal/strconv.uint64pow10" .u64 Lib.pow10Tab) :
    Calls Tryz.prog 142 #[.int .i64 n] w fun e w' => e = .returned (.string ⟨(Lib.itoa n).toArray⟩) ∧ Below w.heap.size w w' := by
  refine (Tryz.strconv_Itoa n h0 h1 w htab).mono ?_
  rintro e w' ⟨rfl, k, os, rfl⟩
  exact ⟨rfl, below_grow _ _ _⟩
theorem string_info : (Tryz.prog.info? 9).map (fun i => (i.zero, i.size, i.bytes)) = some (some (.string ⟨#[]⟩), 1, 16) := by kernel_rfl
def cellsS (xs : List ByteArray) : List Value := xs.map .string
theorem reads_ownS {w : World} {base : Nat} {e : TypeId} {v : Value} {n : Nat} {xs : List ByteArray} (h : w.ownsRow base e 1 v n (cellsS xs)) (hn : n = xs.length) :
    (xs = [] ∧ v = .slice none 0 0) ∨ ∃ g cap, v = .slice (some ⟨g, 0, none⟩) xs.length cap ∧ xs.length ≤ cap ∧ g < w.heap.size ∧ ∀ (j : Nat) x, xs[j]? = some x → w.cell? ⟨g, 0 + j, none⟩ = some (.string x) := by
  subst hn
  rcases h.2 with ⟨rfl, h0⟩ | ⟨g, cap, cur, rfl, _, hh, hc, _, _, ht⟩
  · exact .inl ⟨List.length_eq_zero_iff.1 h0, rfl⟩
  · refine .inr ⟨g, cap, rfl, hc, (Array.getElem?_eq_some_iff.1 hh).1, fun j x hx => ?_⟩
    have hj : j < xs.length := (List.getElem?_eq_some_iff.1 hx).1
    have h1 : (cellsS xs)[j]? = some (.string x) := by simp [cellsS, hx]
    rw [← ht, Nat.mul_one, List.getElem?_take_of_lt hj] at h1
    simp only [World.cell?, hh, Nat.zero_add]
    simpa using h1
theorem nameOf_len (k : Int) : (nameOf k).data.toList.length ≤ 2 := by
  unfold nameOf
  have : k.toNat = 0 ∨ k.toNat = 1 ∨ k.toNat = 2 ∨ k.toNat = 3 ∨ k.toNat = 4 ∨ k.toNat = 5 ∨ k.toNat = 6 ∨ 7 ≤ k.toNat := by omega
  rcases this with h | h | h | h | h | h | h | h
  all_goals first | (rw [h]; decide) | skip
  rw [List.getD_eq_getElem?_getD, List.getElem?_eq_none (by simp [nameL]; omega)]
  decide
theorem join_le (sep : List UInt8) (hs : sep.length ≤ 1) : ∀ xs : List (List UInt8), (∀ x ∈ xs, x.length ≤ 2) → (Lib.join xs sep).length ≤ 3 * xs.length := by
  intro xs
  unfold Lib.join
  induction xs with
  | nil => intro _; simp
  | cons x xs ih =>
    intro h
    have hx := h x (by simp)
    have := ih (fun z hz => h z (by simp [hz]))
    cases xs with
    | nil => simp at *; omega
    | cons y ys =>
      rw [List.intercalate_cons_cons]
      simp only [List.length_append, List.length_cons] at *
      omega
theorem str_mk (s : ByteArray) : s = ⟨s.data.toList.toArray⟩ := by cases s; simp
theorem head_cat (r : Ru) : r.fq ++ ⟨#[32]⟩ ++ ⟨(Lib.itoa r.ev).toArray⟩ = (⟨(headL r).toArray⟩ : ByteArray) := by
  unfold headL
  rw [← cat, ← cat, ← str_mk]
theorem fin_val {a b : ByteArray} (h : a = b) : Value.string a = Value.string b := by rw [h]
theorem ret_val {a b : ByteArray} (h : a = b) : Ending.returned (.string a) = .returned (.string b) := by rw [h]
set_option maxRecDepth 100000 in
set_option maxHeartbeats 8000000 in
theorem text_any (r : Ru) (v : Value) (e : Nat → Addr) (w : World) (he : E4 w e) (hr : Ints.Reads w v r.ds) (hl : r.ds.length < 50000) (hbad : bad r = 0) (hf : r.fq.size ≤ 8) (hev : 1 ≤ r.ev ∧ r.ev ≤ 100) (hct : 0 ≤ r.ct ∧ r.ct ≤ 1000) (hun : -1 ≤ r.un ∧ r.un ≤ 73048) (hcu : r.ct = 0 ∨ r.un = -1) (hdb : daysB r.ds = true)
    (htab : Lib.TabIs Tryz.prog w "internal/strconv.uint64pow10" .u64 Lib.pow10Tab) :
    Calls Tryz.prog 143 #[.agg #[.string r.fq, .int .i64 r.ev, v, .int .i64 r.ct, .int .i64 r.un]] w fun e' w' => e' = .returned (.string ⟨(textL r).toArray⟩) ∧ Below w.heap.size w w' := by
  obtain ⟨i0, hi0, hz0, hz1, hz2⟩ := info_parts string_info
  obtain ⟨a, cap, rfl⟩ := hr.shape
  obtain ⟨W1, hW1⟩ : ∃ W1, w.alloc (.cells #[.string r.fq, .int .i64 r.ev, .slice a r.ds.length cap, .int .i64 r.ct, .int .i64 r.un] 37) = W1 := ⟨_, rfl⟩
  have hB : Below w.heap.size w W1 := by rw [← hW1]; exact (Below.refl _ w).alloc (Nat.le_refl _) _
  have hz1' : W1.heap.size = w.heap.size + 1 := by rw [← hW1]; simp
  have hx := heap_new w (.cells #[.string r.fq, .int .i64 r.ev, .slice a r.ds.length cap, .int .i64 r.ct, .int .i64 r.un] 37)
  rw [hW1] at hx
  have hc : Calls Tryz.prog 114 #[.agg #[.string r.fq, .int .i64 r.ev, .slice a r.ds.length cap, .int .i64 r.ct, .int .i64 r.un]] W1 fun e' w1 => e' = .returned .nilIface ∧ Below W1.heap.size W1 w1 := by
    have := check_any r _ e W1 (he.below hB) (hr.below hB) hl
    rw [hbad] at this
    exact this
  have HC := Lib.hid hc
  have HX := Lib.hid hx
  have HB := Lib.hid hB
  have HR := Lib.hid hr
  have htab1 : ∀ W, Below w.heap.size w W → Lib.TabIs Tryz.prog W "internal/strconv.uint64pow10" .u64 Lib.pow10Tab := fun W h => Frame.tab_below (g := 15) (by kernel_rfl) h htab
  have HTAB := Lib.hid htab1
  clear hc he hr hbad htab htab1
  have hr5 : ∀ w2 : World, Below W1.heap.size W1 w2 → w2.heap[w.heap.size]? = some (.cells #[.string r.fq, .int .i64 r.ev, .slice a r.ds.length cap, .int .i64 r.ct, .int .i64 r.un] 37) := fun w2 h => by rw [h.block _ (by omega)]; exact HX.out
  have HR5 := Lib.hid hr5
  clear hr5
  obtain ⟨q0, q1, q2, q3, q4, _⟩ := Cand.cells5' HX.out
  clear hx
  by_cases ho : r.fq.toList = [111, 110, 99, 101]
  · have ht : textL r = r.fq.data.toList := by unfold textL; rw [if_pos ho]
    rw [ht]
    go_enter Tryz.func143, Tryz.ntmps143
    go_wp2_with fail
    refine HC.out.mono ?_
    rintro e1 w2 ⟨rfl, hb2⟩
    obtain ⟨q0, q1, q2, q3, q4, _⟩ := Cand.cells5' (HR5.out w2 hb2)
    have HB2 := Lib.hid (HB.out.trans (hb2.mono (by omega)))
    clear hb2
    go_wp2
    go_ret
    exact ⟨by simp, HB2.out⟩
  have ho' : (r.fq.toList == [111, 110, 99, 101]) = false := by simpa using ho
  have ht : textL r = headL r ++ daysL r ++ countL r ++ untilL r := by unfold textL; rw [if_neg ho]
  rw [ht]
  obtain ⟨DL, hDL⟩ : ∃ DL, daysL r = DL := ⟨_, rfl⟩
  obtain ⟨CL, hCL⟩ : ∃ CL, countL r = CL := ⟨_, rfl⟩
  obtain ⟨UL, hUL⟩ : ∃ UL, untilL r = UL := ⟨_, rfl⟩
  rw [hDL, hCL, hUL]
  have HDL := Lib.hid hDL
  have HCL := Lib.hid hCL
  have HUL := Lib.hid hUL
  clear ht ho hDL hCL hUL
  have hli := Lib.itoa_length_le r.ev (by omega) (by omega)
  have hlc := Lib.itoa_length_le r.ct (by omega) (by omega)
  go_enter Tryz.func143, Tryz.ntmps143
  go_wp2_with fail
  refine HC.out.mono ?_
  rintro e1 w2 ⟨rfl, hb2⟩
  obtain ⟨q0, q1, q2, q3, q4, _⟩ := Cand.cells5' (HR5.out w2 hb2)
  have hbw2 := HB.out.trans (hb2.mono (by omega))
  have htab2 := HTAB.out w2 hbw2
  have HB2 := Lib.hid hb2
  have HBW2 := Lib.hid hbw2
  have HT2 := Lib.hid htab2
  clear hb2 hbw2 htab2 HC
  go_upto_region 5 with fail
  go_cut [3] from 10 (fun s3 wc => s3 = .string ⟨(headL r).toArray⟩ ∧ Below w2.heap.size w2 wc)
  case first =>
    go_region_with (go_at_call 142; refine (itoa_b r.ev (by omega) (by omega) _ (by exact HT2.out)).mono ?_; rintro e1 w3 ⟨rfl, hb3⟩; obtain ⟨z0, z1, z2, z3, z4, _⟩ := Cand.cells5' (Cand.row_below' (show (w2.drewN 1).heap[w.heap.size]? = _ from HR5.out w2 HB2.out) hb3))
    all_goals go_wp2_with fail
    all_goals go_meet
    all_goals exact ⟨fin_val (head_cat r), (below_draw (Below.refl _ w2) 1).trans hb3⟩
  case rest =>
    obtain ⟨rfl, hb5⟩ := hcut
    have hb15 := HB2.out.trans (hb5.mono HB2.out.size)
    have hbwc := HBW2.out.trans (hb5.mono HBW2.out.size)
    have hs15 := hb15.size
    have hrc := HR.out.below hbwc
    obtain ⟨q0, q1, q2, q3, q4, _⟩ := Cand.cells5' (HR5.out wc hb15)
    have HB15 := Lib.hid hb15
    have HBWC := Lib.hid hbwc
    have HRC := Lib.hid hrc
    have hdin := hdb
    clear hb5 hb15 hbwc hrc HT2 HB2 HBW2 hdb
    have HDB := Lib.hid hdin
    clear hdin
    obtain ⟨hd, hhd⟩ : ∃ hd, headL r = hd := ⟨_, rfl⟩
    have hlh : hd.length ≤ 40 := by
      rw [← hhd]; unfold headL
      have : r.fq.data.toList.length = r.fq.size := by simp
      simp only [List.length_append, List.length_cons, List.length_nil]
      omega
    rw [hhd]
    have HHD := Lib.hid hhd
    clear hhd
    go_wp2_with fail
    go_loopw [4, 25] (fun v4 p wr => ∃ k : Nat, k ≤ r.ds.length ∧ p = .int .i64 (k : Int) ∧ (∃ a c, v4 = .slice a k c) ∧ wr.ownsRow wc.heap.size 9 1 v4 k (cellsS ((r.ds.take k).map nameOf)) ∧ Below wc.heap.size wc wr) (fun _ p _ => r.ds.length - (intOf p).toNat)
    case atStart => exact ⟨0, Nat.zero_le _, rfl, ⟨none, 0, rfl⟩, ⟨by simp [cellsS], .inl ⟨rfl, rfl⟩⟩, Below.refl _ _⟩
    case round =>
      obtain ⟨k, hk, rfl, ⟨a7, c7, rfl⟩, hown, hbr⟩ := hrel
      have hsr := hbr.size
      have HOWN := Lib.hid hown
      have HBR := Lib.hid hbr
      by_cases hlt : k < r.ds.length
      · obtain ⟨_, b, o, ha9, hc⟩ := (HRC.out.below hbr).at (by intro h; rw [h] at hlt; exact absurd hlt (Nat.not_lt_zero _))
        subst ha9
        have c1 := hc k hlt
        obtain ⟨y, hy⟩ : ∃ y, Ints.el r.ds k = y := ⟨_, rfl⟩
        rw [hy] at c1
        have hyb : 0 ≤ y ∧ y ≤ 6 := by
          have := HDB.out
          unfold daysB at this
          rw [List.all_eq_true] at this
          have h2 := this y (by rw [← hy, Ints.el_lt hlt]; exact List.getElem_mem _)
          simpa [inB] using h2
        have htk : (r.ds.take (k + 1)).map nameOf = (r.ds.take k).map nameOf ++ [nameOf y] := by
          rw [List.take_succ_eq_append_getElem hlt, List.map_append, ← hy, Ints.el_lt hlt]; rfl
        obtain ⟨j, rfl⟩ : ∃ j : Nat, y = (j : Int) := ⟨y.toNat, by omega⟩
        have hnc := names_cell wr (j : Int) hyb.1 hyb.2
        simp only [Int.toNat_natCast, Nat.zero_add] at hnc
        obtain ⟨nm, hnm⟩ : ∃ nm, nameOf (j : Int) = nm := ⟨_, rfl⟩
        rw [hnm] at hnc htk
        have hj7 : (j : Int) < 7 := by omega
        have HTK := Lib.hid htk
        clear hown hbr hc htk hy hnm hyb
        go_wp2_with (first
          | (go_at_call 199; refine (names_new _).mono ?_; rintro e1 w3 ⟨rfl, rfl⟩)
          | (at_builtin
             refine wpList_append_own _ rfl (.tmp 29) (.tmp 34) _ rfl wc.heap.size 9 i0 _ 1 16 Tryz.underlying33 hi0 hz0 hz1 hz2 rfl (by omega) (.slice a7 k c7) k (cellsS ((r.ds.take k).map nameOf)) rfl
               ((HOWN.out.alloc _).alloc _) ⟨wr.heap.size + 1, 0, none⟩ 1 1 [.string nm] rfl rfl
               (fun j u hu => by
                 cases j with
                 | zero =>
                   simp at hu; subst hu
                   have h := heap_new (wr.alloc (.cells namesV 9)) (.cells #[.string nm] 9)
                   rw [World.size_alloc] at h
                   exact cell_of h rfl
                 | succ j => simp at hu) (fun u hu => by simp at hu; subst hu; rfl) (by simp only [maxLen]; omega) (by omega) (by simp; omega) ?_
             intro v1 wb hown' hg hnil
             have hbb : Below wc.heap.size wr wb := (((Below.refl _ wr).alloc hsr _).alloc (by simp; omega) _).grown hg (by simp; omega) (fun j ej => by
               rcases HOWN.out.2 with ⟨h1, _⟩ | ⟨g, cap, cur, h1, h2, _⟩
               · rw [h1] at ej; simp [Value.ownBlock] at ej
               · rw [h1] at ej; obtain rfl : g = j := by simpa [Value.ownBlock] using ej
                 exact h2)
             obtain ⟨a1, c2, e1⟩ : ∃ a1 c2, v1 = .slice a1 (k + 1) c2 := by
               rcases hown'.2 with ⟨_, h2⟩ | ⟨g, cap, cur, h1, _⟩
               · omega
               · exact ⟨_, _, h1⟩
             subst e1
             have HOB := Lib.hid hown'
             have HBRB := Lib.hid (HBR.out.trans hbb)
             clear hown' hg hnil hbb))
        go_roundw
        case rel =>
          have hS2 : cellsS ((r.ds.take (k + 1)).map nameOf) = cellsS ((r.ds.take k).map nameOf) ++ [.string nm] := by rw [HTK.out]; simp [cellsS]
          first
            | exact ⟨k + 1, by omega, by simp, ⟨a1, c2, rfl⟩, by rw [hS2]; exact HOB.out, HBRB.out⟩
            | ((repeat apply Exists.intro); exact ⟨⟨k + 1, by omega, by simp, ⟨a1, c2, rfl⟩, by rw [hS2]; exact HOB.out, HBRB.out⟩, rfl⟩)
        case measure => simp [intOf]; omega
      · have hke : k = r.ds.length := by omega
        have htake : r.ds.take k = r.ds := by rw [hke, List.take_length]
        have hown2 := HOWN.out
        rw [htake] at hown2
        have hbx1 := HB15.out.trans (hbr.mono hs15)
        have hbx := HBWC.out.trans (hbr.mono HBWC.out.size)
        obtain ⟨q0, q1, q2, q3, q4, _⟩ := Cand.cells5' (HR5.out wr hbx1)
        have HO2 := Lib.hid hown2
        clear hown hbr htake hown2 HOWN HBR
        by_cases hz : r.ds = []
        · have hk0 : k = 0 := by rw [hke, hz]; rfl
          subst hk0
          have hD : daysL r = [] := by unfold daysL; rw [if_pos hz]
          obtain rfl := HDL.out.symm.trans hD
          clear hD hke hz
          have HBX := Lib.hid hbx
          have HB1X := Lib.hid hbx1
          clear hbx hbx1
          generalize wr = wx at *
          by_cases hcp : 0 < r.ct
          · have hu1 : r.un = -1 := by omega
            have hC : countL r = [32, 99, 111, 117, 110, 116, 32] ++ Lib.itoa r.ct := by unfold countL; rw [if_pos hcp]
            have hU : untilL r = [] := by unfold untilL; rw [if_neg (by simp [hu1])]
            obtain rfl := HCL.out.symm.trans hC
            obtain rfl := HUL.out.symm.trans hU
            clear hC hU
            have hi := itoa_b r.ct (by omega) (by omega) wx (HTAB.out wx HBX.out)
            have HI := Lib.hid hi
            have HU1 := Lib.hid hu1
            clear hi hu1
            go_wp2_with fail
            refine HI.out.mono ?_
            rintro e2 wy ⟨rfl, hby⟩
            obtain ⟨q0, q1, q2, q3, q4, _⟩ := Cand.cells5' (HR5.out wy (HB1X.out.trans (hby.mono HB1X.out.size)))
            have hu1 := HU1.out
            have HF := Lib.hid (HBX.out.trans (hby.mono HBX.out.size))
            clear hby
            go_wp2
            go_ret
            exact ⟨ret_val (by rw [HHD.out]; repeat (first | rw [List.append_nil] | rw [← cat])), HF.out⟩
          · have hC : countL r = [] := by unfold countL; rw [if_neg hcp]
            obtain rfl := HCL.out.symm.trans hC
            clear hC
            have hc0 : r.ct = 0 := by omega
            by_cases hu1 : r.un = -1
            · have hU : untilL r = [] := by unfold untilL; rw [if_neg (by simp [hu1])]
              obtain rfl := HUL.out.symm.trans hU
              clear hU
              go_wp2
              go_ret
              exact ⟨ret_val (by rw [HHD.out]; repeat (first | rw [List.append_nil] | rw [← cat])), HBX.out⟩
            · obtain ⟨y, m, d, hat⟩ := Cal.at_exists r.un (by omega) (by omega)
              have hU : untilL r = [32, 117, 110, 116, 105, 108, 32] ++ Cal.text y m d := by unfold untilL; rw [if_pos hu1, dayT_at hat]
              obtain rfl := HUL.out.symm.trans hU
              clear hU
              have htx := text_at r.un y m d wx hat (HTAB.out wx HBX.out)
              have hlt10 : (Cal.text y m d).length ≤ 10 := Nat.le_refl _
              have HTX := Lib.hid htx
              obtain ⟨TT, hTT⟩ : ∃ TT, Cal.text y m d = TT := ⟨_, rfl⟩
              rw [hTT] at hlt10 HTX
              have HTT := Lib.hid hTT
              clear htx hat hTT hc0
              have hcn : r.ct ≤ 0 := by omega
              go_wp2_with fail
              refine HTX.out.mono ?_
              rintro e2 wy ⟨rfl, hby⟩
              have HF := Lib.hid (HBX.out.trans (hby.mono HBX.out.size))
              clear hby
              go_wp2
              go_ret
              exact ⟨ret_val (by rw [HHD.out, HTT.out]; repeat (first | rw [List.append_nil] | rw [← cat])), HF.out⟩
        · have hk0 : 0 < k := by have : r.ds.length ≠ 0 := fun h => hz (List.length_eq_zero_iff.1 h); omega
          have hjl := join_le [44] (by simp) ((r.ds.map nameOf).map (·.data.toList)) (by
            intro x hx
            simp only [List.map_map, List.mem_map] at hx
            obtain ⟨d, _, rfl⟩ := hx
            exact nameOf_len d)
          simp only [List.length_map] at hjl
          have hks : k = (r.ds.map nameOf).length := by rw [List.length_map]; exact hke
          rcases reads_ownS HO2.out hks with ⟨h, _⟩ | ⟨g, c8, h1, h2, h3, h4⟩
          · rw [h] at hks; simp at hks; omega
          · rw [← hks] at h1 h2
            obtain ⟨rfl, rfl⟩ : a7 = some ⟨g, 0, none⟩ ∧ c7 = c8 := by cases h1; exact ⟨rfl, rfl⟩
            have hj := Tryz.strings_Join g 0 c7 (r.ds.map nameOf) ⟨#[44]⟩ wr h4 h3 (by omega) (by omega) (by
              show (Lib.join ((r.ds.map nameOf).map (·.data.toList)) [44]).length ≤ _
              omega)
            rw [← hks] at hj
            have hj2 : Calls Tryz.prog 110 #[.slice (some ⟨g, 0, none⟩) k c7, .string ⟨#[44]⟩] wr fun e w' => e = .returned (.string ⟨(Lib.join ((r.ds.map nameOf).map (·.data.toList)) [44]).toArray⟩) ∧ Below wr.heap.size wr w' := hj
            obtain ⟨J, hJ⟩ : ∃ J, Lib.join ((r.ds.map nameOf).map (·.data.toList)) [44] = J := ⟨_, rfl⟩
            rw [hJ] at hj2 hjl
            have hD : daysL r = [32] ++ J := by unfold daysL; rw [if_neg hz, ← hJ]
            obtain rfl := HDL.out.symm.trans hD
            have HJ := Lib.hid hj2
            have HBX0 := Lib.hid hbx
            have HB1X0 := Lib.hid hbx1
            have hjl2 : J.length ≤ 300000 := by omega
            clear hj hj2 hJ hD hjl hks h1 h2 h3 h4 hbx hbx1 hz hke
            go_wp2_with fail
            refine HJ.out.mono ?_
            rintro e1 wx ⟨rfl, hbj⟩
            have hbx1 := HB1X0.out.trans (hbj.mono HB1X0.out.size)
            obtain ⟨q0, q1, q2, q3, q4, _⟩ := Cand.cells5' (HR5.out wx hbx1)
            have HBX := Lib.hid (HBX0.out.trans (hbj.mono HBX0.out.size))
            have HB1X := Lib.hid hbx1
            clear hbx1 hbj HBX0 HB1X0
            by_cases hcp : 0 < r.ct
            · have hu1 : r.un = -1 := by omega
              have hC : countL r = [32, 99, 111, 117, 110, 116, 32] ++ Lib.itoa r.ct := by unfold countL; rw [if_pos hcp]
              have hU : untilL r = [] := by unfold untilL; rw [if_neg (by simp [hu1])]
              obtain rfl := HCL.out.symm.trans hC
              obtain rfl := HUL.out.symm.trans hU
              clear hC hU
              have hi := itoa_b r.ct (by omega) (by omega) wx (HTAB.out wx HBX.out)
              have HI := Lib.hid hi
              have HU1 := Lib.hid hu1
              clear hi hu1
              go_wp2_with fail
              refine HI.out.mono ?_
              rintro e2 wy ⟨rfl, hby⟩
              obtain ⟨q0, q1, q2, q3, q4, _⟩ := Cand.cells5' (HR5.out wy (HB1X.out.trans (hby.mono HB1X.out.size)))
              have hu1 := HU1.out
              have HF := Lib.hid (HBX.out.trans (hby.mono HBX.out.size))
              clear hby
              go_wp2
              go_ret
              exact ⟨ret_val (by rw [HHD.out]; repeat (first | rw [List.append_nil] | rw [← cat])), HF.out⟩
            · have hC : countL r = [] := by unfold countL; rw [if_neg hcp]
              obtain rfl := HCL.out.symm.trans hC
              clear hC
              have hc0 : r.ct = 0 := by omega
              by_cases hu1 : r.un = -1
              · have hU : untilL r = [] := by unfold untilL; rw [if_neg (by simp [hu1])]
                obtain rfl := HUL.out.symm.trans hU
                clear hU
                go_wp2
                go_ret
                exact ⟨ret_val (by rw [HHD.out]; repeat (first | rw [List.append_nil] | rw [← cat])), HBX.out⟩
              · obtain ⟨y, m, d, hat⟩ := Cal.at_exists r.un (by omega) (by omega)
                have hU : untilL r = [32, 117, 110, 116, 105, 108, 32] ++ Cal.text y m d := by unfold untilL; rw [if_pos hu1, dayT_at hat]
                obtain rfl := HUL.out.symm.trans hU
                clear hU
                have htx := text_at r.un y m d wx hat (HTAB.out wx HBX.out)
                have hlt10 : (Cal.text y m d).length ≤ 10 := Nat.le_refl _
                have HTX := Lib.hid htx
                obtain ⟨TT, hTT⟩ : ∃ TT, Cal.text y m d = TT := ⟨_, rfl⟩
                rw [hTT] at hlt10 HTX
                have HTT := Lib.hid hTT
                clear htx hat hTT hc0
                have hcn : r.ct ≤ 0 := by omega
                go_wp2_with fail
                refine HTX.out.mono ?_
                rintro e2 wy ⟨rfl, hby⟩
                have HF := Lib.hid (HBX.out.trans (hby.mono HBX.out.size))
                clear hby
                go_wp2
                go_ret
                exact ⟨ret_val (by rw [HHD.out, HTT.out]; repeat (first | rw [List.append_nil] | rw [← cat])), HF.out⟩
end Rul
end Go.Proofs.YtghkalamlcfnnaaGreatDoor
