/- rule.Check. -/
import Derived.Test.YtmlndamkcipebaaDoorRule
import Derived.Test.YtmlndamkcipebaaDoorDayText
import Derived.Deep.Cut
import Derived.Deep.CutRange
namespace Go.Proofs.YtmlndamkcipebaaDoor
open Go Go.RowKit Lmd
namespace Rul
open Er Day

/-- the four errors that rules need -/
structure E4 (w : World) (e : Nat → Addr) : Prop where
  s1 : Frame.Sent w 0 (tx [98, 111, 117, 110, 100]) (e 1)
  s2 : Frame.Sent w 1 (tx [115, 104, 97, 112, 101]) (e 2)
  s3 : Frame.Sent w 6 (tx [110, 97, 109, 101]) (e 3)
  s7 : Frame.Sent w 7 (tx [111, 114, 100, 101, 114]) (e 7)
theorem E4.below {w w' : World} {e : Nat → Addr} (h : E4 w e) (hb : Below w.heap.size w w') : E4 w' e := ⟨h.s1.below hb, h.s2.below hb, h.s3.below hb, h.s7.below hb⟩
theorem four {w : World} {e : Nat → Addr} (h : Errs w e) : E4 w e := ⟨h.s1, h.s2, h.s3, h.s7⟩
/-- an error of a number, 0: none -/
def errV (e : Nat → Addr) : Nat → Value
  | 0 => .nilIface
  | k + 1 => ev (e k)
/-- the days up to the k-th are in their bounds -/
def daysTo (xs : List Int) (k : Nat) : Bool := (List.range k).all fun i => inB (Ints.el xs i) 0 6
theorem daysTo_succ (xs : List Int) (k : Nat) : daysTo xs (k + 1) = (daysTo xs k && inB (Ints.el xs k) 0 6) := by simp [daysTo, List.range_succ]
theorem daysTo_all (xs : List Int) : daysTo xs xs.length = daysB xs := by
  rw [Bool.eq_iff_iff]
  simp only [daysTo, daysB, List.all_eq_true, List.mem_range]
  constructor
  · intro h x hx
    obtain ⟨i, hi, rfl⟩ := List.mem_iff_getElem.1 hx
    rw [← Ints.el_lt hi]; exact h i hi
  · intro h i hi
    rw [Ints.el_lt hi]; exact h _ (List.getElem_mem _)
theorem bad_name {r : Ru} (h : Lib.containsS freqs r.fq = false) : bad r = 4 := by simp [bad, h]
theorem bad_bound {r : Ru} (h : Lib.containsS freqs r.fq = true) (hb : (boundB r && daysB r.ds) = false) : bad r = 2 := by simp only [bad, h, hb]; simp
theorem bad_shape {r : Ru} (h : Lib.containsS freqs r.fq = true) (hb : (boundB r && daysB r.ds) = true) (hs : shapeB r = false) : bad r = 3 := by simp only [bad, h, hb, hs]; simp
theorem bad_order {r : Ru} (h : Lib.containsS freqs r.fq = true) (hb : (boundB r && daysB r.ds) = true) (hs : shapeB r = true) (hq : riseB r.ds = false) : bad r = 8 := by simp only [bad, h, hb, hs, hq]; simp
theorem bad_none {r : Ru} (h : Lib.containsS freqs r.fq = true) (hb : (boundB r && daysB r.ds) = true) (hs : shapeB r = true) (hq : riseB r.ds = true) : bad r = 0 := by simp only [bad, h, hb, hs, hq]; simp

theorem rise_no {xs : List Int} {k : Nat} (h : k + 1 < xs.length) (hq : Ints.el xs (k + 1) ≤ Ints.el xs k) : riseB xs = false := by
  cases hr : riseB xs with
  | false => rfl
  | true =>
    have := List.all_eq_true.1 hr k (List.mem_range.2 (by omega))
    simp only [decide_eq_true_eq] at this
    omega
theorem rise_yes {xs : List Int} {k : Nat} (h : xs.length ≤ k + 1) (hq : ∀ j, j < k → Ints.el xs j < Ints.el xs (j + 1)) : riseB xs = true :=
  List.all_eq_true.2 fun i hi => decide_eq_true (hq i (by have := List.mem_range.1 hi; omega))

set_option maxRecDepth 100000 in
set_option maxHeartbeats 4000000 in
theorem check_any (r : Ru) (v : Value) (e : Nat → Addr) (w : World) (he : E4 w e) (hr : Ints.Reads w v r.ds) (hl : r.ds.length < 1000) :
    Calls Tryd.prog 41 #[r.val v] w fun e' w' => e' = .returned (errV e (bad r)) ∧ Below w.heap.size w w' := by
  obtain ⟨a, cap, rfl⟩ := hr.shape
  obtain ⟨q, hq⟩ : ∃ q, bad r = q := ⟨_, rfl⟩
  rw [hq]
  have HQ := Lib.hid hq
  clear hq
  have hE : ∀ W, Below w.heap.size w W → E4 W e := fun W hW => he.below hW
  have HE := Lib.hid hE
  have HR := Lib.hid hr
  clear he hE hr
  obtain ⟨fq, ev', ct, un, ds⟩ := r
  simp only [Ru.val] at *
  have hF := heap_new (w.alloc (.cells #[.string fq, .int .i64 ev', .slice a ds.length cap, .int .i64 ct, .int .i64 un] 67)) (.cells freqsV 9)
  rw [World.size_alloc] at hF
  have HF := Lib.hid hF
  clear hF
  go_enter Tryd.func41, Tryd.ntmps41
  go_wp2_with fail
  generalize hc : Lib.containsS freqs fq = c
  have HC := Lib.hid hc
  clear hc
  go_cut [11] from 7 (fun s11 wc => s11 = .bool (!c) ∧ Below w.heap.size w wc ∧ wc.heap[w.heap.size]? = some (.cells #[.string fq, .int .i64 ev', .slice a ds.length cap, .int .i64 ct, .int .i64 un] 67))
  case first =>
    go_region_with (first
      | (go_at_call 73; refine (freqs_new _).mono ?_; rintro e1 w1 ⟨rfl, rfl⟩)
      | (go_at_call 72; refine (freqs_has _ _ (by exact HF.out) _).mono ?_; rw [HC.out]; rintro e1 w1 ⟨rfl, rfl⟩))
    all_goals go_wp2_with fail
    all_goals go_meet
    all_goals exact ⟨rfl, below_draw (((Below.refl _ w).alloc (Nat.le_refl _) _).alloc (by simp) _) 1, by show ((w.alloc _).alloc _).heap[w.heap.size]? = _; rw [Below.heap_alloc _ _ _ (by simp)]; exact heap_new w _⟩
  case rest =>
    obtain ⟨rfl, hb1, hB⟩ := hcut
    have hE := HE.out _ hb1
    have k0 : wc.cell? ⟨w.heap.size, 0, none⟩ = some (.string fq) := cell_of hB rfl
    have k1 : wc.cell? ⟨w.heap.size, 1, none⟩ = some (.int .i64 ev') := cell_of hB rfl
    have k2 : wc.cell? ⟨w.heap.size, 2, none⟩ = some (.slice a ds.length cap) := cell_of hB rfl
    have k3 : wc.cell? ⟨w.heap.size, 3, none⟩ = some (.int .i64 ct) := cell_of hB rfl
    have k4 : wc.cell? ⟨w.heap.size, 4, none⟩ = some (.int .i64 un) := cell_of hB rfl
    clear HF
    have HBX := Lib.hid hB
    clear hB
    cases c with
    | false =>
      have g3 := hE.s3.cell
      have hr := bad_name (r := ⟨fq, ev', ct, un, ds⟩) HC.out
      have HB := Lib.hid hr
      clear hr hE HC
      go_wp2
      go_ret
      obtain rfl : 4 = q := HB.out.symm.trans HQ.out
      exact ⟨rfl, hb1⟩
    | true =>
      go_upto_region 3 with fail
      go_cut [3] from 13 (fun s3 wx => s3 = .bool (inB ev' 1 100 && inB ct 0 1000 && inB un (-1) 73048) ∧ wx = wc)
      case first =>
        clear HQ HE HR HC hE
        obtain ⟨g1, hg1⟩ : ∃ g1, inB ev' 1 100 = g1 := ⟨_, rfl⟩
        obtain ⟨g2, hg2⟩ : ∃ g2, inB ct 0 1000 = g2 := ⟨_, rfl⟩
        obtain ⟨g3, hg3⟩ : ∃ g3, inB un (-1) 73048 = g3 := ⟨_, rfl⟩
        have W1 := within_any ev' 1 100 wc
        have W2 := within_any ct 0 1000 wc
        have W3 := within_any un (-1) 73048 wc
        rw [hg1] at W1
        rw [hg2] at W2
        rw [hg3] at W3
        have W1 := Lib.hid W1
        have W2 := Lib.hid W2
        have W3 := Lib.hid W3
        have G1 := Lib.hid hg1
        have G2 := Lib.hid hg2
        have G3 := Lib.hid hg3
        clear hg1 hg2 hg3
        go_wp2_with fail
        refine W1.out.mono ?_; rintro e1 w1 ⟨rfl, rfl⟩
        clear W1
        cases g1 with
        | false => go_wp2_with fail; go_meet; exact ⟨by rw [G1.out]; rfl, rfl⟩
        | true =>
          go_wp2_with fail
          refine W2.out.mono ?_; rintro e1 w1 ⟨rfl, rfl⟩
          clear W2
          cases g2 with
          | false => go_wp2_with fail; go_meet; exact ⟨by rw [G1.out, G2.out]; rfl, rfl⟩
          | true =>
            go_wp2_with fail
            refine W3.out.mono ?_; rintro e1 w1 ⟨rfl, rfl⟩
            clear W3
            go_wp2_with fail; go_meet; exact ⟨by rw [G1.out, G2.out, G3.out]; rfl, rfl⟩
      case rest =>
        obtain ⟨rfl, hwx⟩ := hcut
        subst hwx
        have HR1 := Lib.hid (HR.out.below hb1)
        obtain ⟨b0, hb0⟩ : ∃ b0, (inB ev' 1 100 && inB ct 0 1000 && inB un (-1) 73048) = b0 := ⟨_, rfl⟩
        rw [hb0]
        have HB0 := Lib.hid hb0
        have HE1 := Lib.hid hE
        clear hb0 HR hE
        go_wp2_with fail
        go_loopw [3, 29] (fun s3 i wr => ∃ k : Nat, k ≤ ds.length ∧ i = .int .i64 k ∧ s3 = .bool (b0 && daysTo ds k) ∧ wr = wc) (fun _ i _ => ds.length - (intOf i).toNat)
        case atStart => exact ⟨0, Nat.zero_le _, rfl, by simp [daysTo], rfl⟩
        case round =>
          obtain ⟨k, hk, rfl, rfl, rfl⟩ := hrel
          by_cases hlt : k < ds.length
          · obtain ⟨_, b, o, ha, hc⟩ := HR1.out.at (by rintro rfl; exact absurd hlt (Nat.not_lt_zero _))
            subst ha
            have c1 := hc k hlt
            have hi1 : (k : Int) < (ds.length : Int) := by omega
            obtain ⟨b1, hb⟩ : ∃ b1, (b0 && daysTo ds k) = b1 := ⟨_, rfl⟩
            have HB1 := Lib.hid hb
            rw [hb]
            clear hb hc
            cases b1 with
            | false =>
              go_wp2_with fail
              go_roundw
              case rel => exact ⟨k + 1, by omega, by go_num, by rw [daysTo_succ, ← Bool.and_assoc, HB1.out]; rfl, trivial⟩
              case measure => simp [intOf]; omega
            | true =>
              go_wp2_with fail
              refine (within_any _ _ _ _).mono ?_; rintro e1 w1 ⟨rfl, rfl⟩
              go_wp2_with fail
              go_roundw
              case rel => (repeat apply Exists.intro); exact ⟨⟨k + 1, by omega, by go_num, by rw [daysTo_succ, ← Bool.and_assoc, HB1.out]; simp, trivial⟩, rfl⟩
              case measure => simp [intOf]; omega
          · obtain rfl : k = ds.length := by omega
            rw [daysTo_all]
            obtain ⟨b2, hb⟩ : ∃ b2, (b0 && daysB ds) = b2 := ⟨_, rfl⟩
            have HB2 := Lib.hid hb
            rw [hb]
            clear hb
            have HBD := Lib.hid (show (boundB ⟨fq, ev', ct, un, ds⟩ && daysB ds) = b2 by rw [← HB2.out, ← HB0.out]; rfl)
            cases b2 with
            | false =>
              have g1 := HE1.out.s1.cell
              go_wp2_with fail
              go_ret
              obtain rfl : 2 = q := (bad_bound HC.out HBD.out).symm.trans HQ.out
              exact ⟨rfl, hb1⟩
            | true =>
              go_wp2_with fail
              refine (shape_any ⟨fq, ev', ct, un, ds⟩ a cap _ hl).mono ?_; rintro e1 w1 ⟨rfl, hb3⟩
              obtain ⟨b3, hb⟩ : ∃ b3, shapeB ⟨fq, ev', ct, un, ds⟩ = b3 := ⟨_, rfl⟩
              have HS := Lib.hid hb
              rw [hb]
              clear hb
              have HE2 := Lib.hid (HE1.out.below hb3)
              have HR2 := Lib.hid (HR1.out.below hb3)
              have hb4 := below2 hb1 hb3
              have K2 := cell_later hb3 k2
              have g2 := HE2.out.s2.cell
              clear k0 k1 k2 k3 k4
              cases b3 with
              | false =>
                go_wp2_with fail
                go_ret
                obtain rfl : 3 = q := (bad_shape HC.out HBD.out HS.out).symm.trans HQ.out
                exact ⟨rfl, hb4⟩
              | true =>
                clear g2
                go_wp2_with fail
                go_loopw [6] (fun i wr => ∃ (k m : Nat), (k = 0 ∨ k < ds.length) ∧ i = .int .i64 ((k : Int) + 1) ∧ wr = w1.drewN m ∧ ∀ j, j < k → Ints.el ds j < Ints.el ds (j + 1)) (fun i _ => ds.length + 1 - (intOf i).toNat)
                case atStart => exact ⟨0, 0, Or.inl rfl, rfl, rfl, fun _ h => absurd h (Nat.not_lt_zero _)⟩
                case round =>
                  obtain ⟨k, m, hk, rfl, rfl, hs⟩ := hrel
                  have HSo := Lib.hid hs
                  clear hs
                  have Km : (w1.drewN m).cell? ⟨w.heap.size, 2, none⟩ = some (.slice a ds.length cap) := by exact K2
                  have g7 : ∀ m' : Nat, (w1.drewN m').cell? ⟨7, 0, none⟩ = some (ev (e 7)) := fun _ => by exact HE2.out.s7.cell
                  by_cases hlt : k + 1 < ds.length
                  · obtain ⟨_, b, o, ha, hc⟩ := HR2.out.at (by rintro rfl; exact absurd hlt (Nat.not_lt_zero _))
                    subst ha
                    have c1 : (w1.drewN m).cell? ⟨b, o + (k + 1), none⟩ = some (.int .i64 (Ints.el ds (k + 1))) := by exact hc (k + 1) hlt
                    have c2 : (w1.drewN m).cell? ⟨b, o + k, none⟩ = some (.int .i64 (Ints.el ds k)) := by exact hc k (by omega)
                    have hi1 : (k : Int) + 1 < (ds.length : Int) := by omega
                    by_cases hq : Ints.el ds (k + 1) ≤ Ints.el ds k
                    · have hb := decide_eq_true hq
                      have HQ1 := Lib.hid hq
                      clear hq
                      go_wp2
                      go_quiet (fail)
                      go_wp2
                      go_ret
                      obtain rfl : 8 = q := (bad_order HC.out HBD.out HS.out (rise_no hlt HQ1.out)).symm.trans HQ.out
                      exact ⟨rfl, below_draw hb4 _⟩
                    · have hb := decide_eq_false hq
                      have HQ1 := Lib.hid hq
                      clear hq
                      go_wp2
                      go_quiet (fail)
                      go_wp2
                      go_roundw
                      case rel => exact ⟨k + 1, _, Or.inr hlt, by go_num, rfl, fun j hj => by
                        by_cases ej : j = k
                        · subst ej; exact HQ1.out
                        · exact HSo.out j (by omega)⟩
                      case measure => simp [intOf]; omega
                  · have hi1 : (ds.length : Int) ≤ (k : Int) + 1 := by omega
                    go_wp2
                    go_ret
                    obtain rfl : 0 = q := (bad_none HC.out HBD.out HS.out (rise_yes (show ds.length ≤ k + 1 by omega) HSo.out)).symm.trans HQ.out
                    exact ⟨rfl, below_draw hb4 m⟩
end Rul
end Go.Proofs.YtmlndamkcipebaaDoor
