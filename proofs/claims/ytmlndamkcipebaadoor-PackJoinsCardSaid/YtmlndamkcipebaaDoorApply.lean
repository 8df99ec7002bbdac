/- pack.Apply: a delta of a text. -/
import Derived.Test.YtmlndamkcipebaaDoorOps
import Derived.Test.YtmlndamkcipebaaDoorBuilder
import Derived.IntWalk
import Derived.BigQuiet
import Derived.Deep.QuietTactic
namespace Go.Proofs.YtmlndamkcipebaaDoor
open Go Go.RowKit Lmd
namespace Pk
open Rul Day Tp Cand

/-- what lies behind pack.Apply -/
def ApPost (e : Nat → Addr) (a d : List UInt8) (w : World) (er : Ending) (w' : World) : Prop :=
  er = .returned (.tuple #[.string (mk (apply a d).2), errV e (apply a d).1]) ∧ Below w.heap.size w w'
/-- the errors of deltas -/
structure EP (w : World) (e : Nat → Addr) : Prop where
  s0 : Frame.Sent w 3 (Er.tx [116, 101, 120, 116]) (e 0)
  s1 : Frame.Sent w 0 (Er.tx [98, 111, 117, 110, 100]) (e 1)
theorem EP.below {w w' : World} {e : Nat → Addr} (h : EP w e) (hb : Below w.heap.size w w') : EP w' e := ⟨h.s0.below hb, h.s1.below hb⟩
theorem opsF_len : ∀ (k : Nat) (d : List UInt8) (l : List Op), d.length ≤ k → opsF d = some l → l.length ≤ d.length
  | 0, d, l, hk, h => by
    have : d = [] := List.length_eq_zero_iff.1 (by omega)
    subst this
    rw [opsF_nil] at h
    cases h
    simp
  | k + 1, d, l, hk, h => by
    by_cases hd : d = []
    · subst hd
      rw [opsF_nil] at h
      cases h
      simp
    · cases hf : (fst1 d).1 with
      | false => rw [opsF_bad hd hf] at h; cases h
      | true =>
        have hl := fst_len hf
        rw [opsF_one hd hf] at h
        cases hr : opsF (fst1 d).2.2 with
        | none => rw [hr] at h; cases h
        | some l2 =>
          rw [hr] at h
          cases h
          have := opsF_len k _ l2 (by omega) hr
          rw [List.length_cons]; omega
/-- the state of the loop of pack.Apply -/
structure ApAt (a : List UInt8) (l : List Op) (b : Nat) (W1 : World) (k : Nat) (out : List UInt8) (W : World) : Prop where
  rel : makes a l [] = makes a (l.drop k) out
  bd : Bd.Is b b out W
  low : Below b W1 W
  len : out.length ≤ 10000
  le : k ≤ l.length
theorem cellsOp_at : ∀ (l : List Op) (k : Nat) (o : Op), l[k]? = some o → (cellsOp l)[3 * k]? = some (.int .i64 o.at_) ∧ (cellsOp l)[3 * k + 1]? = some (.int .i64 o.n) ∧ (cellsOp l)[3 * k + 2]? = some (.string (mk o.text))
  | [], k, o, h => by cases h
  | x :: l, 0, o, h => by
    obtain rfl : x = o := by simpa using h
    simp [cellsOp]
  | x :: l, k + 1, o, h => by
    have ih := cellsOp_at l k o (by simpa using h)
    have e : cellsOp (x :: l) = [.int .i64 x.at_, .int .i64 x.n, .string (mk x.text)] ++ cellsOp l := rfl
    have e0 : 3 * (k + 1) = 3 * k + 3 := by omega
    rw [e, e0]
    simp only [List.getElem?_append_right (show [Value.int .i64 x.at_, .int .i64 x.n, .string (mk x.text)].length ≤ 3 * k + 3 by simp), List.getElem?_append_right (show [Value.int .i64 x.at_, .int .i64 x.n, .string (mk x.text)].length ≤ 3 * k + 3 + 1 by simp), List.getElem?_append_right (show [Value.int .i64 x.at_, .int .i64 x.n, .string (mk x.text)].length ≤ 3 * k + 3 + 2 by simp), List.length_cons, List.length_nil]
    have e1 : 3 * k + 3 - (0 + 1 + 1 + 1) = 3 * k := by omega
    have e2 : 3 * k + 3 + 1 - (0 + 1 + 1 + 1) = 3 * k + 1 := by omega
    have e3 : 3 * k + 3 + 2 - (0 + 1 + 1 + 1) = 3 * k + 2 := by omega
    rw [e1, e2, e3]
    exact ih
theorem op_cells {W : World} {base : Nat} {va : Option Addr} {vc : Nat} {l : List Op} {k : Nat} {o : Op} (h : W.ownsRow base 100 3 (.slice va l.length vc) l.length (cellsOp l)) (hk : l[k]? = some o) :
    ∃ g, va = some ⟨g, 0, none⟩ ∧ base ≤ g ∧ (W.cell? ⟨g, k * 3, none⟩ = some (.int .i64 o.at_) ∧ W.cell? ⟨g, k * 3 + 1, none⟩ = some (.int .i64 o.n) ∧ W.cell? ⟨g, k * 3 + 2, none⟩ = some (.string (mk o.text))) := by
  obtain ⟨h1, h2, h3⟩ := cellsOp_at l k o hk
  rw [Nat.mul_comm] at h1 h2 h3
  have hkl := (List.getElem?_eq_some_iff.1 hk).1
  rcases h.2 with ⟨e, h0⟩ | ⟨g, cap, cur, e, hb, _⟩
  · omega
  · cases e
    have hc := h.cells (g := g) rfl
    refine ⟨g, rfl, hb, ?_, ?_, ?_⟩
    · have := hc _ _ h1
      rwa [Addr.add_lit, Nat.zero_add] at this
    · have := hc _ _ h2
      rwa [Addr.add_lit, Nat.zero_add] at this
    · have := hc _ _ h3
      rwa [Addr.add_lit, Nat.zero_add] at this
theorem own_later3' {w w' : World} {base b : Nat} {e : TypeId} {v : Value} {n : Nat} {xs : List Value} (h : w.ownsRow base e 3 v n xs) (hb : Below b w w') (hv : ∀ g, v.ownBlock = some g → g < b) : w'.ownsRow base e 3 v n xs := by
  refine ⟨h.1, ?_⟩
  rcases h.2 with hx | ⟨g, cap, cur, rfl, h2, hr, h3⟩
  · exact .inl hx
  · exact .inr ⟨g, cap, cur, rfl, h2, by rw [hb.block g (hv g rfl)]; exact hr, h3⟩
set_option maxRecDepth 100000 in
set_option maxHeartbeats 1000000 in
theorem apply_any (a d : List UInt8) (e : Nat → Addr) (m : Int) (w : World) (ha : a.length ≤ 1000000) (hd : d.length ≤ 1000000) (he : EP w e) (hE : ELib w) (htab : Lib.TabIs Tryd.prog w "internal/strconv.uint64pow10" .u64 Lib.pow10Tab) (hm : w.cell? ⟨13, 0, none⟩ = some (.int .i64 m)) :
    Calls Tryd.prog 18 #[.string (mk a), .string (mk d)] w (ApPost e a d w) := by
  have hops := ops_any d m w hd hE htab hm
  have HOPS := Lib.hid hops
  have HE := Lib.hid he
  obtain ⟨A, hA⟩ : ∃ A, mk a = A := ⟨_, rfl⟩
  rw [hA]
  have HA := Lib.hid hA
  clear hops he hE htab hm hA
  go_enter Tryd.func18, Tryd.ntmps18
  go_wp2_with fail
  refine HOPS.out.mono ?_
  rintro e1 w1 ⟨v, rfl, hv, hb1⟩
  cases ho : opsF d with
  | none =>
    have hap : apply a d = (1, []) := by unfold apply; rw [ho]
    have cE := (HE.out.below hb1).s0.cell
    have HAP := Lib.hid hap
    have HB := Lib.hid hb1
    clear hap ho hv hb1 HOPS
    simp only [Option.isSome_none]
    go_wp2_with fail
    go_quiet (fail)
    go_wp2
    go_ret2
    exact ⟨by rw [HAP.out]; rfl, below_draw HB.out _⟩
  | some l =>
    have hown := hv l ho
    obtain ⟨va, vc, rfl⟩ := ownsRow_slice3 hown
    simp only [Option.isSome_some]
    obtain ⟨W1, hW1⟩ : ∃ W1, w1.alloc (.cells #[.pointer none, .slice none 0 0] 98) = W1 := ⟨_, rfl⟩
    have hB1 : Below w1.heap.size w1 W1 := by rw [← hW1]; exact (Below.refl _ w1).alloc (Nat.le_refl _) _
    have hnew := Bd.new_is w1
    rw [hW1] at hnew
    have hsz1 : W1.heap.size = w1.heap.size + 1 := by rw [← hW1]; simp
    have hfit := opsF_fit _ d l (Nat.le_refl _) ho
    have hll : l.length ≤ 1000000 := by have := opsF_len _ d l (Nat.le_refl _) ho; omega
    have hvb : ∀ g, (Value.slice va l.length vc).ownBlock = some g → g < w1.heap.size := fun g hg => (hown.lt g hg).2
    have HVB := Lib.hid hvb
    have HOWN := Lib.hid (own_later3 hown hB1)
    have HNEW := Lib.hid hnew
    have HB1 := Lib.hid hb1
    have HB2 := Lib.hid hB1
    have HO := Lib.hid ho
    have HFIT := Lib.hid hfit
    have HW1 := Lib.hid hW1
    have HZ1 := Lib.hid hsz1
    have hs1 := hb1.size
    clear hvb hown hB1 hnew hv hb1 ho HOPS hfit hW1 hsz1
    go_wp2_with fail
    rw [HW1.out]
    go_loopw [21] (fun i wr => ∃ (k : Nat) (out : List UInt8), i = .int .i64 k ∧ ApAt a l w1.heap.size W1 k out wr) (fun i _ => l.length - (intOf i).toNat)
    case atStart => exact ⟨0, [], rfl, rfl, HNEW.out, Below.refl _ _, by simp, Nat.zero_le _⟩
    case round =>
      obtain ⟨k, out, rfl, hat⟩ := hrel
      have hkl := hat.le
      by_cases hlt : k < l.length
      · obtain ⟨o, hok⟩ : ∃ o, l[k]? = some o := ⟨_, List.getElem?_eq_getElem hlt⟩
        obtain ⟨g, rfl, hg, hc⟩ := op_cells (own_later3' HOWN.out hat.low HVB.out) hok
        obtain ⟨p0, p1, p2⟩ := hc
        have hi1 : (k : Int) < (l.length : Int) := by omega
        have HAT := Lib.hid hat
        have HOK := Lib.hid hok
        clear hat hok
        obtain ⟨W2, hW2⟩ : ∃ W2, wr.alloc (.cells #[.int .i64 o.at_, .int .i64 o.n, .string (mk o.text)] 100) = W2 := ⟨_, rfl⟩
        have hx2 := heap_new wr (.cells #[.int .i64 o.at_, .int .i64 o.n, .string (mk o.text)] 100)
        have hb2 : Below wr.heap.size wr W2 := by rw [← hW2]; exact (Below.refl _ wr).alloc (Nat.le_refl _) _
        rw [hW2] at hx2
        have hbd2 := HAT.out.bd.below hb2
        have hlt2 := HAT.out.bd.lt
        have HW2 := Lib.hid hW2
        have HX2 := Lib.hid hx2
        have HB2' := Lib.hid hb2
        have HBD2 := Lib.hid hbd2
        clear hx2 hb2 hbd2 hW2
        go_upto_region 8 with fail
        rw [HW2.out]
        obtain ⟨k0, k1, k2, f0, f1, f2⟩ := cells3 HX2.out
        have hof := HFIT.out o (List.mem_of_getElem? HOK.out)
        have hAl : A.size = a.length := by rw [← HA.out]; simp [ByteArray.size]
        have HAL := Lib.hid hAl
        have HOF := Lib.hid hof
        have hol := HAT.out.len
        have hAs : A.size ≤ 1000000 := by omega
        clear hAl hof
        go_cut [51, 70] from 25 (fun s t wx => t = undef ∧ s = .bool (badOp a out o) ∧ Below W2.heap.size W2 wx)
        case first =>
          have hs2 : IntKind.i64.wrap ((10000 : Int) - (out.length : Int)) = (10000 : Int) - (out.length : Int) := IntWalk.i64_in _ (by omega)
          by_cases ht : o.text = []
          · have hbounds : 0 ≤ o.at_ ∧ 1 ≤ o.n ∧ o.at_ < 1000000000 ∧ o.n < 1000000000 := by
              rcases HOF.out with ⟨_, h⟩ | ⟨h, _⟩
              · exact ⟨h.1, h.2.1, h.2.2.1, h.2.2.2⟩
              · exact absurd ht h
            have he : (mk o.text).toList = [] := by rw [toListMk]; exact ht
            have HT := Lib.hid ht
            have hs1 : IntKind.i64.wrap ((A.size : Int) - o.at_) = (A.size : Int) - o.at_ := IntWalk.i64_in _ (by omega)
            clear ht
            by_cases h1 : (A.size : Int) < o.at_
            · have hd1 : decide ((A.size : Int) < o.at_) = true := decide_eq_true h1
              have hb : badOp a out o = true := by
                unfold badOp
                rw [decide_eq_true HT.out, ← HAL.out, hd1]; simp
              have HB := Lib.hid hb
              clear hb h1 hbounds
              go_quiet ((go_at_call 55; exact Calls.quiet_of_same (Bd.len_any w1.heap.size w1.heap.size out _ (by exact HBD2.out))))
              go_wp2_with fail
              go_meet
              exact ⟨rfl, by rw [HB.out], below_draw (Below.refl _ W2) _⟩
            · have hd1 : decide ((A.size : Int) < o.at_) = false := decide_eq_false h1
              by_cases h2 : (A.size : Int) - o.at_ < o.n
              · have hd2 : decide ((A.size : Int) - o.at_ < o.n) = true := decide_eq_true h2
                have hb : badOp a out o = true := by
                  unfold badOp
                  rw [decide_eq_true HT.out, ← HAL.out, hd1, hd2]; simp
                have HB := Lib.hid hb
                clear hb h1 h2 hbounds
                go_quiet ((go_at_call 55; exact Calls.quiet_of_same (Bd.len_any w1.heap.size w1.heap.size out _ (by exact HBD2.out))))
                go_wp2_with fail
                go_meet
                exact ⟨rfl, by rw [HB.out], below_draw (Below.refl _ W2) _⟩
              · have hd2 : decide ((A.size : Int) - o.at_ < o.n) = false := decide_eq_false h2
                have hb : badOp a out o = decide ((10000 : Int) - (out.length : Int) < o.n) := by
                  unfold badOp
                  rw [decide_eq_true HT.out, ← HAL.out, hd1, hd2]; simp
                have HB := Lib.hid hb
                clear hb h1 h2 hbounds
                go_quiet ((go_at_call 55; exact Calls.quiet_of_same (Bd.len_any w1.heap.size w1.heap.size out _ (by exact HBD2.out))))
                go_wp2_with fail
                go_meet
                exact ⟨rfl, by rw [HB.out], below_draw (Below.refl _ W2) _⟩
          · have hb : badOp a out o = decide ((10000 : Int) - (out.length : Int) < o.n) := by
              unfold badOp
              rw [decide_eq_false ht]; simp
            have he3 : o.text.isEmpty = false := by simpa using ht
            have HB := Lib.hid hb
            clear hb ht
            go_quiet ((go_at_call 55; exact Calls.quiet_of_same (Bd.len_any w1.heap.size w1.heap.size out _ (by exact HBD2.out))))
            go_wp2_with fail
            go_meet
            exact ⟨rfl, by rw [HB.out], below_draw (Below.refl _ W2) _⟩
        case rest =>
          obtain ⟨rfl, rfl, hbc⟩ := hcut
          have hdrop : l.drop k = o :: l.drop (k + 1) := by
            obtain ⟨h1, h2⟩ := List.getElem?_eq_some_iff.1 HOK.out
            rw [← h2]
            exact List.drop_eq_getElem_cons h1
          have hlowc : Below w1.heap.size W1 wc := HAT.out.low.trans ((HB2'.out.trans (hbc.mono HB2'.out.size)).mono (by have := HAT.out.low.size; have := HZ1.out; omega))
          have hbdc := HBD2.out.below hbc
          have hxc := row_below HX2.out hbc
          have hallc : Below w.heap.size w wc := (HB1.out.trans (HB2.out.mono hs1)).trans (hlowc.mono hs1)
          cases hb : badOp a out o with
          | true =>
            have hap : apply a d = (2, []) := by
              unfold apply
              rw [HO.out]
              simp only [HAT.out.rel, hdrop, makes, hb, if_true]
            have cE := (HE.out.below hallc).s1.cell
            have HAP := Lib.hid hap
            have HALL := Lib.hid hallc
            clear hdrop hlowc hbdc hxc hallc hb hap hbc
            go_wp2_with fail
            go_quiet (fail)
            go_wp2
            go_ret2
            exact ⟨by rw [HAP.out]; rfl, below_draw HALL.out _⟩
          | false =>
            have hol2 := op_len HOF.out hb
            have hmk : makes a l [] = makes a (l.drop (k + 1)) (out ++ opBytes a o) := by
              rw [HAT.out.rel, hdrop]
              simp only [makes, hb, Bool.false_eq_true, if_false]
            have hszc : w1.heap.size ≤ wc.heap.size := by have := hlowc.size; have := HZ1.out; omega
            have HMK := Lib.hid hmk
            have HOL2 := Lib.hid hol2
            have HLOWC := Lib.hid hlowc
            have HBDC := Lib.hid hbdc
            have HALLC := Lib.hid hallc
            obtain ⟨k0, k1, k2, f0, f1, f2⟩ := cells3 hxc
            have hbits := hb
            unfold badOp at hbits
            simp only [Bool.or_eq_false_iff, Bool.and_eq_false_iff, decide_eq_false_iff_not] at hbits
            have HBITS := Lib.hid hbits
            clear hdrop hlowc hbdc hxc hallc hb hbc hmk hol2 hbits
            by_cases ht : o.text = []
            · have hof := HOF.out
              have hbounds : 0 ≤ o.at_ ∧ 1 ≤ o.n ∧ o.at_ < 1000000000 ∧ o.n < 1000000000 := by
                rcases hof with ⟨_, h⟩ | ⟨h, _⟩
                · exact ⟨h.1, h.2.1, h.2.2.1, h.2.2.2⟩
                · exact absurd ht h
              have hin : o.at_ + o.n ≤ (A.size : Int) := by
                rcases HBITS.out.1 with h | ⟨h1, h2⟩
                · exact absurd ht h
                · have := HAL.out; omega
              obtain ⟨x, hx⟩ : ∃ x : Nat, o.at_ = (x : Int) := ⟨o.at_.toNat, by omega⟩
              obtain ⟨y, hy⟩ : ∃ y : Nat, o.n = (y : Int) := ⟨o.n.toNat, by omega⟩
              have hob : opBytes a o = (a.drop x).take y := by
                unfold opBytes
                rw [if_pos ht, hx, hy]; simp
              have hext : A.extract x (x + y) = mk ((a.drop x).take y) := mk_of (by
                rw [ext_mid, ← HA.out]
                congr 1; omega)
              rw [hx] at k0 hin
              rw [hy] at k1 hin
              have he5 : o.text.isEmpty = true := by rw [ht]; rfl
              have hxy1 : x + y ≤ A.size := by omega
              have hxy2 : x ≤ A.size := by omega
              have hxy3 : (x : Int) + (y : Int) ≤ (A.size : Int) := by omega
              have hob2 : (out ++ opBytes a o).length ≤ 10000 := HOL2.out.2
              have hsum : out.length + (mk ((a.drop x).take y)).size ≤ 1000000000 := by
                have : (mk ((a.drop x).take y)).size = (opBytes a o).length := by rw [hob]; rfl
                rw [List.length_append] at hob2; omega
              have HOB := Lib.hid hob
              have HSUM := Lib.hid hsum
              have HSZC := Lib.hid hszc
              clear hof hbounds hx hy hob ht hin hob2 hsum hszc
              go_upto_region 11 with fail
              go_wp2_with fail
              refine (Bd.write_any w1.heap.size w1.heap.size out (mk ((a.drop x).take y)) _ HBDC.out HSUM.out HSZC.out).mono ?_
              rintro e3 w3 ⟨rfl, hbd3, hb3⟩
              have hrel3 : ApAt a l w1.heap.size W1 (k + 1) (out ++ opBytes a o) w3 := by
                refine ⟨HMK.out, ?_, HLOWC.out.trans hb3, HOL2.out.2, hlt⟩
                rw [HOB.out]; exact hbd3
              have HREL3 := Lib.hid hrel3
              clear hbd3 hb3 hrel3
              go_wp2_with fail
              go_roundw
              case rel =>

                exact ⟨k + 1, _, by go_num, HREL3.out⟩
              simp [intOf]; omega
            · have he5 : o.text.isEmpty = false := by simpa using ht
              have hob : opBytes a o = o.text := by unfold opBytes; rw [if_neg ht]
              have hob2 : (out ++ opBytes a o).length ≤ 10000 := HOL2.out.2
              have hsum : out.length + (mk o.text).size ≤ 1000000000 := by
                have : (mk o.text).size = (opBytes a o).length := by rw [hob]; rfl
                rw [List.length_append] at hob2; omega
              have HOB := Lib.hid hob
              have HSUM := Lib.hid hsum
              have HSZC := Lib.hid hszc
              clear hob ht hob2 hsum hszc
              go_wp2_with fail
              refine (Bd.write_any w1.heap.size w1.heap.size out (mk o.text) _ HBDC.out HSUM.out HSZC.out).mono ?_
              rintro e3 w3 ⟨rfl, hbd3, hb3⟩
              have hrel3 : ApAt a l w1.heap.size W1 (k + 1) (out ++ opBytes a o) w3 := by
                refine ⟨HMK.out, ?_, HLOWC.out.trans hb3, HOL2.out.2, hlt⟩
                rw [HOB.out]; exact hbd3
              have HREL3 := Lib.hid hrel3
              clear hbd3 hb3 hrel3
              go_wp2_with fail
              go_roundw
              case rel => exact ⟨k + 1, _, by go_num, HREL3.out⟩
              simp [intOf]; omega
      · have hkl2 : k = l.length := by omega
        subst hkl2
        have hi1 : ¬ ((l.length : Int) < (l.length : Int)) := by omega
        have hap : apply a d = (0, out) := by
          unfold apply
          rw [HO.out]
          have := hat.rel
          rw [List.drop_length] at this
          simp only [this, makes]
        have hallc : Below w.heap.size w wr := (HB1.out.trans (HB2.out.mono hs1)).trans (hat.low.mono hs1)
        have hszr : w1.heap.size ≤ wr.heap.size := by have := hat.low.size; have := HZ1.out; omega
        have hbdr := hat.bd
        have HAP := Lib.hid hap
        have HALL := Lib.hid hallc
        have HSZR := Lib.hid hszr
        have HBDR := Lib.hid hbdr
        clear hap hallc hszr hbdr hat
        go_wp2_with fail
        refine (Bd.string_any w1.heap.size w1.heap.size out _ HBDR.out HSZR.out).mono ?_
        rintro e3 w3 ⟨rfl, hb3⟩
        have hall3 : Below w.heap.size w w3 := HALL.out.trans (hb3.mono hs1)
        have HALL3 := Lib.hid hall3
        clear hb3 hall3
        go_wp2_with fail
        go_ret2
        exact ⟨by rw [HAP.out]; rfl, HALL3.out⟩
end Pk
end Go.Proofs.YtmlndamkcipebaaDoor
