/- package pack: Apply; the closed fact packed. -/
import Derived.Test.YtmlndamkcipebaaGreatDoorLength
import Derived.Test.YtmlndamkcipebaaGreatDoorRuleText
import Derived.Test.YtmlndamkcipebaaGreatDoorShelf
import Derived.Test.YtmlndamkcipebaaGreatDoorFar
import Derived.IntWalk
import Derived.Deep.RegionLaw
import Derived.Maps.AppendAt
import Derived.BigQuiet
import Derived.Deep.QuietTactic
namespace Go.Proofs.YtmlndamkcipebaaGreatDoor
open Go Go.RowKit Lmd
namespace Tp
open Rul Day

set_option maxRecDepth 100000 in
set_option maxHeartbeats 2000000 in
theorem packNumber_any (c : UInt8) (s : ByteArray) (m : Int) (w : World) (hs : s.size ≤ 2000000) (hE : ELib w) (htab : Lib.TabIs Tryz.prog w "internal/strconv.uint64pow10" .u64 Lib.pow10Tab) (hm : w.cell? ⟨13, 0, none⟩ = some (.int .i64 m)) :
    Calls Tryz.prog 120 #[.string s, .string ⟨#[c]⟩] w (LenPost c s.data.toList w) := by
  have hcl := cut_len s.data.toList c
  have hcut := Tryz.strings_Cut s ⟨#[c]⟩ m w (by omega) hm
  have e0 : (⟨#[c]⟩ : ByteArray).data.toList = [c] := rfl
  rw [e0] at hcut
  unfold LenPost lenOk lenN lenR
  obtain ⟨D, hD⟩ : ∃ D, (Lib.cut s.data.toList [c]).1 = D := ⟨_, rfl⟩
  obtain ⟨R, hR⟩ : ∃ R, (Lib.cut s.data.toList [c]).2.1 = R := ⟨_, rfl⟩
  obtain ⟨F, hF⟩ : ∃ F, (Lib.cut s.data.toList [c]).2.2 = F := ⟨_, rfl⟩
  rw [hD, hR, hF] at hcut ⊢
  rw [hD] at hcl
  have hsl : s.data.toList.length = s.size := by simp
  have hds : (mk D).size = D.length := by simp [ByteArray.size]
  have hat := fun W (h : Below w.heap.size w W) => atoi_any (mk D) W (by omega) (hE.below h)
  have HCUT := Lib.hid hcut
  have HAT := Lib.hid hat
  have HT := Lib.hid htab
  have hD9 : D.length ≤ 2000000 := by omega
  clear hcut hat htab hE hm hD hR hF e0 hcl hsl hds
  obtain ⟨q, hq⟩ : ∃ q, numOk D = q := ⟨_, rfl⟩
  obtain ⟨x, hx⟩ : ∃ x, numIs D = x := ⟨_, rfl⟩
  rw [hq, hx]
  have HQ := Lib.hid hq
  have HX := Lib.hid hx
  clear hq hx
  cases F with
  | false =>
    go_enter Tryz.func120, Tryz.ntmps120
    go_wp2_with fail
    refine HCUT.out.mono ?_
    rintro e1 w1 ⟨rfl, k, rfl⟩
    have hat := HAT.out (w.drewN k) (below_draw (Below.refl _ w) k)
    have HA := Lib.hid hat
    clear hat
    go_wp2_with fail
    refine HA.out.mono ?_
    rintro e2 w2 ⟨n, er, rfl, _, hb2⟩
    have HB := Lib.hid ((below_draw (Below.refl _ w) k).trans hb2)
    clear hb2
    go_wp2
    go_ret3
    exact ⟨n, rfl, (fun h => by cases h), HB.out⟩
  | true =>
    go_enter Tryz.func120, Tryz.ntmps120
    go_wp2_with fail
    refine HCUT.out.mono ?_
    rintro e1 w1 ⟨rfl, k, rfl⟩
    have HBK := Lib.hid (below_draw (Below.refl w.heap.size w) k)
    have hat := HAT.out (w.drewN k) HBK.out
    have HA := Lib.hid hat
    clear hat
    go_wp2_with fail
    refine HA.out.mono ?_
    rintro e2 w2 ⟨n, er, rfl, hor, hb2⟩
    have HB := Lib.hid (HBK.out.trans hb2)
    clear hb2 HA HAT HCUT
    rcases hor with ⟨v, hv, rfl, rfl⟩ | ⟨hno, N, rfl⟩
    · have hv2 : Lib.atoiAll D = .ok n := hv
      have hq : q = (decide (D.length ≤ 9) && decide (0 ≤ n) && decide (Lib.itoa n = D)) := by rw [← HQ.out]; unfold numOk; rw [hv2]
      have hx : x = n := by rw [← HX.out]; unfold numIs; rw [hv2]
      subst hx
      have hv9 := atoi_le hv2
      have HQ2 := Lib.hid hq
      have hsz : (mk D).size = D.length := by simp [ByteArray.size]
      have HSZ := Lib.hid hsz
      clear hv hv2 hq HQ HX hsz
      by_cases h9 : D.length ≤ 9
      · by_cases h0 : 0 ≤ x
        · by_cases hi : Lib.itoa x = D
          · obtain rfl : q = true := by rw [HQ2.out, decide_eq_true h9, decide_eq_true h0, decide_eq_true hi]; rfl
            have hit := itoa_b x (by omega) hv9 w2 (Frame.tab_below (g := 12) (by kernel_rfl) HB.out HT.out)
            rw [hi] at hit
            have HIT := Lib.hid hit
            clear hit hi HQ2
            go_wp2_with fail
            refine HIT.out.mono ?_
            rintro e3 w3 ⟨rfl, hb3⟩
            have HB3 := Lib.hid (HB.out.trans (hb3.mono HB.out.size))
            clear hb3
            go_wp2
            go_ret3
            exact ⟨_, rfl, fun _ => rfl, HB3.out⟩
          · obtain rfl : q = false := by rw [HQ2.out, decide_eq_false hi, Bool.and_false]
            have hit := itoa_b x (by omega) hv9 w2 (Frame.tab_below (g := 12) (by kernel_rfl) HB.out HT.out)
            have HIT := Lib.hid hit
            have hq : (Lib.itoa x == D) = false := beq_false_of_ne hi
            clear hit HQ2 hi
            go_wp2_with fail
            refine HIT.out.mono ?_
            rintro e3 w3 ⟨rfl, hb3⟩
            have HB3 := Lib.hid (HB.out.trans (hb3.mono HB.out.size))
            clear hb3
            go_wp2
            go_ret3
            first | exact HB3.out | exact ⟨⟨_, rfl⟩, HB3.out⟩ | exact ⟨_, rfl, (fun h => by cases h), HB3.out⟩
        · obtain rfl : q = false := by rw [HQ2.out, decide_eq_false h0, Bool.and_false]; rfl
          clear HQ2
          go_wp2
          go_ret3
          first | exact HB.out | exact ⟨⟨_, rfl⟩, HB.out⟩ | exact ⟨_, rfl, (fun h => by cases h), HB.out⟩
      · obtain rfl : q = false := by rw [HQ2.out, decide_eq_false h9]; rfl
        clear HQ2
        go_wp2
        go_ret3
        first | exact HB.out | exact ⟨⟨_, rfl⟩, HB.out⟩ | exact ⟨_, rfl, (fun h => by cases h), HB.out⟩
    · obtain rfl : q = false := HQ.out.symm.trans hno
      clear hno HQ HX
      go_wp2
      go_ret3
      first | exact HB.out | exact ⟨⟨_, rfl⟩, HB.out⟩ | exact ⟨_, rfl, (fun h => by cases h), HB.out⟩
end Tp
end Go.Proofs.YtmlndamkcipebaaGreatDoor
namespace Go.Proofs.YtmlndamkcipebaaGreatDoor
open Go Go.RowKit Go.Shelf Lmd
namespace Pk
open Rul Tp

/-- an operation of a delta: a copy, or bytes of its own -/
structure Op where
  (at_ n : Int) (text : List UInt8)
def noOp : Op := ⟨0, 0, []⟩

/-! the first operation -/
/-- a copy, behind its letter: two numbers -/
def copyOk (r : List UInt8) : Bool := lenOk 44 r && lenOk 59 (lenR 44 r) && decide (0 < lenN 59 (lenR 44 r))
def copyOp (r : List UInt8) : Op := ⟨lenN 44 r, lenN 59 (lenR 44 r), []⟩
def copyR (r : List UInt8) : List UInt8 := lenR 59 (lenR 44 r)
/-- an insert, behind its letter: a number, and so many bytes -/
def insOk (r : List UInt8) : Bool := lenOk 58 r && decide (1 ≤ lenN 58 r) && decide (lenN 58 r < ((lenR 58 r).length : Int)) && decide ((lenR 58 r)[(lenN 58 r).toNat]? = some 59)
def insOp (r : List UInt8) : Op := ⟨0, lenN 58 r, (lenR 58 r).take (lenN 58 r).toNat⟩
def insR (r : List UInt8) : List UInt8 := (lenR 58 r).drop ((lenN 58 r).toNat + 1)
/-- the first operation: is there one, which, and what follows it -/
def fst1 (d : List UInt8) : Bool × Op × List UInt8 :=
  match d with
  | 99 :: r => if copyOk r = true then (true, copyOp r, copyR r) else (false, noOp, [])
  | 105 :: r => if insOk r = true then (true, insOp r, insR r) else (false, noOp, [])
  | _ => (false, noOp, [])

theorem len_more {c : UInt8} {l : List UInt8} (h : lenOk c l = true) (t : List UInt8) : lenOk c (l ++ t) = true ∧ lenN c (l ++ t) = lenN c l ∧ lenR c (l ++ t) = lenR c l ++ t := by
  unfold lenOk lenN lenR at *
  simp only [Bool.and_eq_true] at h
  by_cases hm : c ∈ l
  · obtain ⟨a, r, rfl, ha⟩ := split_at hm
    have e : a ++ c :: r ++ t = a ++ c :: (r ++ t) := by simp
    rw [cut_hit ha] at h
    rw [e, cut_hit (a := a) (r := r ++ t) ha, cut_hit (a := a) (r := r) ha]
    exact ⟨by simp [h.2], rfl, rfl⟩
  · rw [cut_miss hm] at h
    exact absurd h.1 (by simp)
theorem fst_more {d : List UInt8} (h : (fst1 d).1 = true) (t : List UInt8) : fst1 (d ++ t) = (true, (fst1 d).2.1, (fst1 d).2.2 ++ t) := by
  unfold fst1 at h ⊢
  split at h
  · rename_i r
    split at h
    · rename_i hc
      simp only [List.cons_append]
      unfold copyOk at hc
      simp only [Bool.and_eq_true, decide_eq_true_eq] at hc
      obtain ⟨⟨h1, h2⟩, h3⟩ := hc
      obtain ⟨a1, a2, a3⟩ := len_more h1 t
      obtain ⟨b1, b2, b3⟩ := len_more h2 t
      have hc2 : copyOk (r ++ t) = true := by unfold copyOk; rw [a1, a3, b1, b2]; simp [h3]
      have hc1 : copyOk r = true := by unfold copyOk; rw [h1, h2]; simp [h3]
      rw [if_pos hc2, if_pos hc1]
      unfold copyOp copyR
      rw [a2, a3, b2, b3]
    · cases h
  · rename_i r
    split at h
    · rename_i hc
      simp only [List.cons_append]
      have hc1 := hc
      unfold insOk at hc
      simp only [Bool.and_eq_true, decide_eq_true_eq] at hc
      obtain ⟨⟨⟨h1, h2⟩, h3⟩, h4⟩ := hc
      obtain ⟨a1, a2, a3⟩ := len_more h1 t
      have hlt : (lenN 58 r).toNat < (lenR 58 r).length := by omega
      have hc2 : insOk (r ++ t) = true := by
        unfold insOk
        rw [a1, a2, a3, List.getElem?_append_left hlt, h4]
        simp; omega
      rw [if_pos hc2, if_pos hc1]
      unfold insOp insR
      rw [a2, a3, List.take_append_of_le_length (by omega), List.drop_append_of_le_length (by omega)]
    · cases h
  · cases h
theorem fst_len {d : List UInt8} (h : (fst1 d).1 = true) : (fst1 d).2.2.length < d.length := by
  have hr : ∀ (c : UInt8) (l : List UInt8), (lenR c l).length ≤ l.length := by
    intro c l
    unfold lenR Lib.cut
    split
    · rw [List.length_drop]; omega
    · simp
  unfold fst1 at h ⊢
  split at h
  · rename_i r
    split
    · have h1 := hr 59 (lenR 44 r)
      have h2 := hr 44 r
      simp only [copyR, List.length_cons]; omega
    · simp
  · rename_i r
    split
    · have h2 := hr 58 r
      simp only [insR, List.length_drop, List.length_cons]; omega
    · simp
  · cases h
/-- an operation is a copy of some bytes, or some bytes -/
def Fit (o : Op) : Prop := (o.text = [] ∧ 0 ≤ o.at_ ∧ 1 ≤ o.n ∧ o.at_ < 1000000000 ∧ o.n < 1000000000) ∨ (o.text ≠ [] ∧ o.at_ = 0 ∧ o.n = (o.text.length : Int) ∧ o.n < 1000000000)
theorem fst_fit {d : List UInt8} (h : (fst1 d).1 = true) : Fit (fst1 d).2.1 := by
  unfold fst1 at h ⊢
  split at h
  · rename_i r
    split at h
    · rename_i hc
      rw [if_pos hc]
      unfold copyOk at hc
      simp only [Bool.and_eq_true, decide_eq_true_eq] at hc
      obtain ⟨⟨h1, h2⟩, h3⟩ := hc
      obtain ⟨_, a1, a2⟩ := len_split h1
      obtain ⟨_, b1, b2⟩ := len_split h2
      exact .inl ⟨rfl, a1, by show 1 ≤ lenN 59 (lenR 44 r); omega, a2, b2⟩
    · cases h
  · rename_i r
    split at h
    · rename_i hc
      rw [if_pos hc]
      unfold insOk at hc
      simp only [Bool.and_eq_true, decide_eq_true_eq] at hc
      obtain ⟨⟨⟨h1, h2⟩, h3⟩, h4⟩ := hc
      obtain ⟨_, a1, a2⟩ := len_split h1
      refine .inr ⟨?_, rfl, ?_, a2⟩
      · show (lenR 58 r).take (lenN 58 r).toNat ≠ []
        intro e
        have := congrArg List.length e
        rw [List.length_take, List.length_nil] at this
        omega
      · show lenN 58 r = (((lenR 58 r).take (lenN 58 r).toNat).length : Int)
        rw [List.length_take]; omega
    · cases h
  · cases h

/-- the operations of a delta: are there such -/
def opsT : Nat → List UInt8 → Option (List Op)
  | 0, d => if d = [] then some [] else none
  | k + 1, d => if d = [] then some [] else if (fst1 d).1 = true then (opsT k (fst1 d).2.2).map ((fst1 d).2.1 :: ·) else none
theorem opsT_fuel : ∀ (k j : Nat) (d : List UInt8), d.length ≤ k → d.length ≤ j → opsT k d = opsT j d
  | 0, j, d, h, _ => by
    have : d = [] := List.length_eq_zero_iff.1 (by omega)
    subst this
    cases j <;> rfl
  | k + 1, 0, d, _, h => by
    have : d = [] := List.length_eq_zero_iff.1 (by omega)
    subst this; rfl
  | k + 1, j + 1, d, h1, h2 => by
    simp only [opsT]
    split
    · rfl
    · split
      · rename_i h
        have := fst_len h
        rw [opsT_fuel k j _ (by omega) (by omega)]
      · rfl
def opsF (d : List UInt8) : Option (List Op) := opsT d.length d
theorem opsF_nil : opsF [] = some [] := rfl
theorem opsF_bad {d : List UInt8} (hd : d ≠ []) (h : (fst1 d).1 = false) : opsF d = none := by
  obtain ⟨x, r, rfl⟩ := List.exists_cons_of_ne_nil hd
  show opsT (r.length + 1) (x :: r) = none
  simp [opsT, h]
theorem opsF_one {d : List UInt8} (hd : d ≠ []) (h : (fst1 d).1 = true) : opsF d = (opsF (fst1 d).2.2).map ((fst1 d).2.1 :: ·) := by
  have hl := fst_len h
  obtain ⟨x, r, rfl⟩ := List.exists_cons_of_ne_nil hd
  show opsT (r.length + 1) (x :: r) = _
  simp only [opsT, h, if_true, reduceCtorEq, if_false]
  rw [List.length_cons] at hl
  rw [opsF, opsT_fuel r.length _ _ (by omega) (Nat.le_refl _)]
theorem opsF_more : ∀ (k : Nat) (d e : List UInt8) (l : List Op), d.length ≤ k → opsF d = some l → opsF (d ++ e) = (opsF e).map (l ++ ·)
  | 0, d, e, l, hk, h => by
    have : d = [] := List.length_eq_zero_iff.1 (by omega)
    subst this
    rw [opsF_nil] at h
    cases h
    cases hx : opsF e <;> simp [hx]
  | k + 1, d, e, l, hk, h => by
    by_cases hd : d = []
    · subst hd
      rw [opsF_nil] at h
      cases h
      cases hx : opsF e <;> simp [hx]
    · cases hf : (fst1 d).1 with
      | false => rw [opsF_bad hd hf] at h; cases h
      | true =>
        have hl := fst_len hf
        rw [opsF_one hd hf] at h
        have hm := fst_more hf e
        have hm1 : (fst1 (d ++ e)).1 = true := by rw [hm]
        rw [opsF_one (by simp [hd]) hm1, hm]
        cases hr : opsF (fst1 d).2.2 with
        | none => rw [hr] at h; cases h
        | some l2 =>
          rw [hr] at h
          cases h
          rw [opsF_more k _ e l2 (by omega) hr]
          cases opsF e <;> rfl
theorem opsF_fit : ∀ (k : Nat) (d : List UInt8) (l : List Op), d.length ≤ k → opsF d = some l → ∀ o ∈ l, Fit o
  | 0, d, l, hk, h => by
    have : d = [] := List.length_eq_zero_iff.1 (by omega)
    subst this
    rw [opsF_nil] at h
    cases h
    simp
  | k + 1, d, l, hk, h => by
    by_cases hd : d = []
    · subst hd
      rw [opsF_nil] at h
      cases h
      simp
    · cases hf : (fst1 d).1 with
      | false => rw [opsF_bad hd hf] at h; cases h
      | true =>
        have hl := fst_len hf
        rw [opsF_one hd hf] at h
        cases hr : opsF (fst1 d).2.2 with
        | none => rw [hr] at h; cases h
        | some l2 =>
          rw [hr] at h
          cases h
          intro o ho
          rcases List.mem_cons.1 ho with rfl | ho
          · exact fst_fit hf
          · exact opsF_fit k _ l2 (by omega) hr o ho

/-! what a delta makes -/
/-- does an operation fit a text, and what was made before -/
def badOp (a : List UInt8) (out : List UInt8) (o : Op) : Bool := (decide (o.text = []) && (decide ((a.length : Int) < o.at_) || decide ((a.length : Int) - o.at_ < o.n))) || decide (10000 - (out.length : Int) < o.n)
def opBytes (a : List UInt8) (o : Op) : List UInt8 := if o.text = [] then (a.drop o.at_.toNat).take o.n.toNat else o.text
def makes (a : List UInt8) : List Op → List UInt8 → Option (List UInt8)
  | [], out => some out
  | o :: l, out => if badOp a out o = true then none else makes a l (out ++ opBytes a o)
theorem op_len {a out : List UInt8} {o : Op} (hf : Fit o) (h : badOp a out o = false) : ((opBytes a o).length : Int) = o.n ∧ (out ++ opBytes a o).length ≤ 10000 := by
  unfold badOp at h
  simp only [Bool.or_eq_false_iff, Bool.and_eq_false_iff, decide_eq_false_iff_not] at h
  obtain ⟨h1, h2⟩ := h
  have hn : ((opBytes a o).length : Int) = o.n := by
    unfold opBytes
    rcases hf with ⟨ht, f1, f2, f3, f4⟩ | ⟨ht, f1, f2, f3⟩
    · rw [if_pos ht, List.length_take, List.length_drop]
      rcases h1 with h1 | ⟨h1, h3⟩
      · exact absurd ht h1
      · omega
    · rw [if_neg ht]; exact f2.symm
  refine ⟨hn, ?_⟩
  rw [List.length_append]; omega
/-- bytes that stand ahead change nothing but the length -/
theorem makes_more (a : List UInt8) : ∀ (l : List Op) (p out t : List UInt8), (∀ o ∈ l, Fit o) → makes a l out = some t → (makes a l (p ++ out) = some (p ++ t) ∧ (p ++ t).length ≤ 10000 ∨ l = []) ∨ (makes a l (p ++ out) = none ∧ 10000 < (p ++ t).length)
  | [], p, out, t, _, _ => .inl (.inr rfl)
  | o :: l, p, out, t, hf, h => by
    simp only [makes] at h
    cases hb : badOp a out o with
    | true => rw [hb] at h; cases h
    | false =>
      rw [hb] at h
      simp only [Bool.false_eq_true, if_false] at h
      obtain ⟨hn, hlen⟩ := op_len (hf o (by simp)) hb
      have hge : ∀ (l : List Op) (x y : List UInt8), makes a l x = some y → x.length ≤ y.length := by
        intro l
        induction l with
        | nil => intro x y h; cases h; exact Nat.le_refl _
        | cons o l ih =>
          intro x y h
          simp only [makes] at h
          split at h
          · cases h
          · have := ih _ _ h
            rw [List.length_append] at this; omega
      have hg := hge _ _ _ h
      cases hb2 : badOp a (p ++ out) o with
      | true =>
        right
        refine ⟨by simp only [makes, hb2, if_true], ?_⟩
        unfold badOp at hb hb2
        simp only [Bool.or_eq_false_iff, Bool.and_eq_false_iff, decide_eq_false_iff_not, Bool.or_eq_true, Bool.and_eq_true, decide_eq_true_eq, List.length_append] at hb hb2
        rw [List.length_append] at hg ⊢
        rcases hb2 with ⟨h1, h2⟩ | h2
        · obtain ⟨h3, _⟩ := hb
          rcases h3 with h3 | ⟨h3, h4⟩
          · exact absurd h1 h3
          · omega
        · omega
      | false =>
        obtain ⟨hn2, hlen2⟩ := op_len (hf o (by simp)) hb2
        have ih := makes_more a l p (out ++ opBytes a o) t (fun o ho => hf o (by simp [ho])) h
        have e : makes a (o :: l) (p ++ out) = makes a l (p ++ (out ++ opBytes a o)) := by
          simp only [makes, hb2, Bool.false_eq_true, if_false, List.append_assoc]
        rw [e]
        rcases ih with (⟨i1, i2⟩ | rfl) | ⟨i1, i2⟩
        · exact .inl (.inl ⟨i1, i2⟩)
        · left; left
          simp only [makes] at h ⊢
          cases h
          refine ⟨rfl, ?_⟩
          rw [← List.append_assoc]; exact hlen2
        · exact .inr ⟨i1, i2⟩
theorem makes_app (a : List UInt8) : ∀ (l1 l2 : List Op) (out t : List UInt8), makes a l1 out = some t → makes a (l1 ++ l2) out = makes a l2 t
  | [], l2, out, t, h => by cases h; rfl
  | o :: l1, l2, out, t, h => by
    simp only [makes, List.cons_append] at h ⊢
    split at h
    · cases h
    · rename_i hb
      rw [if_neg hb]
      exact makes_app a l1 l2 _ t h
/-- a delta, applied: the error's number, and what it makes -/
def apply (a d : List UInt8) : Nat × List UInt8 :=
  match opsF d with
  | none => (1, [])
  | some l => match makes a l [] with
    | none => (2, [])
    | some t => (0, t)
theorem apply_bad {a d : List UInt8} (h : (apply a d).1 ≠ 0) : (apply a d).2 = [] := by
  unfold apply at *
  split
  · rfl
  · split
    · rfl
    · rename_i h1 _ _ h2
      rw [h1] at h
      simp only [h2] at h
      exact absurd rfl h
/-- two deltas, one behind the other -/
theorem apply_join {a d e : List UInt8} (h1 : (apply a d).1 = 0) (h2 : (apply a e).1 = 0) : ((apply a (d ++ e)).1 ≠ 0 ∧ 10000 < (apply a d).2.length + (apply a e).2.length) ∨ ((apply a (d ++ e)).1 = 0 ∧ (apply a (d ++ e)).2 = (apply a d).2 ++ (apply a e).2) := by
  cases hd : opsF d with
  | none => unfold apply at h1; rw [hd] at h1; cases h1
  | some l1 =>
    cases he : opsF e with
    | none => unfold apply at h2; rw [he] at h2; cases h2
    | some l2 =>
      cases hm1 : makes a l1 [] with
      | none => unfold apply at h1; rw [hd] at h1; simp only [hm1] at h1; cases h1
      | some s =>
        cases hm2 : makes a l2 [] with
        | none => unfold apply at h2; rw [he] at h2; simp only [hm2] at h2; cases h2
        | some t =>
          have e1 : apply a d = (0, s) := by unfold apply; rw [hd]; simp only [hm1]
          have e2 : apply a e = (0, t) := by unfold apply; rw [he]; simp only [hm2]
          have hde : opsF (d ++ e) = some (l1 ++ l2) := by rw [opsF_more _ d e l1 (Nat.le_refl _) hd, he]; rfl
          have hmm := makes_app a l1 l2 [] s hm1
          rw [e1, e2]
          rcases makes_more a l2 s [] t (opsF_fit _ e l2 (Nat.le_refl _) he) hm2 with (⟨h3, _⟩ | rfl) | ⟨h3, h4⟩
          · right
            rw [List.append_nil] at h3
            have : apply a (d ++ e) = (0, s ++ t) := by unfold apply; rw [hde]; simp only [hmm, h3]
            rw [this]; exact ⟨rfl, rfl⟩
          · right
            cases hm2
            have : apply a (d ++ e) = (0, s) := by unfold apply; rw [hde]; simp only [hmm]; rfl
            rw [this]; exact ⟨rfl, (List.append_nil s).symm⟩
          · left
            rw [List.append_nil] at h3
            have : apply a (d ++ e) = (2, []) := by unfold apply; rw [hde]; simp only [hmm, h3]
            rw [this, ← List.length_append]
            exact ⟨by decide, h4⟩
end Pk
end Go.Proofs.YtmlndamkcipebaaGreatDoor
namespace Go.Proofs.YtmlndamkcipebaaGreatDoor
open Go Go.RowKit Lmd
namespace Pk
open Rul Day Tp Cand

def opV (o : Op) : Value := .agg #[.int .i64 o.at_, .int .i64 o.n, .string (mk o.text)]
theorem cells3 {w : World} {b : Nat} {a0 a1 a2 : Value} {t : TypeId} (h : w.heap[b]? = some (.cells #[a0, a1, a2] t (0, 0))) :
    w.cell? ⟨b, 0, none⟩ = some a0 ∧ w.cell? ⟨b, 1, none⟩ = some a1 ∧ w.cell? ⟨b, 2, none⟩ = some a2 ∧ w.frozen? ⟨b, 0, none⟩ = false ∧ w.frozen? ⟨b, 1, none⟩ = false ∧ w.frozen? ⟨b, 2, none⟩ = false := by
  simp [World.cell?, World.frozen?, h]
theorem lenR_le (c : UInt8) (l : List UInt8) : (lenR c l).length ≤ l.length := by
  unfold lenR Lib.cut
  split
  · rw [List.length_drop]; omega
  · simp
theorem put3_row {W : World} {b : Nat} {c0 c1 c2 : Value} {t : TypeId} (h : W.heap[b]? = some (.cells #[c0, c1, c2] t (0, 0))) {a0 a1 a2 : Value} : (((W.setCell ⟨b, 0, none⟩ a0).setCell ⟨b, 1, none⟩ a1).setCell ⟨b, 2, none⟩ a2).heap[b]? = some (.cells #[a0, a1, a2] t (0, 0)) :=
  row_set (row_set (row_set h 0 a0) 1 a1) 2 a2
theorem put3_below {B b : Nat} {w W : World} (h : Below B w W) (hb : B ≤ b) {a0 a1 a2 : Value} : Below B w (((W.setCell ⟨b, 0, none⟩ a0).setCell ⟨b, 1, none⟩ a1).setCell ⟨b, 2, none⟩ a2) :=
  ((h.setCell (p := ⟨b, 0, none⟩) hb a0).setCell (p := ⟨b, 1, none⟩) hb a1).setCell (p := ⟨b, 2, none⟩) hb a2
theorem drew_row' {W : World} {b : Nat} {o : Obj} (h : W.heap[b]? = some o) : W.drew.heap[b]? = some o := h
theorem below_drew' {B : Nat} {a w : World} (h : Below B a w) : Below B a w.drew := below_draw h 1
theorem res_first {W : World} {b : Nat} {a0 a1 a2 r q : Value} {tmps : Array Value} (h : W.heap[b]? = some (.cells #[a0, a1, a2] 106 (0, 0))) (h2 : tmps.getD 2 undef = .pointer (some ⟨b, 0, none⟩)) (h3 : tmps.getD 3 undef = r) (h4 : tmps.getD 4 undef = q) :
    (results Tryz.f94 tmps).run Tryz.prog W = .ok (.tuple #[.agg #[a0, a1, a2], r, q]) W := by
  obtain ⟨q0, q1, q2, _⟩ := cells3 h
  have h2' : tmps[2]?.getD undef = .pointer (some ⟨b, 0, none⟩) := by simpa using h2
  have h3' : tmps[3]?.getD undef = r := by simpa using h3
  have h4' : tmps[4]?.getD undef = q := by simpa using h4
  simp [results, Tryz.f94, go_sem, h2', h3', h4', q0, q1, q2]
theorem fst_c (r : List UInt8) : fst1 (99 :: r) = if copyOk r = true then (true, copyOp r, copyR r) else (false, noOp, []) := rfl
theorem fst_i (r : List UInt8) : fst1 (105 :: r) = if insOk r = true then (true, insOp r, insR r) else (false, noOp, []) := rfl
theorem fst_x {x : UInt8} (r : List UInt8) (h1 : ¬ x = 99) (h2 : ¬ x = 105) : fst1 (x :: r) = (false, noOp, []) := by
  unfold fst1
  split
  · rename_i h; cases h; exact absurd rfl h1
  · rename_i h; cases h; exact absurd rfl h2
  · rfl
/-- what lies behind pack.first -/
def FstPost (d : List UInt8) (w : World) (e : Ending) (w' : World) : Prop :=
  ∃ x0 x1 x2 r, e = .returned (.tuple #[.agg #[.int .i64 x0, .int .i64 x1, .string x2], .string r, .bool (fst1 d).1]) ∧ ((fst1 d).1 = true → x0 = (fst1 d).2.1.at_ ∧ x1 = (fst1 d).2.1.n ∧ x2 = mk (fst1 d).2.1.text ∧ r = mk (fst1 d).2.2) ∧ Below w.heap.size w w'
theorem fst_end {d : List UInt8} {w W : World} {b : Nat} {a0 a1 : Int} {a2 : ByteArray} {tmps : Array Value} {r' : ByteArray} {q : Bool} (row : W.heap[b]? = some (.cells #[.int .i64 a0, .int .i64 a1, .string a2] 106 (0, 0))) (h2 : tmps.getD 2 undef = .pointer (some ⟨b, 0, none⟩)) (h3 : tmps.getD 3 undef = .string r') (h4 : tmps.getD 4 undef = .bool q)
    (hq : (fst1 d).1 = q) (hok : q = true → Value.agg #[.int .i64 a0, .int .i64 a1, .string a2] = opV (fst1 d).2.1 ∧ r' = mk (fst1 d).2.2) (hlow : Below w.heap.size w W) : bodyPost Tryz.prog Tryz.f94 (FstPost d w) .ret { tmps := tmps, defers := [] } W :=
  bodyPost_ret (res_first row h2 h3 h4) rfl ⟨a0, a1, a2, r', by rw [hq], by
    rw [hq]
    intro h
    obtain ⟨e1, e2⟩ := hok h
    unfold opV at e1
    simp at e1
    exact ⟨e1.1, e1.2.1, e1.2.2, e2⟩, hlow⟩
set_option maxRecDepth 100000 in
set_option maxHeartbeats 1000000 in
theorem first_any (x : UInt8) (r : List UInt8) (m : Int) (w : World) (hs : r.length ≤ 1100000) (hE : ELib w) (htab : Lib.TabIs Tryz.prog w "internal/strconv.uint64pow10" .u64 Lib.pow10Tab) (hm : w.cell? ⟨13, 0, none⟩ = some (.int .i64 m)) :
    Calls Tryz.prog 94 #[.string (mk (x :: r))] w (FstPost (x :: r) w) := by
  obtain ⟨S, hS⟩ : ∃ S, mk (x :: r) = S := ⟨_, rfl⟩
  have hsz : S.size = r.length + 1 := by rw [← hS]; simp [ByteArray.size]
  have h0 : 0 < S.size := by omega
  have hSx : (S[0] : UInt8) = x := at_of S 0 x h0 (by rw [← hS]; rfl)
  have hext : S.extract 1 S.size = mk r := mk_of (by rw [ext_mid, ← hS]; simp [ByteArray.size])
  rw [hS]
  obtain ⟨w1, hw1⟩ : ∃ w1, w.alloc (.cells #[.int .i64 0, .int .i64 0, .string ⟨#[]⟩] 106) = w1 := ⟨_, rfl⟩
  have hb1 : Below w.heap.size w w1 := by rw [← hw1]; exact (Below.refl _ w).alloc (Nat.le_refl _) _
  have hz1 : w1.heap.size = w.heap.size + 1 := by rw [← hw1]; simp
  have hx1 := heap_new w (.cells #[.int .i64 0, .int .i64 0, .string ⟨#[]⟩] 106)
  rw [hw1] at hx1
  have hEn := fun (c : UInt8) (l : List UInt8) (hl : l.length ≤ 1100000) W (h : Below w1.heap.size w1 W) => packNumber_any c (mk l) m W (by simp [ByteArray.size]; omega) ((hE.below hb1).below h) (Frame.tab_below (g := 12) (by kernel_rfl) h (Frame.tab_below (g := 12) (by kernel_rfl) hb1 htab)) (cell_later h (cell_later hb1 hm))
  have HN := Lib.hid hEn
  have HB1 := Lib.hid hb1
  have HX1 := Lib.hid hx1
  have HW1 := Lib.hid hw1
  have HZ1 := Lib.hid hz1
  have HS := Lib.hid hS
  have HSZ := Lib.hid hsz
  have h1s : 1 ≤ S.size := by omega
  clear hS hsz hEn hb1 hx1 hw1 hE htab hm
  by_cases hc : x = 99
  · subst hc
    have hn1 := HN.out 44 r hs w1 (Below.refl _ _)
    have HN1 := Lib.hid hn1
    have hlr : (lenR 44 r).length ≤ 1100000 := Nat.le_trans (lenR_le 44 r) hs
    clear hn1
    go_enter Tryz.func94, Tryz.ntmps94
    go_wp2_with fail
    rw [HW1.out]
    refine HN1.out.mono ?_
    rintro e1 w2 ⟨n1, rfl, hn1, hb2⟩
    have HB2 := Lib.hid hb2
    have HN1' := Lib.hid hn1
    have hn2 := HN.out 59 (lenR 44 r) hlr w2 hb2
    have HN2 := Lib.hid hn2
    clear hn1 hn2 hb2 HN1
    obtain ⟨a1, ha1⟩ : ∃ a1, lenOk 44 r = a1 := ⟨_, rfl⟩
    obtain ⟨R1, hR1⟩ : ∃ R1, mk (lenR 44 r) = R1 := ⟨_, rfl⟩
    rw [ha1] at HN1' ⊢
    rw [hR1] at HN2 ⊢
    have HA1 := Lib.hid ha1
    clear ha1 hR1
    go_wp2_with fail
    refine HN2.out.mono ?_
    rintro e2 w3 ⟨n2, rfl, hn2, hb3⟩
    have HB3 := Lib.hid (HB2.out.trans (hb3.mono HB2.out.size))
    have HN2' := Lib.hid hn2
    obtain ⟨b1, hb1⟩ : ∃ b1, lenOk 59 (lenR 44 r) = b1 := ⟨_, rfl⟩
    rw [hb1] at HN2' ⊢
    have HB1' := Lib.hid hb1
    have hx3 := row_below HX1.out HB3.out
    have HX3 := Lib.hid hx3
    obtain ⟨k0, k1, k2, f0, f1, f2⟩ := cells3 hx3
    clear hn2 hb3 hb1 HN2 HB2 hx3
    have hlow := HB1.out.trans (HB3.out.mono HB1.out.size)
    have HLOW := Lib.hid hlow
    clear hlow
    cases a1 with
    | false =>
      have hf : copyOk r = false := by unfold copyOk; rw [HA1.out]; rfl
      have HF := Lib.hid hf
      clear hf
      go_wp2
      exact fst_end (put3_row HX3.out) rfl rfl rfl (by rw [fst_c, HF.out]; rfl) (fun h => by cases h) (put3_below HLOW.out (Nat.le_refl _))
    | true =>
      cases b1 with
      | false =>
        have hf : copyOk r = false := by unfold copyOk; rw [HB1'.out, Bool.and_false]; rfl
        have HF := Lib.hid hf
        clear hf
        go_wp2
        exact fst_end (put3_row HX3.out) rfl rfl rfl (by rw [fst_c, HF.out]; rfl) (fun h => by cases h) (put3_below HLOW.out (Nat.le_refl _))
      | true =>
        obtain rfl := HN1'.out rfl
        obtain rfl := HN2'.out rfl
        have hf : copyOk r = decide (0 < lenN 59 (lenR 44 r)) := by unfold copyOk; rw [HA1.out, HB1'.out]; rfl
        obtain ⟨N1, hN1⟩ : ∃ N1, lenN 44 r = N1 := ⟨_, rfl⟩
        obtain ⟨N2, hN2⟩ : ∃ N2, lenN 59 (lenR 44 r) = N2 := ⟨_, rfl⟩
        have hop : copyOp r = ⟨N1, N2, []⟩ := by unfold copyOp; rw [hN1, hN2]
        rw [hN2] at hf ⊢
        rw [hN1]
        have HF := Lib.hid hf
        have HOP := Lib.hid hop
        clear hf hop hN1 hN2
        go_wp2
        refine fst_end (put3_row HX3.out) rfl rfl rfl ?_ ?_ (put3_below HLOW.out (Nat.le_refl _))
        · rw [fst_c, HF.out]
          by_cases h : 0 < N2
          · simp [h]
          · simp [h]
        · intro h
          have h2 : 0 < N2 := by simpa using h
          rw [fst_c, HF.out]
          simp only [h2, decide_true, if_true]
          exact ⟨by rw [HOP.out]; rfl, rfl⟩
  · by_cases hi : x = 105
    · subst hi
      have hn1 := HN.out 58 r hs w1 (Below.refl _ _)
      have HN1 := Lib.hid hn1
      have hlr : (lenR 58 r).length ≤ 1100000 := Nat.le_trans (lenR_le 58 r) hs
      clear hn1 hc
      go_enter Tryz.func94, Tryz.ntmps94
      go_wp2_with fail
      rw [HW1.out]
      refine HN1.out.mono ?_
      rintro e1 w2 ⟨n1, rfl, hn1, hb2⟩
      have HB2 := Lib.hid hb2
      have HN1' := Lib.hid hn1
      obtain ⟨a1, ha1⟩ : ∃ a1, lenOk 58 r = a1 := ⟨_, rfl⟩
      rw [ha1] at HN1' ⊢
      have HA1 := Lib.hid ha1
      have hx2 := row_below HX1.out hb2
      have HX2 := Lib.hid hx2
      obtain ⟨k0, k1, k2, f0, f1, f2⟩ := cells3 hx2
      have hlow := HB1.out.trans (hb2.mono HB1.out.size)
      have HLOW0 := Lib.hid hlow
      obtain ⟨R, hR⟩ : ∃ R, lenR 58 r = R := ⟨_, rfl⟩
      obtain ⟨T, hT⟩ : ∃ T, mk R = T := ⟨_, rfl⟩
      rw [hR] at hlr ⊢
      rw [hT]
      have hTR : T.data.toList = R := by rw [← hT]
      have hTz : T.size = R.length := by rw [← hT]; simp [ByteArray.size]
      have HTR := Lib.hid hTR
      have HR := Lib.hid hR
      clear hn1 ha1 hb2 hx2 hlow HN1 hR hT hTR
      cases a1 with
      | false =>
        have hf : insOk r = false := by unfold insOk; rw [HA1.out]; rfl
        have HF := Lib.hid hf
        clear hf hTz
        go_wp2
        exact fst_end (put3_row HX2.out) rfl rfl rfl (by rw [fst_i, HF.out]; rfl) (fun h => by cases h) (put3_below HLOW0.out (Nat.le_refl _))
      | true =>
        obtain rfl := HN1'.out rfl
        obtain ⟨n, hn⟩ : ∃ n, lenN 58 r = n := ⟨_, rfl⟩
        rw [hn]
        have hnb := (len_split HA1.out).2
        rw [hn] at hnb
        obtain ⟨j, rfl⟩ : ∃ j : Nat, n = (j : Int) := ⟨n.toNat, by omega⟩
        have HNN := Lib.hid hn
        have hok : insOk r = (decide ((1 : Int) ≤ j) && decide ((j : Int) < (R.length : Int)) && decide (R[j]? = some 59)) := by
          unfold insOk; rw [HA1.out, hn, HR.out]; simp
        have HOK := Lib.hid hok
        clear hn hok HN1'
        by_cases h1 : 1 ≤ j
        · by_cases h2 : j < R.length
          · obtain ⟨y, hy⟩ : ∃ y, R[j]? = some y := ⟨_, List.getElem?_eq_getElem h2⟩
            have hjT : j < T.size := by omega
            have hTy : (T[j] : UInt8) = y := at_of T j y hjT (by rw [HTR.out]; exact hy)
            have HY := Lib.hid hy
            have hj1 : (1 : Int) ≤ (j : Int) := by omega
            have hj2 : ¬ ((j : Int) < 1) := by omega
            have hj3 : ¬ ((T.size : Int) ≤ (j : Int)) := by omega
            have hj4 : (j : Int) < (T.size : Int) := by omega
            have hj5 : j + 1 ≤ T.size := by omega
            have hj7 : j ≤ T.size := by omega
            have hj6 : (j : Int) + 1 ≤ (T.size : Int) := by omega
            have hTs : T.size ≤ 1100000 := by omega
            have HTZ := Lib.hid hTz
            clear hy hTz h2
            by_cases h3 : y = 59
            · subst h3
              have hf : insOk r = true := by rw [HOK.out, HY.out]; simp; have := HTZ.out; omega
              have HF := Lib.hid hf
              clear hf HOK
              have hext0 : T.extract 0 j = mk (R.take j) := mk_of (by rw [ext_take, HTR.out])
              have hext1 : T.extract (j + 1) T.size = mk (R.drop (j + 1)) := mk_of (by
                rw [ext_mid, HTR.out]
                exact List.take_of_length_le (by rw [List.length_drop]; have := HTZ.out; omega))
              have hop : insOp r = ⟨0, j, R.take j⟩ ∧ insR r = R.drop (j + 1) := by
                unfold insOp insR
                rw [HNN.out, HR.out]
                simp
              have HOP := Lib.hid hop
              clear hop
              go_upto_region 10 with fail
              go_cut [3, 4] from 40 (fun s3 s4 wx => s3 = .string (mk (R.drop (j + 1))) ∧ s4 = .bool true ∧ wx.heap[w.heap.size]? = some (.cells #[.int .i64 0, .int .i64 j, .string (mk (R.take j))] 106 (0, 0)) ∧ Below w.heap.size w wx)
              case first =>
                have hs1 : IntKind.i64.wrap ((j : Int) + 1) = (j : Int) + 1 := IntWalk.i64_in _ (by omega)
                have hs2 : (0 : Int) ≤ (j : Int) + 1 := by omega
                have hs3 : ((j : Int) + 1).toNat = j + 1 := by omega
                go_region_law (fail)
                all_goals simp only [List.getElem_toArray, List.getElem_cons_succ, List.getElem_cons_zero, Act.put, List.setIfInBounds_toArray, List.set_cons_succ, List.set_cons_zero]
                all_goals go_wp2_with fail
                all_goals go_meet
                all_goals exact ⟨rfl, rfl, drew_row' (put3_row HX2.out), below_drew' (put3_below HLOW0.out (Nat.le_refl _))⟩
              case rest =>
                obtain ⟨rfl, rfl, hrow, hbx⟩ := hcut
                go_wp2
                exact fst_end hrow rfl rfl rfl (by rw [fst_i, HF.out]; rfl) (fun _ => by rw [fst_i, HF.out]; exact ⟨by rw [if_pos rfl, HOP.out.1]; rfl, by rw [if_pos rfl, HOP.out.2]⟩) hbx
            · have hf : insOk r = false := by rw [HOK.out, HY.out]; simp [h3]
              have HF := Lib.hid hf
              have hy3 : ((y.toNat : Int) != 59) = true := by
                rw [bne_iff_ne]
                intro e
                exact h3 (UInt8.toNat_inj.1 (by show y.toNat = 59; omega))
              clear hf HOK h3
              go_wp2
              exact fst_end (put3_row HX2.out) rfl rfl rfl (by rw [fst_i, HF.out]; rfl) (fun h => by cases h) (put3_below HLOW0.out (Nat.le_refl _))
          · have hf : insOk r = false := by rw [HOK.out]; simp; omega
            have HF := Lib.hid hf
            have hj3 : (T.size : Int) ≤ (j : Int) := by omega
            have hj2 : ¬ ((j : Int) < 1) := by omega
            clear hf hTz HOK
            go_wp2
            exact fst_end (put3_row HX2.out) rfl rfl rfl (by rw [fst_i, HF.out]; rfl) (fun h => by cases h) (put3_below HLOW0.out (Nat.le_refl _))
        · have hf : insOk r = false := by rw [HOK.out]; simp; omega
          have HF := Lib.hid hf
          have hj2 : (j : Int) < 1 := by omega
          clear hf hTz HOK
          go_wp2
          exact fst_end (put3_row HX2.out) rfl rfl rfl (by rw [fst_i, HF.out]; rfl) (fun h => by cases h) (put3_below HLOW0.out (Nat.le_refl _))
    · have hf : fst1 (x :: r) = (false, noOp, []) := fst_x r hc hi
      have HF := Lib.hid hf
      have hc1 : ((x.toNat : Int) == 99) = false := by
        rw [beq_eq_false_iff_ne]
        intro e
        exact hc (UInt8.toNat_inj.1 (by show x.toNat = 99; omega))
      have hi1 : ((x.toNat : Int) == 105) = false := by
        rw [beq_eq_false_iff_ne]
        intro e
        exact hi (UInt8.toNat_inj.1 (by show x.toNat = 105; omega))
      obtain ⟨k0, k1, k2, f0, f1, f2⟩ := cells3 HX1.out
      clear hf hc hi
      go_enter Tryz.func94, Tryz.ntmps94
      go_wp2
      rw [HW1.out]
      exact fst_end HX1.out rfl rfl rfl (by rw [HF.out]) (fun h => by cases h) HB1.out
end Pk
end Go.Proofs.YtmlndamkcipebaaGreatDoor
namespace Go.Proofs.YtmlndamkcipebaaGreatDoor
open Go Go.RowKit Lmd
namespace Pk
open Rul Day Tp Cand

def cellsOp (l : List Op) : List Value := l.flatMap fun o => [.int .i64 o.at_, .int .i64 o.n, .string (mk o.text)]
theorem cellsOp_snoc (l : List Op) (o : Op) : cellsOp (l ++ [o]) = cellsOp l ++ [.int .i64 o.at_, .int .i64 o.n, .string (mk o.text)] := by simp [cellsOp]
theorem cellsOp_len (l : List Op) : (cellsOp l).length = l.length * 3 := by
  induction l with
  | nil => rfl
  | cons o l ih => simp only [cellsOp, List.flatMap_cons, List.length_append, List.length_cons, List.length_nil] at ih ⊢; omega
theorem toListMk (l : List UInt8) : (mk l).toList = l := by rw [ByteArray.toList_eq]
/-- what lies behind pack.ops -/
def OpsPost (d : List UInt8) (w : World) (e : Ending) (w' : World) : Prop :=
  ∃ v, e = .returned (.tuple #[v, .bool (opsF d).isSome]) ∧ (∀ l, opsF d = some l → w'.ownsRow w.heap.size 106 3 v l.length (cellsOp l)) ∧ Below w.heap.size w w'
theorem op_info : (Tryz.prog.info? 106).map (fun i => (i.zero, i.size, i.bytes)) = some (some (.agg #[.int .i64 0, .int .i64 0, .string ⟨#[]⟩]), 3, 32) := by kernel_rfl
/-- the state of the loop of pack.ops -/
structure OpAt (d : List UInt8) (w : World) (D : List Op) (r : List UInt8) (v : Value) (W : World) : Prop where
  rel : opsF d = (opsF r).map (D ++ ·)
  own : W.ownsRow w.heap.size 106 3 v D.length (cellsOp D)
  below : Below w.heap.size w W
  len : D.length + r.length ≤ d.length
theorem ownsRow_slice3 {w : World} {base : Nat} {e : TypeId} {v : Value} {n : Nat} {xs : List Value} (h : w.ownsRow base e 3 v n xs) : ∃ a c, v = .slice a n c := by
  rcases h.2 with ⟨rfl, rfl⟩ | ⟨g, cap, cur, rfl, _⟩
  · exact ⟨_, _, rfl⟩
  · exact ⟨_, _, rfl⟩
theorem own_later3 {w w' : World} {base : Nat} {e : TypeId} {v : Value} {n : Nat} {xs : List Value} (h : w.ownsRow base e 3 v n xs) (hb : Below w.heap.size w w') : w'.ownsRow base e 3 v n xs := by
  refine h.kept (row := none) ⟨hb.os, hb.tape, hb.output, hb.size, fun k hk _ => hb.block k hk⟩ ?_
  cases hv : v.ownBlock with
  | none => exact .inl rfl
  | some k => exact .inr (by simp)
theorem own_ge3 {w : World} {base : Nat} {e : TypeId} {v : Value} {n : Nat} {xs : List Value} (h : w.ownsRow base e 3 v n xs) {j : Nat} (ej : v.ownBlock = some j) : base ≤ j := by
  rcases h.2 with ⟨rfl, _⟩ | ⟨g, cap, cur, rfl, h2, _⟩
  · simp [Value.ownBlock] at ej
  · obtain rfl : g = j := by simpa [Value.ownBlock] using ej
    exact h2
set_option maxRecDepth 100000 in
set_option maxHeartbeats 1000000 in
theorem ops_any (d : List UInt8) (m : Int) (w : World) (hs : d.length ≤ 1100000) (hE : ELib w) (htab : Lib.TabIs Tryz.prog w "internal/strconv.uint64pow10" .u64 Lib.pow10Tab) (hm : w.cell? ⟨13, 0, none⟩ = some (.int .i64 m)) :
    Calls Tryz.prog 71 #[.string (mk d)] w (OpsPost d w) := by
  obtain ⟨i0, hi0, hz0, hz1, hz2⟩ := info_parts op_info
  have HE := Lib.hid hE
  have HT := Lib.hid htab
  have HM := Lib.hid hm
  clear hE htab hm
  go_enter Tryz.func71, Tryz.ntmps71
  go_wp2_with fail
  go_loopw [0, 4] (fun dv v4 wr => ∃ D r, dv = .string (mk r) ∧ (∃ a c, v4 = .slice a D.length c) ∧ OpAt d w D r v4 wr) (fun dv _ _ => (match dv with | .string s => s.size | _ => 0))
  case atStart => exact ⟨[], d, rfl, ⟨none, 0, rfl⟩, by cases opsF d <;> simp, ⟨by simp [cellsOp], .inl ⟨rfl, rfl⟩⟩, Below.refl _ _, by simp⟩
  case round =>
    obtain ⟨D, r, rfl, ⟨a4, c4, rfl⟩, hat⟩ := hrel
    cases r with
    | nil =>
      have hok : opsF d = some D := by rw [hat.rel, opsF_nil]; simp
      have HOK := Lib.hid hok
      have HAT := Lib.hid hat
      have he : (mk []).toList = [] := toListMk _
      clear hok hat
      go_wp2
      go_ret2
      refine ⟨_, by rw [HOK.out]; rfl, ?_, HAT.out.below⟩
      intro l hl
      rw [HOK.out] at hl
      cases hl
      exact HAT.out.own
    | cons x r =>
      have hlen := hat.len
      rw [List.length_cons] at hlen
      have hf := first_any x r m wr (by omega) (HE.out.below hat.below) (Frame.tab_below (g := 12) (by kernel_rfl) hat.below HT.out) (cell_later hat.below HM.out)
      have he : (mk (x :: r)).toList = x :: r := toListMk _
      have hsz : (mk (x :: r)).size = r.length + 1 := by simp [ByteArray.size]
      obtain ⟨S, hS⟩ : ∃ S, mk (x :: r) = S := ⟨_, rfl⟩
      rw [hS] at hf he hsz ⊢
      have HF := Lib.hid hf
      have HAT := Lib.hid hat
      have HSZ := Lib.hid hsz
      have hsb := hat.below.size
      clear hf hat hS hsz
      go_wp2_with fail
      refine HF.out.mono ?_
      rintro e1 w1 ⟨x0, x1, x2, r1, rfl, hok, hb1⟩
      obtain ⟨q, hq⟩ : ∃ q, (fst1 (x :: r)).1 = q := ⟨_, rfl⟩
      rw [hq] at hok ⊢
      have HQ := Lib.hid hq
      have HOK := Lib.hid hok
      have HB1 := Lib.hid hb1
      have hx2 := heap_new w1 (.cells #[.int .i64 x0, .int .i64 x1, .string x2] 106)
      have hb2 : Below w1.heap.size w1 (w1.alloc (.cells #[.int .i64 x0, .int .i64 x1, .string x2] 106)) := (Below.refl _ w1).alloc (Nat.le_refl _) _
      obtain ⟨k0, k1, k2, _⟩ := cells3 hx2
      have HX2 := Lib.hid hx2
      have HB2 := Lib.hid hb2
      clear hq hok hb1 hx2 hb2 HF
      cases q with
      | false =>
        have hno : opsF d = none := by rw [HAT.out.rel, opsF_bad (by simp) HQ.out]; rfl
        have HNO := Lib.hid hno
        clear hno
        go_wp2
        go_ret2
        refine ⟨_, by rw [HNO.out]; rfl, ?_, HAT.out.below.trans ((HB1.out.trans (HB2.out.mono HB1.out.size)).mono hsb)⟩
        intro l hl
        rw [HNO.out] at hl
        cases hl
      | true =>
        obtain ⟨rfl, rfl, rfl, rfl⟩ := HOK.out rfl
        obtain ⟨o, ho⟩ : ∃ o, (fst1 (x :: r)).2.1 = o := ⟨_, rfl⟩
        obtain ⟨r1, hr1⟩ : ∃ r1, (fst1 (x :: r)).2.2 = r1 := ⟨_, rfl⟩
        rw [ho] at k0 k1 k2 HX2 HB2 ⊢
        rw [hr1]
        have HO := Lib.hid ho
        have HR1 := Lib.hid hr1
        have HOWN := Lib.hid (own_later3 (own_later3 HAT.out.own HB1.out) HB2.out)
        have hs1 := HB1.out.size
        clear ho hr1 HOK
        have hnew : ((w1.alloc (.cells #[.int .i64 o.at_, .int .i64 o.n, .string (mk o.text)] 106)).alloc (.cells #[.int .i64 o.at_, .int .i64 o.n, .string (mk o.text)] 106)).heap[w1.heap.size + 1]? = some (.cells #[.int .i64 o.at_, .int .i64 o.n, .string (mk o.text)] 106) := by
          have h := heap_new (w1.alloc (.cells #[.int .i64 o.at_, .int .i64 o.n, .string (mk o.text)] 106)) (.cells #[.int .i64 o.at_, .int .i64 o.n, .string (mk o.text)] 106)
          rwa [World.size_alloc] at h
        have HNEW := Lib.hid hnew
        have hbn : Below w.heap.size w1 ((w1.alloc (.cells #[.int .i64 o.at_, .int .i64 o.n, .string (mk o.text)] 106)).alloc (.cells #[.int .i64 o.at_, .int .i64 o.n, .string (mk o.text)] 106)) := ((Below.refl _ w1).alloc (by omega) _).alloc (by simp; omega) _
        have HBN := Lib.hid hbn
        have HR := Lib.hid (show r1.length < (x :: r).length by rw [← HR1.out]; exact fst_len HQ.out)
        have hdl : D.length < 1100001 := by omega
        clear hnew hbn
        go_wp2_with (first
          | (at_builtin
             refine wpList_append_own _ rfl (.tmp 18) (.tmp 20) _ rfl w.heap.size 106 i0 _ 3 32 Tryz.underlying102 hi0 hz0 hz1 hz2 rfl (by omega) (.slice a4 D.length c4) D.length (cellsOp D) rfl
               (HOWN.out.alloc _) ⟨w1.heap.size + 1, 0, none⟩ 1 1 [.int .i64 o.at_, .int .i64 o.n, .string (mk o.text)] rfl rfl
               (fun j u hu => by
                 have hc := cells3 HNEW.out
                 rw [Addr.add_lit]
                 match j, hu with
                 | 0, hu => cases hu; exact hc.1
                 | 1, hu => cases hu; exact hc.2.1
                 | 2, hu => cases hu; exact hc.2.2.1
                 | j + 3, hu => cases hu) (fun u hu => by simp at hu; rcases hu with rfl | rfl | rfl <;> rfl) (by simp only [maxLen]; omega) (by omega) (by simp; omega) ?_
             intro v1 wb hown' hg hnil
             have hbb : Below w.heap.size w1 wb := HBN.out.grown hg (by simp; omega) (fun j ej => own_ge3 HOWN.out ej)
             obtain ⟨a1, c2, e1⟩ : ∃ a1 c2, v1 = .slice a1 (D.length + 1) c2 := ownsRow_slice3 hown'
             subst e1
             have HOB := Lib.hid hown'
             have HBB := Lib.hid hbb
             clear hown' hg hnil hbb))
        go_roundw
        case rel =>
          refine ⟨D ++ [o], r1, rfl, ⟨a1, c2, by simp⟩, ?_, ?_, (HAT.out.below.trans (HB1.out.mono hsb)).trans HBB.out, ?_⟩
          · rw [HAT.out.rel, opsF_one (by simp) HQ.out, HO.out, HR1.out]
            cases opsF r1 <;> simp
          · rw [cellsOp_snoc, List.length_append]; exact HOB.out
          · have h1 := HAT.out.len
            have h2 := HR.out
            rw [List.length_append, List.length_cons, List.length_nil]
            rw [List.length_cons] at h1 h2
            omega
        case measure =>
          have h1 := HR.out
          have h2 := HSZ.out
          rw [List.length_cons] at h1
          show (mk r1).size < S.size
          have h3 : (mk r1).size = r1.length := by simp [ByteArray.size]
          omega
end Pk
end Go.Proofs.YtmlndamkcipebaaGreatDoor
namespace Go.Proofs.YtmlndamkcipebaaGreatDoor
open Go Go.RowKit Go.Shelf Lmd
namespace Bd

/-- a builder that holds bytes -/
abbrev Is (B b : Nat) (l : List UInt8) (w : World) : Prop := Lib.IsBuilder 77 5 B b (Lib.byteCells l) w
theorem write_any (B b : Nat) (l : List UInt8) (s : ByteArray) (w : World) (h : Is B b l w) (hl : l.length + s.size ≤ 1000000000) (hB : B ≤ w.heap.size) :
    Calls Tryz.prog 42 #[.pointer (some ⟨b, 0, none⟩), .string s] w fun e w' => e = .returned (.tuple #[.int .i64 s.size, .nilIface]) ∧ Is B b (l ++ s.data.toList) w' ∧ Below B w w' := by
  refine (Any.Builder_WriteString { Tryz.lays156 with } Tryz.Builder_Extra_156 B b (Lib.byteCells l) s w h (by rw [Lib.byteCells_length]; omega) hB).mono ?_
  rintro e w' ⟨rfl, h1, h2⟩
  refine ⟨rfl, ?_, h2⟩
  have e : Lib.byteCells (l ++ s.data.toList) = Lib.byteCells l ++ Lib.strCells s := by rw [Lib.byteCells_append]; rfl
  unfold Is
  rw [e]
  exact .inr h1
theorem len_any (B b : Nat) (l : List UInt8) (w : World) (h : Is B b l w) :
    Calls Tryz.prog 72 #[.pointer (some ⟨b, 0, none⟩)] w fun e w' => e = .returned (.int .i64 (l.length : Int)) ∧ w' = w := by
  have h1 := Tryz.Builder_Len B b (Lib.byteCells l) w h
  rw [Lib.byteCells_length] at h1
  exact h1
theorem string_any (B b : Nat) (l : List UInt8) (w : World) (h : Is B b l w) (hB : B ≤ w.heap.size) :
    Calls Tryz.prog 44 #[.pointer (some ⟨b, 0, none⟩)] w fun e w' => e = .returned (.string ⟨l.toArray⟩) ∧ Below B w w' :=
  Tryz.Builder_String_any B b l w h hB
theorem new_is (w : World) : Is w.heap.size w.heap.size [] (w.alloc (.cells #[.pointer none, .slice none 0 0] 77)) := by
  refine .inl ⟨Nat.le_refl _, .slice none 0 0, Rul.heap_new w _, ⟨rfl, .inl ⟨rfl, rfl⟩⟩, by simp [Value.ownBlock]⟩
theorem Is.below {B b : Nat} {l : List UInt8} {w w' : World} (h : Is B b l w) (hb : Below w.heap.size w w') : Is B b l w' := by
  have hk : ∀ p, Lib.BuilderAt 77 5 B b p (Lib.byteCells l) w → Lib.BuilderAt 77 5 B b p (Lib.byteCells l) w' := by
    rintro p ⟨h1, v, h2, h3, h4⟩
    refine ⟨h1, v, by rw [hb.block b (Array.getElem?_eq_some_iff.1 h2).1]; exact h2, ?_, h4⟩
    refine h3.kept (row := none) ⟨hb.os, hb.tape, hb.output, hb.size, fun k hk _ => hb.block k hk⟩ ?_
    cases hv : v.ownBlock with
    | none => exact .inl rfl
    | some k => exact .inr (by simp)
  rcases h with h | h
  · exact .inl (hk _ h)
  · exact .inr (hk _ h)
theorem Is.lt {B b : Nat} {l : List UInt8} {w : World} (h : Is B b l w) : b < w.heap.size := by
  rcases h with ⟨_, v, h2, _⟩ | ⟨_, v, h2, _⟩ <;> exact (Array.getElem?_eq_some_iff.1 h2).1
end Bd
end Go.Proofs.YtmlndamkcipebaaGreatDoor
namespace Go.Proofs.YtmlndamkcipebaaGreatDoor
open Go Go.RowKit Lmd
namespace Pk
open Rul Day Tp Cand

/-- what lies behind pack.Apply -/
def ApPost (e : Nat → Addr) (a d : List UInt8) (w : World) (er : Ending) (w' : World) : Prop :=
  er = .returned (.tuple #[.string (mk (apply a d).2), errV e (apply a d).1]) ∧ Below w.heap.size w w'
/-- the errors of deltas -/
structure EP (w : World) (e : Nat → Addr) : Prop where
  s0 : Frame.Sent w 3 (Er.tx [116, 101, 120, 116]) (e 0)
  s1 : Frame.Sent w 0 (Er.tx [98, 111, 117, 110, 100]) (e 1)
theorem EP.below {w w' : World} {e : Nat → Addr} (h : EP w e) (hb : Below w.heap.size w w') : EP w' e := ⟨h.s0.below hb, h.s1.below hb⟩
theorem opsF_len : ∀ (k : Nat) (d : List UInt8) (l : List Op), d.length ≤ k → opsF d = some l → l.length ≤ d.length
  | 0, d, l, hk, h => by
    have : d = [] := List.length_eq_zero_iff.1 (by omega)
    subst this
    rw [opsF_nil] at h
    cases h
    simp
  | k + 1, d, l, hk, h => by
    by_cases hd : d = []
    · subst hd
      rw [opsF_nil] at h
      cases h
      simp
    · cases hf : (fst1 d).1 with
      | false => rw [opsF_bad hd hf] at h; cases h
      | true =>
        have hl := fst_len hf
        rw [opsF_one hd hf] at h
        cases hr : opsF (fst1 d).2.2 with
        | none => rw [hr] at h; cases h
        | some l2 =>
          rw [hr] at h
          cases h
          have := opsF_len k _ l2 (by omega) hr
          rw [List.length_cons]; omega
/-- the state of the loop of pack.Apply -/
structure ApAt (a : List UInt8) (l : List Op) (b : Nat) (W1 : World) (k : Nat) (out : List UInt8) (W : World) : Prop where
  rel : makes a l [] = makes a (l.drop k) out
  bd : Bd.Is b b out W
  low : Below b W1 W
  len : out.length ≤ 10000
  le : k ≤ l.length
theorem cellsOp_at : ∀ (l : List Op) (k : Nat) (o : Op), l[k]? = some o → (cellsOp l)[3 * k]? = some (.int .i64 o.at_) ∧ (cellsOp l)[3 * k + 1]? = some (.int .i64 o.n) ∧ (cellsOp l)[3 * k + 2]? = some (.string (mk o.text))
  | [], k, o, h => by cases h
  | x :: l, 0, o, h => by
    obtain rfl : x = o := by simpa using h
    simp [cellsOp]
  | x :: l, k + 1, o, h => by
    have ih := cellsOp_at l k o (by simpa using h)
    have e : cellsOp (x :: l) = [.int .i64 x.at_, .int .i64 x.n, .string (mk x.text)] ++ cellsOp l := rfl
    have e0 : 3 * (k + 1) = 3 * k + 3 := by omega
    rw [e, e0]
    simp only [List.getElem?_append_right (show [Value.int .i64 x.at_, .int .i64 x.n, .string (mk x.text)].length ≤ 3 * k + 3 by simp), List.getElem?_append_right (show [Value.int .i64 x.at_, .int .i64 x.n, .string (mk x.text)].length ≤ 3 * k + 3 + 1 by simp), List.getElem?_append_right (show [Value.int .i64 x.at_, .int .i64 x.n, .string (mk x.text)].length ≤ 3 * k + 3 + 2 by simp), List.length_cons, List.length_nil]
    have e1 : 3 * k + 3 - (0 + 1 + 1 + 1) = 3 * k := by omega
    have e2 : 3 * k + 3 + 1 - (0 + 1 + 1 + 1) = 3 * k + 1 := by omega
    have e3 : 3 * k + 3 + 2 - (0 + 1 + 1 + 1) = 3 * k + 2 := by omega
    rw [e1, e2, e3]
    exact ih
theorem op_cells {W : World} {base : Nat} {va : Option Addr} {vc : Nat} {l : List Op} {k : Nat} {o : Op} (h : W.ownsRow base 106 3 (.slice va l.length vc) l.length (cellsOp l)) (hk : l[k]? = some o) :
    ∃ g, va = some ⟨g, 0, none⟩ ∧ base ≤ g ∧ (W.cell? ⟨g, k * 3, none⟩ = some (.int .i64 o.at_) ∧ W.cell? ⟨g, k * 3 + 1, none⟩ = some (.int .i64 o.n) ∧ W.cell? ⟨g, k * 3 + 2, none⟩ = some (.string (mk o.text))) := by
  obtain ⟨h1, h2, h3⟩ := cellsOp_at l k o hk
  rw [Nat.mul_comm] at h1 h2 h3
  have hkl := (List.getElem?_eq_some_iff.1 hk).1
  rcases h.2 with ⟨e, h0⟩ | ⟨g, cap, cur, e, hb, _⟩
  · omega
  · cases e
    have hc := h.cells (g := g) rfl
    refine ⟨g, rfl, hb, ?_, ?_, ?_⟩
    · have := hc _ _ h1
      rwa [Addr.add_lit, Nat.zero_add] at this
    · have := hc _ _ h2
      rwa [Addr.add_lit, Nat.zero_add] at this
    · have := hc _ _ h3
      rwa [Addr.add_lit, Nat.zero_add] at this
theorem own_later3' {w w' : World} {base b : Nat} {e : TypeId} {v : Value} {n : Nat} {xs : List Value} (h : w.ownsRow base e 3 v n xs) (hb : Below b w w') (hv : ∀ g, v.ownBlock = some g → g < b) : w'.ownsRow base e 3 v n xs := by
  refine ⟨h.1, ?_⟩
  rcases h.2 with hx | ⟨g, cap, cur, rfl, h2, hr, h3⟩
  · exact .inl hx
  · exact .inr ⟨g, cap, cur, rfl, h2, by rw [hb.block g (hv g rfl)]; exact hr, h3⟩
set_option maxRecDepth 100000 in
set_option maxHeartbeats 1000000 in
theorem apply_any (a d : List UInt8) (e : Nat → Addr) (m : Int) (w : World) (ha : a.length ≤ 1100000) (hd : d.length ≤ 1100000) (he : EP w e) (hE : ELib w) (htab : Lib.TabIs Tryz.prog w "internal/strconv.uint64pow10" .u64 Lib.pow10Tab) (hm : w.cell? ⟨13, 0, none⟩ = some (.int .i64 m)) :
    Calls Tryz.prog 33 #[.string (mk a), .string (mk d)] w (ApPost e a d w) := by
  have hops := ops_any d m w hd hE htab hm
  have HOPS := Lib.hid hops
  have HE := Lib.hid he
  obtain ⟨A, hA⟩ : ∃ A, mk a = A := ⟨_, rfl⟩
  rw [hA]
  have HA := Lib.hid hA
  clear hops he hE htab hm hA
  go_enter Tryz.func33, Tryz.ntmps33
  go_wp2_with fail
  refine HOPS.out.mono ?_
  rintro e1 w1 ⟨v, rfl, hv, hb1⟩
  cases ho : opsF d with
  | none =>
    have hap : apply a d = (1, []) := by unfold apply; rw [ho]
    have cE := (HE.out.below hb1).s0.cell
    have HAP := Lib.hid hap
    have HB := Lib.hid hb1
    clear hap ho hv hb1 HOPS
    simp only [Option.isSome_none]
    go_wp2_with fail
    go_quiet (fail)
    go_wp2
    go_ret2
    exact ⟨by rw [HAP.out]; rfl, below_draw HB.out _⟩
  | some l =>
    have hown := hv l ho
    obtain ⟨va, vc, rfl⟩ := ownsRow_slice3 hown
    simp only [Option.isSome_some]
    obtain ⟨W1, hW1⟩ : ∃ W1, w1.alloc (.cells #[.pointer none, .slice none 0 0] 77) = W1 := ⟨_, rfl⟩
    have hB1 : Below w1.heap.size w1 W1 := by rw [← hW1]; exact (Below.refl _ w1).alloc (Nat.le_refl _) _
    have hnew := Bd.new_is w1
    rw [hW1] at hnew
    have hsz1 : W1.heap.size = w1.heap.size + 1 := by rw [← hW1]; simp
    have hfit := opsF_fit _ d l (Nat.le_refl _) ho
    have hll : l.length ≤ 1100000 := by have := opsF_len _ d l (Nat.le_refl _) ho; omega
    have hvb : ∀ g, (Value.slice va l.length vc).ownBlock = some g → g < w1.heap.size := fun g hg => (hown.lt g hg).2
    have HVB := Lib.hid hvb
    have HOWN := Lib.hid (own_later3 hown hB1)
    have HNEW := Lib.hid hnew
    have HB1 := Lib.hid hb1
    have HB2 := Lib.hid hB1
    have HO := Lib.hid ho
    have HFIT := Lib.hid hfit
    have HW1 := Lib.hid hW1
    have HZ1 := Lib.hid hsz1
    have hs1 := hb1.size
    clear hvb hown hB1 hnew hv hb1 ho HOPS hfit hW1 hsz1
    go_wp2_with fail
    rw [HW1.out]
    go_loopw [21] (fun i wr => ∃ (k : Nat) (out : List UInt8), i = .int .i64 k ∧ ApAt a l w1.heap.size W1 k out wr) (fun i _ => l.length - (intOf i).toNat)
    case atStart => exact ⟨0, [], rfl, rfl, HNEW.out, Below.refl _ _, by simp, Nat.zero_le _⟩
    case round =>
      obtain ⟨k, out, rfl, hat⟩ := hrel
      have hkl := hat.le
      by_cases hlt : k < l.length
      · obtain ⟨o, hok⟩ : ∃ o, l[k]? = some o := ⟨_, List.getElem?_eq_getElem hlt⟩
        obtain ⟨g, rfl, hg, hc⟩ := op_cells (own_later3' HOWN.out hat.low HVB.out) hok
        obtain ⟨p0, p1, p2⟩ := hc
        have hi1 : (k : Int) < (l.length : Int) := by omega
        have HAT := Lib.hid hat
        have HOK := Lib.hid hok
        clear hat hok
        obtain ⟨W2, hW2⟩ : ∃ W2, wr.alloc (.cells #[.int .i64 o.at_, .int .i64 o.n, .string (mk o.text)] 106) = W2 := ⟨_, rfl⟩
        have hx2 := heap_new wr (.cells #[.int .i64 o.at_, .int .i64 o.n, .string (mk o.text)] 106)
        have hb2 : Below wr.heap.size wr W2 := by rw [← hW2]; exact (Below.refl _ wr).alloc (Nat.le_refl _) _
        rw [hW2] at hx2
        have hbd2 := HAT.out.bd.below hb2
        have hlt2 := HAT.out.bd.lt
        have HW2 := Lib.hid hW2
        have HX2 := Lib.hid hx2
        have HB2' := Lib.hid hb2
        have HBD2 := Lib.hid hbd2
        clear hx2 hb2 hbd2 hW2
        go_upto_region 8 with fail
        rw [HW2.out]
        obtain ⟨k0, k1, k2, f0, f1, f2⟩ := cells3 HX2.out
        have hof := HFIT.out o (List.mem_of_getElem? HOK.out)
        have hAl : A.size = a.length := by rw [← HA.out]; simp [ByteArray.size]
        have HAL := Lib.hid hAl
        have HOF := Lib.hid hof
        have hol := HAT.out.len
        have hAs : A.size ≤ 1100000 := by omega
        clear hAl hof
        go_cut [51, 70] from 25 (fun s t wx => t = undef ∧ s = .bool (badOp a out o) ∧ Below W2.heap.size W2 wx)
        case first =>
          have hs2 : IntKind.i64.wrap ((10000 : Int) - (out.length : Int)) = (10000 : Int) - (out.length : Int) := IntWalk.i64_in _ (by omega)
          by_cases ht : o.text = []
          · have hbounds : 0 ≤ o.at_ ∧ 1 ≤ o.n ∧ o.at_ < 1000000000 ∧ o.n < 1000000000 := by
              rcases HOF.out with ⟨_, h⟩ | ⟨h, _⟩
              · exact ⟨h.1, h.2.1, h.2.2.1, h.2.2.2⟩
              · exact absurd ht h
            have he : (mk o.text).toList = [] := by rw [toListMk]; exact ht
            have HT := Lib.hid ht
            have hs1 : IntKind.i64.wrap ((A.size : Int) - o.at_) = (A.size : Int) - o.at_ := IntWalk.i64_in _ (by omega)
            clear ht
            by_cases h1 : (A.size : Int) < o.at_
            · have hd1 : decide ((A.size : Int) < o.at_) = true := decide_eq_true h1
              have hb : badOp a out o = true := by
                unfold badOp
                rw [decide_eq_true HT.out, ← HAL.out, hd1]; simp
              have HB := Lib.hid hb
              clear hb h1 hbounds
              go_quiet ((go_at_call 72; exact Calls.quiet_of_same (Bd.len_any w1.heap.size w1.heap.size out _ (by exact HBD2.out))))
              go_wp2_with fail
              go_meet
              exact ⟨rfl, by rw [HB.out], below_draw (Below.refl _ W2) _⟩
            · have hd1 : decide ((A.size : Int) < o.at_) = false := decide_eq_false h1
              by_cases h2 : (A.size : Int) - o.at_ < o.n
              · have hd2 : decide ((A.size : Int) - o.at_ < o.n) = true := decide_eq_true h2
                have hb : badOp a out o = true := by
                  unfold badOp
                  rw [decide_eq_true HT.out, ← HAL.out, hd1, hd2]; simp
                have HB := Lib.hid hb
                clear hb h1 h2 hbounds
                go_quiet ((go_at_call 72; exact Calls.quiet_of_same (Bd.len_any w1.heap.size w1.heap.size out _ (by exact HBD2.out))))
                go_wp2_with fail
                go_meet
                exact ⟨rfl, by rw [HB.out], below_draw (Below.refl _ W2) _⟩
              · have hd2 : decide ((A.size : Int) - o.at_ < o.n) = false := decide_eq_false h2
                have hb : badOp a out o = decide ((10000 : Int) - (out.length : Int) < o.n) := by
                  unfold badOp
                  rw [decide_eq_true HT.out, ← HAL.out, hd1, hd2]; simp
                have HB := Lib.hid hb
                clear hb h1 h2 hbounds
                go_quiet ((go_at_call 72; exact Calls.quiet_of_same (Bd.len_any w1.heap.size w1.heap.size out _ (by exact HBD2.out))))
                go_wp2_with fail
                go_meet
                exact ⟨rfl, by rw [HB.out], below_draw (Below.refl _ W2) _⟩
          · have hb : badOp a out o = decide ((10000 : Int) - (out.length : Int) < o.n) := by
              unfold badOp
              rw [decide_eq_false ht]; simp
            have he3 : o.text.isEmpty = false := by simpa using ht
            have HB := Lib.hid hb
            clear hb ht
            go_quiet ((go_at_call 72; exact Calls.quiet_of_same (Bd.len_any w1.heap.size w1.heap.size out _ (by exact HBD2.out))))
            go_wp2_with fail
            go_meet
            exact ⟨rfl, by rw [HB.out], below_draw (Below.refl _ W2) _⟩
        case rest =>
          obtain ⟨rfl, rfl, hbc⟩ := hcut
          have hdrop : l.drop k = o :: l.drop (k + 1) := by
            obtain ⟨h1, h2⟩ := List.getElem?_eq_some_iff.1 HOK.out
            rw [← h2]
            exact List.drop_eq_getElem_cons h1
          have hlowc : Below w1.heap.size W1 wc := HAT.out.low.trans ((HB2'.out.trans (hbc.mono HB2'.out.size)).mono (by have := HAT.out.low.size; have := HZ1.out; omega))
          have hbdc := HBD2.out.below hbc
          have hxc := row_below HX2.out hbc
          have hallc : Below w.heap.size w wc := (HB1.out.trans (HB2.out.mono hs1)).trans (hlowc.mono hs1)
          cases hb : badOp a out o with
          | true =>
            have hap : apply a d = (2, []) := by
              unfold apply
              rw [HO.out]
              simp only [HAT.out.rel, hdrop, makes, hb, if_true]
            have cE := (HE.out.below hallc).s1.cell
            have HAP := Lib.hid hap
            have HALL := Lib.hid hallc
            clear hdrop hlowc hbdc hxc hallc hb hap hbc
            go_wp2_with fail
            go_quiet (fail)
            go_wp2
            go_ret2
            exact ⟨by rw [HAP.out]; rfl, below_draw HALL.out _⟩
          | false =>
            have hol2 := op_len HOF.out hb
            have hmk : makes a l [] = makes a (l.drop (k + 1)) (out ++ opBytes a o) := by
              rw [HAT.out.rel, hdrop]
              simp only [makes, hb, Bool.false_eq_true, if_false]
            have hszc : w1.heap.size ≤ wc.heap.size := by have := hlowc.size; have := HZ1.out; omega
            have HMK := Lib.hid hmk
            have HOL2 := Lib.hid hol2
            have HLOWC := Lib.hid hlowc
            have HBDC := Lib.hid hbdc
            have HALLC := Lib.hid hallc
            obtain ⟨k0, k1, k2, f0, f1, f2⟩ := cells3 hxc
            have hbits := hb
            unfold badOp at hbits
            simp only [Bool.or_eq_false_iff, Bool.and_eq_false_iff, decide_eq_false_iff_not] at hbits
            have HBITS := Lib.hid hbits
            clear hdrop hlowc hbdc hxc hallc hb hbc hmk hol2 hbits
            by_cases ht : o.text = []
            · have hof := HOF.out
              have hbounds : 0 ≤ o.at_ ∧ 1 ≤ o.n ∧ o.at_ < 1000000000 ∧ o.n < 1000000000 := by
                rcases hof with ⟨_, h⟩ | ⟨h, _⟩
                · exact ⟨h.1, h.2.1, h.2.2.1, h.2.2.2⟩
                · exact absurd ht h
              have hin : o.at_ + o.n ≤ (A.size : Int) := by
                rcases HBITS.out.1 with h | ⟨h1, h2⟩
                · exact absurd ht h
                · have := HAL.out; omega
              obtain ⟨x, hx⟩ : ∃ x : Nat, o.at_ = (x : Int) := ⟨o.at_.toNat, by omega⟩
              obtain ⟨y, hy⟩ : ∃ y : Nat, o.n = (y : Int) := ⟨o.n.toNat, by omega⟩
              have hob : opBytes a o = (a.drop x).take y := by
                unfold opBytes
                rw [if_pos ht, hx, hy]; simp
              have hext : A.extract x (x + y) = mk ((a.drop x).take y) := mk_of (by
                rw [ext_mid, ← HA.out]
                congr 1; omega)
              rw [hx] at k0 hin
              rw [hy] at k1 hin
              have he5 : o.text.isEmpty = true := by rw [ht]; rfl
              have hxy1 : x + y ≤ A.size := by omega
              have hxy2 : x ≤ A.size := by omega
              have hxy3 : (x : Int) + (y : Int) ≤ (A.size : Int) := by omega
              have hob2 : (out ++ opBytes a o).length ≤ 10000 := HOL2.out.2
              have hsum : out.length + (mk ((a.drop x).take y)).size ≤ 1000000000 := by
                have : (mk ((a.drop x).take y)).size = (opBytes a o).length := by rw [hob]; rfl
                rw [List.length_append] at hob2; omega
              have HOB := Lib.hid hob
              have HSUM := Lib.hid hsum
              have HSZC := Lib.hid hszc
              clear hof hbounds hx hy hob ht hin hob2 hsum hszc
              go_upto_region 11 with fail
              go_wp2_with fail
              refine (Bd.write_any w1.heap.size w1.heap.size out (mk ((a.drop x).take y)) _ HBDC.out HSUM.out HSZC.out).mono ?_
              rintro e3 w3 ⟨rfl, hbd3, hb3⟩
              have hrel3 : ApAt a l w1.heap.size W1 (k + 1) (out ++ opBytes a o) w3 := by
                refine ⟨HMK.out, ?_, HLOWC.out.trans hb3, HOL2.out.2, hlt⟩
                rw [HOB.out]; exact hbd3
              have HREL3 := Lib.hid hrel3
              clear hbd3 hb3 hrel3
              go_wp2_with fail
              go_roundw
              case rel =>

                exact ⟨k + 1, _, by go_num, HREL3.out⟩
              simp [intOf]; omega
            · have he5 : o.text.isEmpty = false := by simpa using ht
              have hob : opBytes a o = o.text := by unfold opBytes; rw [if_neg ht]
              have hob2 : (out ++ opBytes a o).length ≤ 10000 := HOL2.out.2
              have hsum : out.length + (mk o.text).size ≤ 1000000000 := by
                have : (mk o.text).size = (opBytes a o).length := by rw [hob]; rfl
                rw [List.length_append] at hob2; omega
              have HOB := Lib.hid hob
              have HSUM := Lib.hid hsum
              have HSZC := Lib.hid hszc
              clear hob ht hob2 hsum hszc
              go_wp2_with fail
              refine (Bd.write_any w1.heap.size w1.heap.size out (mk o.text) _ HBDC.out HSUM.out HSZC.out).mono ?_
              rintro e3 w3 ⟨rfl, hbd3, hb3⟩
              have hrel3 : ApAt a l w1.heap.size W1 (k + 1) (out ++ opBytes a o) w3 := by
                refine ⟨HMK.out, ?_, HLOWC.out.trans hb3, HOL2.out.2, hlt⟩
                rw [HOB.out]; exact hbd3
              have HREL3 := Lib.hid hrel3
              clear hbd3 hb3 hrel3
              go_wp2_with fail
              go_roundw
              case rel => exact ⟨k + 1, _, by go_num, HREL3.out⟩
              simp [intOf]; omega
      · have hkl2 : k = l.length := by omega
        subst hkl2
        have hi1 : ¬ ((l.length : Int) < (l.length : Int)) := by omega
        have hap : apply a d = (0, out) := by
          unfold apply
          rw [HO.out]
          have := hat.rel
          rw [List.drop_length] at this
          simp only [this, makes]
        have hallc : Below w.heap.size w wr := (HB1.out.trans (HB2.out.mono hs1)).trans (hat.low.mono hs1)
        have hszr : w1.heap.size ≤ wr.heap.size := by have := hat.low.size; have := HZ1.out; omega
        have hbdr := hat.bd
        have HAP := Lib.hid hap
        have HALL := Lib.hid hallc
        have HSZR := Lib.hid hszr
        have HBDR := Lib.hid hbdr
        clear hap hallc hszr hbdr hat
        go_wp2_with fail
        refine (Bd.string_any w1.heap.size w1.heap.size out _ HBDR.out HSZR.out).mono ?_
        rintro e3 w3 ⟨rfl, hb3⟩
        have hall3 : Below w.heap.size w w3 := HALL.out.trans (hb3.mono hs1)
        have HALL3 := Lib.hid hall3
        clear hb3 hall3
        go_wp2_with fail
        go_ret2
        exact ⟨by rw [HAP.out]; rfl, HALL3.out⟩
end Pk
end Go.Proofs.YtmlndamkcipebaaGreatDoor
namespace Go.Proofs.YtmlndamkcipebaaGreatDoor
open Go Go.RowKit Lmd
namespace Pk
open Rul Day Tp Cand
/-- what the laws of deltas stand on -/
structure PEnv (w : World) (e : Nat → Addr) (m : Int) : Prop where
  ep : EP w e
  lib : ELib w
  tab : Lib.TabIs Tryz.prog w "internal/strconv.uint64pow10" .u64 Lib.pow10Tab
  ml : w.cell? ⟨13, 0, none⟩ = some (.int .i64 m)
theorem PEnv.below {w w' : World} {e : Nat → Addr} {m : Int} (h : PEnv w e m) (hb : Below w.heap.size w w') : PEnv w' e m :=
  ⟨h.ep.below hb, h.lib.below hb, Frame.tab_below (g := 12) (by kernel_rfl) hb h.tab, cell_later hb h.ml⟩
theorem makes_len (a : List UInt8) : ∀ (l : List Op) (out t : List UInt8), (∀ o ∈ l, Fit o) → out.length ≤ 10000 → makes a l out = some t → t.length ≤ 10000
  | [], out, t, _, ho, h => by cases h; exact ho
  | o :: l, out, t, hf, ho, h => by
    simp only [makes] at h
    cases hb : badOp a out o with
    | true => rw [hb] at h; cases h
    | false =>
      rw [hb] at h
      exact makes_len a l _ t (fun o ho => hf o (by simp [ho])) (op_len (hf o (by simp)) hb).2 h
theorem apply_len (a d : List UInt8) : (apply a d).2.length ≤ 10000 := by
  unfold apply
  split
  · simp
  · rename_i l hl
    split
    · simp
    · rename_i t ht
      exact makes_len a l [] t (opsF_fit _ d l (Nat.le_refl _) hl) (by simp) ht
theorem len_dig {c : UInt8} (hc : ¬ (48 ≤ c.toNat ∧ c.toNat ≤ 57)) (n : Nat) (b : UInt8) (hn : n < 1000) (hd : Lib.decDigits n = [b]) (r : List UInt8) : lenOk c (b :: c :: r) = true ∧ lenN c (b :: c :: r) = (n : Int) ∧ lenR c (b :: c :: r) = r := by
  have h := len_of hc (n := (n : Int)) (by omega) (by omega) r
  rw [Lib.itoa_nonneg, hd] at h
  exact h
theorem dig1 : Lib.decDigits 1 = [49] := by unfold Lib.decDigits; rfl
theorem dig2 : Lib.decDigits 2 = [50] := by unfold Lib.decDigits; rfl
theorem dig3 : Lib.decDigits 3 = [51] := by unfold Lib.decDigits; rfl
theorem hello_ops : opsF [99, 49, 44, 51, 59, 105, 50, 58, 97, 98, 59] = some [⟨1, 3, []⟩, ⟨0, 2, [97, 98]⟩] := by
  obtain ⟨a1, a2, a3⟩ := len_dig (c := 44) (by decide) 1 49 (by decide) dig1 [51, 59, 105, 50, 58, 97, 98, 59]
  obtain ⟨b1, b2, b3⟩ := len_dig (c := 59) (by decide) 3 51 (by decide) dig3 [105, 50, 58, 97, 98, 59]
  obtain ⟨c1, c2, c3⟩ := len_dig (c := 58) (by decide) 2 50 (by decide) dig2 [97, 98, 59]
  have f1 : fst1 [99, 49, 44, 51, 59, 105, 50, 58, 97, 98, 59] = (true, ⟨1, 3, []⟩, [105, 50, 58, 97, 98, 59]) := by
    show (if copyOk [49, 44, 51, 59, 105, 50, 58, 97, 98, 59] = true then (true, copyOp [49, 44, 51, 59, 105, 50, 58, 97, 98, 59], copyR [49, 44, 51, 59, 105, 50, 58, 97, 98, 59]) else (false, noOp, [])) = _
    unfold copyOk copyOp copyR
    rw [a1, a2, a3, b1, b2, b3]
    rfl
  have f2 : fst1 [105, 50, 58, 97, 98, 59] = (true, ⟨0, 2, [97, 98]⟩, []) := by
    show (if insOk [50, 58, 97, 98, 59] = true then (true, insOp [50, 58, 97, 98, 59], insR [50, 58, 97, 98, 59]) else (false, noOp, [])) = _
    unfold insOk insOp insR
    rw [c1, c2, c3]
    rfl
  rw [opsF_one (by decide) (by rw [f1]), f1]
  show ((opsF [105, 50, 58, 97, 98, 59]).map _) = _
  rw [opsF_one (by decide) (by rw [f2]), f2]
  rfl
theorem hello : apply [104, 101, 108, 108, 111] [99, 49, 44, 51, 59, 105, 50, 58, 97, 98, 59] = (0, [101, 108, 108, 97, 98]) := by
  unfold apply
  rw [hello_ops]
  rfl
set_option maxRecDepth 100000 in
theorem packed_any (e : Nat → Addr) (m : Int) (w : World) (h : PEnv w e m) :
    Calls Tryz.prog 32 #[] w fun er w' => er = .returned (.bool true) ∧ Below w.heap.size w w' := by
  have ha := apply_any [104, 101, 108, 108, 111] [99, 49, 44, 51, 59, 105, 50, 58, 97, 98, 59] e m w (by decide) (by decide) h.ep h.lib h.tab h.ml
  unfold ApPost at ha
  rw [hello] at ha
  have HA := Lib.hid ha
  clear ha h
  go_enter Tryz.func32, Tryz.ntmps32
  go_wp2_with fail
  (with_reducible refine HA.out.mono ?_)
  rintro e1 w1 ⟨rfl, hb⟩
  have HB := Lib.hid hb
  clear hb HA
  simp only [errV]
  have hh : (mk [101, 108, 108, 97, 98]).toList = [101, 108, 108, 97, 98] := toListMk _
  go_wp2
  go_ret
  exact ⟨rfl, HB.out⟩
theorem mk_size (l : List UInt8) : (mk l).size = l.length := rfl
end Pk
end Go.Proofs.YtmlndamkcipebaaGreatDoor
