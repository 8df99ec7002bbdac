/- pack.Delta. -/
import Derived.Test.YtmlndamkcipebaaDoorPacked
import Derived.Deep.CutRange
namespace Go.Proofs.YtmlndamkcipebaaDoor
open Go Go.RowKit Lmd
namespace Pk
open Rul Day Tp Cand

/-- an insert, and a copy, as they are written -/
def insL (s : List UInt8) : List UInt8 := if s = [] then [] else 105 :: (Lib.itoa (s.length : Int) ++ 58 :: (s ++ [59]))
def copL (x n : Nat) : List UInt8 := if n = 0 then [] else 99 :: (Lib.itoa (x : Int) ++ 44 :: (Lib.itoa (n : Int) ++ [59]))
theorem insL_le (s : List UInt8) (hs : s.length ≤ 1000000) : (insL s).length ≤ s.length + 30 := by
  have := Lib.itoa_length_le (s.length : Int) (by omega) (by omega)
  unfold insL
  split
  · simp
  · simp only [List.length_append, List.length_cons, List.length_nil]; omega
theorem copL_le (x n : Nat) (hx : x ≤ 1000000) (hn : n ≤ 1000000) : (copL x n).length ≤ 60 := by
  have := Lib.itoa_length_le (x : Int) (by omega) (by omega)
  have := Lib.itoa_length_le (n : Int) (by omega) (by omega)
  unfold copL
  split
  · simp
  · simp only [List.length_append, List.length_cons, List.length_nil]; omega
theorem ins_cat {s : List UInt8} (h : s ≠ []) : (⟨#[105]⟩ : ByteArray) ++ mk (Lib.itoa (s.length : Int)) ++ ⟨#[58]⟩ ++ mk s ++ ⟨#[59]⟩ = mk (insL s) := by
  have e0 : (⟨#[105]⟩ : ByteArray) = mk [105] := rfl
  have e1 : (⟨#[58]⟩ : ByteArray) = mk [58] := rfl
  have e2 : (⟨#[59]⟩ : ByteArray) = mk [59] := rfl
  rw [e0, e1, e2, mk_cat, mk_cat, mk_cat, mk_cat]
  unfold insL
  rw [if_neg h]
  simp
theorem cop_cat {x n : Nat} (h : n ≠ 0) : (⟨#[99]⟩ : ByteArray) ++ mk (Lib.itoa (x : Int)) ++ ⟨#[44]⟩ ++ mk (Lib.itoa (n : Int)) ++ ⟨#[59]⟩ = mk (copL x n) := by
  have e0 : (⟨#[99]⟩ : ByteArray) = mk [99] := rfl
  have e1 : (⟨#[44]⟩ : ByteArray) = mk [44] := rfl
  have e2 : (⟨#[59]⟩ : ByteArray) = mk [59] := rfl
  rw [e0, e1, e2, mk_cat, mk_cat, mk_cat, mk_cat]
  unfold copL
  rw [if_neg h]
  simp
set_option maxRecDepth 100000 in
theorem insert_any (s : List UInt8) (w : World) (hs : s.length ≤ 1000000) (htab : Lib.TabIs Tryd.prog w "internal/strconv.uint64pow10" .u64 Lib.pow10Tab) :
    Calls Tryd.prog 62 #[.string (mk s)] w fun e w' => e = .returned (.string (mk (insL s))) ∧ Below w.heap.size w w' := by
  by_cases h : s = []
  · subst h
    have he : (mk []).toList = [] := toListMk _
    clear htab
    go_enter Tryd.func62, Tryd.ntmps62
    go_wp2
    go_ret
    exact ⟨rfl, Below.refl _ _⟩
  · have hit := itoa_b (s.length : Int) (by omega) (by omega) w htab
    have hil := Lib.itoa_length_le (s.length : Int) (by omega) (by omega)
    have hic := ins_cat h
    have hz : (mk s).size = s.length := rfl
    have he3 : s.isEmpty = false := by simpa using h
    obtain ⟨I, hI⟩ : ∃ I, Lib.itoa (s.length : Int) = I := ⟨_, rfl⟩
    rw [hI] at hit hil hic
    have HIT := Lib.hid hit
    have HIC := Lib.hid hic
    clear hit hic hI h htab
    go_enter Tryd.func62, Tryd.ntmps62
    go_wp2_with fail
    refine HIT.out.mono ?_
    rintro e1 w1 ⟨rfl, hb1⟩
    have HB := Lib.hid hb1
    clear hb1 HIT
    go_wp2
    go_ret
    exact ⟨by rw [← HIC.out]; rfl, HB.out⟩
set_option maxRecDepth 100000 in
theorem copied_any (x n : Nat) (w : World) (hx : x ≤ 1000000) (hn : n ≤ 1000000) (htab : Lib.TabIs Tryd.prog w "internal/strconv.uint64pow10" .u64 Lib.pow10Tab) :
    Calls Tryd.prog 61 #[.int .i64 (x : Int), .int .i64 (n : Int)] w fun e w' => e = .returned (.string (mk (copL x n))) ∧ Below w.heap.size w w' := by
  by_cases h : n = 0
  · subst h
    clear htab
    go_enter Tryd.func61, Tryd.ntmps61
    go_wp2
    go_ret
    exact ⟨rfl, Below.refl _ _⟩
  · have hit := itoa_b (x : Int) (by omega) (by omega) w htab
    have hit2 := fun W (h : Below w.heap.size w W) => itoa_b (n : Int) (by omega) (by omega) W (Frame.tab_below (g := 12) (by kernel_rfl) h htab)
    have hil := Lib.itoa_length_le (x : Int) (by omega) (by omega)
    have hil2 := Lib.itoa_length_le (n : Int) (by omega) (by omega)
    have hic := cop_cat (x := x) h
    have hn0 : ((n : Int) == 0) = false := by rw [beq_eq_false_iff_ne]; omega
    obtain ⟨I, hI⟩ : ∃ I, Lib.itoa (x : Int) = I := ⟨_, rfl⟩
    obtain ⟨J, hJ⟩ : ∃ J, Lib.itoa (n : Int) = J := ⟨_, rfl⟩
    rw [hI] at hit hil hic
    rw [hJ] at hic hil2
    have HIT := Lib.hid hit
    have HIT2 := Lib.hid (fun W h => hJ ▸ hit2 W h)
    have HIC := Lib.hid hic
    clear hit hit2 hic hI hJ htab
    go_enter Tryd.func61, Tryd.ntmps61
    go_wp2_with fail
    (with_reducible refine HIT.out.mono ?_)
    rintro e1 w1 ⟨rfl, hb1⟩
    have hi2 := HIT2.out w1 hb1
    have HI2 := Lib.hid hi2
    have HB := Lib.hid hb1
    clear hb1 hi2 HIT HIT2
    go_wp2_with fail
    (with_reducible refine HI2.out.mono ?_)
    rintro e2 w2 ⟨rfl, hb2⟩
    have HB2 := Lib.hid (HB.out.trans (hb2.mono HB.out.size))
    clear hb2 HI2
    go_wp2
    go_ret
    exact ⟨by rw [← HIC.out]; rfl, HB2.out⟩
/-- what is written is read -/
theorem fst_ins (s t : List UInt8) (h : s ≠ []) (hs : s.length ≤ 1000000) : fst1 (insL s ++ t) = (true, ⟨0, (s.length : Int), s⟩, t) := by
  have hp : 0 < s.length := List.length_pos_iff.2 h
  have e : insL s ++ t = 105 :: (Lib.itoa (s.length : Int) ++ 58 :: (s ++ 59 :: t)) := by unfold insL; rw [if_neg h]; simp
  obtain ⟨h1, h2, h3⟩ := len_of (c := 58) (by decide) (n := (s.length : Int)) (by omega) (by omega) (s ++ 59 :: t)
  have hn : ((s.length : Int)).toNat = s.length := by simp
  have hok : insOk (Lib.itoa (s.length : Int) ++ 58 :: (s ++ 59 :: t)) = true := by
    unfold insOk
    rw [h1, h2, h3, hn]
    simp; omega
  rw [e, fst_i, if_pos hok]
  unfold insOp insR
  rw [h2, h3, hn]
  have e1 : (s ++ 59 :: t).take s.length = s := by simp
  have e2 : (s ++ 59 :: t).drop (s.length + 1) = t := by
    have h := List.drop_append (l₁ := s) (l₂ := 59 :: t) (i := s.length + 1)
    rw [h, List.drop_eq_nil_of_le (by omega)]
    simp
  rw [e1, e2]
theorem fst_cop (x n : Nat) (t : List UInt8) (h : n ≠ 0) (hx : x ≤ 1000000) (hn : n ≤ 1000000) : fst1 (copL x n ++ t) = (true, ⟨(x : Int), (n : Int), []⟩, t) := by
  have e : copL x n ++ t = 99 :: (Lib.itoa (x : Int) ++ 44 :: (Lib.itoa (n : Int) ++ 59 :: t)) := by unfold copL; rw [if_neg h]; simp
  obtain ⟨h1, h2, h3⟩ := len_of (c := 44) (by decide) (n := (x : Int)) (by omega) (by omega) (Lib.itoa (n : Int) ++ 59 :: t)
  obtain ⟨h4, h5, h6⟩ := len_of (c := 59) (by decide) (n := (n : Int)) (by omega) (by omega) t
  have hok : copyOk (Lib.itoa (x : Int) ++ 44 :: (Lib.itoa (n : Int) ++ 59 :: t)) = true := by
    unfold copyOk
    rw [h1, h3, h4, h5]
    simp; omega
  rw [e, fst_c, if_pos hok]
  unfold copyOp copyR
  rw [h2, h3, h5, h6]
end Pk
end Go.Proofs.YtmlndamkcipebaaDoor
namespace Go.Proofs.YtmlndamkcipebaaDoor
open Go Go.RowKit Lmd
namespace Pk
open Rul Day Tp Cand

/-- how many bytes are alike at the beginning -/
def preL : List UInt8 → List UInt8 → Nat
  | x :: a, y :: b => if x = y then preL a b + 1 else 0
  | _, _ => 0
theorem pre_le : ∀ (a b : List UInt8), preL a b ≤ a.length ∧ preL a b ≤ b.length
  | [], b => ⟨Nat.zero_le _, Nat.zero_le _⟩
  | x :: a, [] => ⟨Nat.zero_le _, Nat.zero_le _⟩
  | x :: a, y :: b => by
    have := pre_le a b
    simp only [preL, List.length_cons]
    split <;> omega
theorem pre_at : ∀ (a b : List UInt8) (k : Nat), k < preL a b → ∃ y, a[k]? = some y ∧ b[k]? = some y
  | [], b, k, h => by simp [preL] at h
  | x :: a, [], k, h => by simp [preL] at h
  | x :: a, y :: b, k, h => by
    simp only [preL] at h
    split at h
    · rename_i e
      subst e
      cases k with
      | zero => exact ⟨x, rfl, rfl⟩
      | succ k => exact pre_at a b k (by omega)
    · omega
theorem pre_end : ∀ (a b : List UInt8), preL a b < a.length → preL a b < b.length → ∃ x y, a[preL a b]? = some x ∧ b[preL a b]? = some y ∧ x ≠ y
  | [], b, h, _ => by simp at h
  | x :: a, [], _, h => by simp at h
  | x :: a, y :: b, h1, h2 => by
    by_cases e : x = y
    · have hp : preL (x :: a) (y :: b) = preL a b + 1 := by simp only [preL, if_pos e]
      rw [hp, List.length_cons] at h1 h2
      rw [hp]
      exact pre_end a b (by omega) (by omega)
    · have hp : preL (x :: a) (y :: b) = 0 := by simp only [preL, if_neg e]
      rw [hp]
      exact ⟨x, y, rfl, rfl, e⟩
theorem pre_take (a b : List UInt8) (k : Nat) (h : k ≤ preL a b) : a.take k = b.take k := by
  apply List.ext_getElem?
  intro i
  by_cases hi : i < k
  · obtain ⟨y, h1, h2⟩ := pre_at a b i (by omega)
    rw [List.getElem?_take_of_lt hi, List.getElem?_take_of_lt hi, h1, h2]
  · have h1 : (a.take k).length ≤ i := by rw [List.length_take]; omega
    have h2 : (b.take k).length ≤ i := by rw [List.length_take]; omega
    rw [List.getElem?_eq_none h1, List.getElem?_eq_none h2]
/-- how many bytes are alike at the end, behind those at the beginning -/
def sufL (a b : List UInt8) : Nat := min (min a.length b.length - preL a b) (preL a.reverse b.reverse)
theorem suf_take (a b : List UInt8) : a.drop (a.length - sufL a b) = b.drop (b.length - sufL a b) := by
  have h := pre_take a.reverse b.reverse (sufL a b) (Nat.min_le_right _ _)
  rw [List.take_reverse, List.take_reverse] at h
  exact List.reverse_inj.1 h
/-- the delta in parts -/
def partsL (a b : List UInt8) : List UInt8 := copL 0 (preL a b) ++ insL ((b.drop (preL a b)).take (b.length - sufL a b - preL a b)) ++ copL (a.length - sufL a b) (sufL a b)
def deltaL (a b : List UInt8) : List UInt8 := if (insL b).length < (partsL a b).length then insL b else partsL a b
theorem opsF_ins (s t : List UInt8) (h : s ≠ []) (hs : s.length ≤ 1000000) : opsF (insL s ++ t) = (opsF t).map ((⟨0, (s.length : Int), s⟩ : Op) :: ·) := by
  have hf := fst_ins s t h hs
  rw [opsF_one (by unfold insL; rw [if_neg h]; simp) (by rw [hf]), hf]
theorem opsF_cop (x n : Nat) (t : List UInt8) (h : n ≠ 0) (hx : x ≤ 1000000) (hn : n ≤ 1000000) : opsF (copL x n ++ t) = (opsF t).map ((⟨(x : Int), (n : Int), []⟩ : Op) :: ·) := by
  have hf := fst_cop x n t h hx hn
  rw [opsF_one (by unfold copL; rw [if_neg h]; simp) (by rw [hf]), hf]
/-- the operations that are written -/
def insO (s : List UInt8) : List Op := if s = [] then [] else [⟨0, (s.length : Int), s⟩]
def copO (x n : Nat) : List Op := if n = 0 then [] else [⟨(x : Int), (n : Int), []⟩]
theorem opsF_ins' (s t : List UInt8) (hs : s.length ≤ 1000000) : opsF (insL s ++ t) = (opsF t).map (insO s ++ ·) := by
  by_cases h : s = []
  · unfold insL insO; rw [if_pos h, if_pos h]; simp
  · rw [opsF_ins s t h hs]; unfold insO; rw [if_neg h]; rfl
theorem opsF_cop' (x n : Nat) (t : List UInt8) (hx : x ≤ 1000000) (hn : n ≤ 1000000) : opsF (copL x n ++ t) = (opsF t).map (copO x n ++ ·) := by
  by_cases h : n = 0
  · unfold copL copO; rw [if_pos h, if_pos h]; simp
  · rw [opsF_cop x n t h hx hn]; unfold copO; rw [if_neg h]; rfl
theorem makes_ins (a s out : List UInt8) (l : List Op) (h : out.length + s.length ≤ 10000) : makes a (insO s ++ l) out = makes a l (out ++ s) := by
  unfold insO
  by_cases e : s = []
  · rw [if_pos e, e]; simp
  · have hb : badOp a out ⟨0, (s.length : Int), s⟩ = false := by
      unfold badOp
      simp only [e, decide_false, Bool.false_and, Bool.false_or, decide_eq_false_iff_not]
      omega
    rw [if_neg e]
    simp only [List.cons_append, List.nil_append, makes, hb, Bool.false_eq_true, if_false]
    unfold opBytes
    rw [if_neg e]
theorem makes_cop (a out : List UInt8) (x n : Nat) (l : List Op) (h : out.length + n ≤ 10000) (hx : x + n ≤ a.length) : makes a (copO x n ++ l) out = makes a l (out ++ (a.drop x).take n) := by
  unfold copO
  by_cases e : n = 0
  · rw [if_pos e, e]; simp
  · have hb : badOp a out ⟨(x : Int), (n : Int), []⟩ = false := by
      unfold badOp
      simp only [decide_true, Bool.true_and, Bool.or_eq_false_iff, decide_eq_false_iff_not]
      omega
    rw [if_neg e]
    simp only [List.cons_append, List.nil_append, makes, hb, Bool.false_eq_true, if_false]
    unfold opBytes
    simp
/-- a delta makes its text -/
theorem apply_delta (a b : List UInt8) (ha : a.length ≤ 1000000) (hb : b.length ≤ 10000) : apply a (deltaL a b) = (0, b) := by
  have hp := pre_le a b
  have hs1 : sufL a b ≤ min a.length b.length - preL a b := Nat.min_le_left _ _
  unfold deltaL
  split
  · have h := opsF_ins' b [] (by omega)
    rw [List.append_nil, opsF_nil] at h
    have hm := makes_ins a b [] [] (by simpa using hb)
    unfold apply
    rw [h]
    simp only [Option.map_some]
    rw [hm]
    rfl
  · have e3 := opsF_cop' (a.length - sufL a b) (sufL a b) [] (by omega) (by omega)
    rw [List.append_nil, opsF_nil] at e3
    have hmid : ((b.drop (preL a b)).take (b.length - sufL a b - preL a b)).length = b.length - sufL a b - preL a b := by rw [List.length_take, List.length_drop]; omega
    have e2 := opsF_ins' ((b.drop (preL a b)).take (b.length - sufL a b - preL a b)) (copL (a.length - sufL a b) (sufL a b)) (by omega)
    have e1 := opsF_cop' 0 (preL a b) (insL ((b.drop (preL a b)).take (b.length - sufL a b - preL a b)) ++ copL (a.length - sufL a b) (sufL a b)) (by omega) (by omega)
    rw [e2, e3] at e1
    have hop : opsF (partsL a b) = some (copO 0 (preL a b) ++ (insO ((b.drop (preL a b)).take (b.length - sufL a b - preL a b)) ++ (copO (a.length - sufL a b) (sufL a b) ++ []))) := by
      unfold partsL
      rw [List.append_assoc, e1]
      rfl
    unfold apply
    rw [hop]
    simp only
    rw [makes_cop a [] 0 (preL a b) _ (by simp; omega) (by omega)]
    rw [makes_ins _ _ _ _ (by simp; omega)]
    rw [makes_cop _ _ _ _ _ (by simp; omega) (by omega)]
    simp only [makes]
    congr 1
    have t1 : (a.drop 0).take (preL a b) = b.take (preL a b) := by rw [List.drop_zero]; exact pre_take a b _ (Nat.le_refl _)
    have t2 : (a.drop (a.length - sufL a b)).take (sufL a b) = b.drop (b.length - sufL a b) := by
      rw [List.take_of_length_le (by rw [List.length_drop]; omega)]
      exact suf_take a b
    rw [t1, t2, List.nil_append]
    have t3 : b.take (preL a b) ++ (b.drop (preL a b)).take (b.length - sufL a b - preL a b) = b.take (b.length - sufL a b) := by
      have h := List.take_add (l := b) (i := preL a b) (j := b.length - sufL a b - preL a b)
      have e : preL a b + (b.length - sufL a b - preL a b) = b.length - sufL a b := by omega
      rw [e] at h
      exact h.symm
    rw [t3, List.take_append_drop]
theorem delta_le (a b : List UInt8) : (deltaL a b).length ≤ (insL b).length := by
  unfold deltaL
  split
  · exact Nat.le_refl _
  · omega
end Pk
end Go.Proofs.YtmlndamkcipebaaDoor
namespace Go.Proofs.YtmlndamkcipebaaDoor
open Go Go.RowKit Lmd
namespace Pk
open Rul Day Tp Cand

set_option maxRecDepth 100000 in
set_option maxHeartbeats 1000000 in
theorem delta_any (a b : List UInt8) (w : World) (ha : a.length ≤ 100000) (hb : b.length ≤ 100000) (htab : Lib.TabIs Tryd.prog w "internal/strconv.uint64pow10" .u64 Lib.pow10Tab) :
    Calls Tryd.prog 30 #[.string (mk a), .string (mk b)] w fun e w' => e = .returned (.string (mk (deltaL a b))) ∧ Below w.heap.size w w' := by
  obtain ⟨A, hA⟩ : ∃ A, mk a = A := ⟨_, rfl⟩
  obtain ⟨B, hB⟩ : ∃ B, mk b = B := ⟨_, rfl⟩
  have hAz : A.size = a.length := by rw [← hA]; rfl
  have hBz : B.size = b.length := by rw [← hB]; rfl
  have hmin : min (A.size : Int) (B.size : Int) = ((min a.length b.length : Nat) : Int) := by rw [hAz, hBz]; omega
  rw [hA, hB]
  have HA := Lib.hid hA
  have HB := Lib.hid hB
  have HT := Lib.hid htab
  have HAZ := Lib.hid hAz
  have HBZ := Lib.hid hBz
  clear hA hB htab hAz hBz
  go_enter Tryd.func30, Tryd.ntmps30
  go_wp2_with fail
  have hpl := pre_le a b
  go_loopw [6] (fun kv wr => ∃ k q : Nat, kv = .int .i64 k ∧ k ≤ preL a b ∧ wr = w.drewN q) (fun kv _ => preL a b - (intOf kv).toNat)
  case atStart => exact ⟨0, 0, rfl, Nat.zero_le _, rfl⟩
  case round =>
    obtain ⟨k, q, rfl, hk, rfl⟩ := hrel
    go_upto_region 3 with fail
    go_cut [26] from 15 to 28 (fun s wx => s = .bool (decide (k < preL a b)) ∧ ∃ q, wx = w.drewN q)
    case first =>
      by_cases hlt : k < preL a b
      · obtain ⟨y, y1, y2⟩ := pre_at a b k hlt
        have hkA : k < A.size := by have := HAZ.out; omega
        have hkB : k < B.size := by have := HBZ.out; omega
        have g1 : (A[k] : UInt8) = y := at_of A k y hkA (by rw [← HA.out]; exact y1)
        have g2 : (B[k] : UInt8) = y := at_of B k y hkB (by rw [← HB.out]; exact y2)
        have hm1 : (k : Int) < ((min a.length b.length : Nat) : Int) := by omega
        have hkA2 : (k : Int) < (A.size : Int) := by omega
        have hkB2 : (k : Int) < (B.size : Int) := by omega
        have hd : decide (k < preL a b) = true := decide_eq_true hlt
        have HD := Lib.hid hd
        clear y1 y2 hd
        go_quiet (fail)
        go_wp2_with fail
        go_meet
        exact ⟨by rw [HD.out], _, by first | rfl | exact World.drewN_drewN _ _ _⟩
      · have hd : decide (k < preL a b) = false := decide_eq_false hlt
        have HD := Lib.hid hd
        have hk2 : k = preL a b := by omega
        by_cases hm : k < min a.length b.length
        · obtain ⟨x, y, y1, y2, hne⟩ := pre_end a b (by omega) (by omega)
          rw [← hk2] at y1 y2
          have hkA : k < A.size := by have := HAZ.out; omega
          have hkB : k < B.size := by have := HBZ.out; omega
          have g1 : (A[k] : UInt8) = x := at_of A k x hkA (by rw [← HA.out]; exact y1)
          have g2 : (B[k] : UInt8) = y := at_of B k y hkB (by rw [← HB.out]; exact y2)
          have hm1 : (k : Int) < ((min a.length b.length : Nat) : Int) := by omega
          have hkA2 : (k : Int) < (A.size : Int) := by omega
          have hkB2 : (k : Int) < (B.size : Int) := by omega
          have hnn : x.toNat ≠ y.toNat := fun h => hne (UInt8.toNat_inj.1 h)
          have hn1 : ((x.toNat : Int) == (y.toNat : Int)) = false := by rw [beq_eq_false_iff_ne]; omega
          clear y1 y2 hd hk2 hlt hne
          go_quiet (fail)
          go_wp2_with fail
          go_meet
          refine ⟨?_, _, by first | rfl | exact World.drewN_drewN _ _ _⟩
          rw [HD.out]
        · have hm1 : ¬ (k : Int) < ((min a.length b.length : Nat) : Int) := by omega
          clear hd hk2 hlt
          go_quiet (fail)
          go_wp2_with fail
          go_meet
          refine ⟨?_, _, by first | rfl | exact World.drewN_drewN _ _ _⟩
          rw [HD.out]
    case rest =>
      obtain ⟨rfl, q2, rfl⟩ := hcut
      by_cases hlt : k < preL a b
      · have hd : decide (k < preL a b) = true := decide_eq_true hlt
        have hs1 : IntKind.i64.wrap ((k : Int) + 1) = (k : Int) + 1 := IntWalk.i64_in _ (by omega)
        go_wp2_with fail
        go_roundw
        case rel => exact ⟨k + 1, q2, by go_num, hlt, rfl⟩
        case measure => simp [intOf]; omega
      · have hd : decide (k < preL a b) = false := decide_eq_false hlt
        have hk2 : k = preL a b := by omega
        rw [hd]
        go_wp2_with fail
        have hsm : sufL a b ≤ min a.length b.length - preL a b := Nat.min_le_left _ _
        have hsr : sufL a b ≤ preL a.reverse b.reverse := Nat.min_le_right _ _
        have hse : sufL a b < min a.length b.length - preL a b → sufL a b = preL a.reverse b.reverse := by
          intro h; unfold sufL at h ⊢; omega
        have HSR := Lib.hid hsr
        have HSE := Lib.hid hse
        have hs0 : IntKind.i64.wrap (((min a.length b.length : Nat) : Int) - (k : Int)) = ((min a.length b.length : Nat) : Int) - (k : Int) := IntWalk.i64_in _ (by omega)
        have hs1 : IntKind.i64.wrap ((A.size : Int) - 1) = (A.size : Int) - 1 := IntWalk.i64_in _ (by have := HAZ.out; omega)
        have hs2 : IntKind.i64.wrap ((B.size : Int) - 1) = (B.size : Int) - 1 := IntWalk.i64_in _ (by have := HBZ.out; omega)
        have HK2 := Lib.hid hk2
        have hk3 : k + (min a.length b.length - preL a b) = min a.length b.length := by omega
        have HK3 := Lib.hid hk3
        clear hsr hse hlt hd hk2 hk3
        go_loopw [7] (fun jv wr => ∃ j q : Nat, jv = .int .i64 j ∧ j ≤ sufL a b ∧ wr = w.drewN q) (fun jv _ => sufL a b - (intOf jv).toNat)
        case atStart => exact ⟨0, q2, rfl, Nat.zero_le _, rfl⟩
        case round =>
          obtain ⟨j, q3, rfl, hj, rfl⟩ := hrel
          go_upto_region 6 with fail
          go_cut [50] from 29 to 52 (fun s wx => s = .bool (decide (j < sufL a b)) ∧ ∃ q, wx = w.drewN q)
          case first =>
            by_cases hlj : j < sufL a b
            · obtain ⟨y, y1, y2⟩ := pre_at a.reverse b.reverse j (by have := HSR.out; omega)
              rw [List.getElem?_reverse (by omega)] at y1 y2
              obtain ⟨u, hu⟩ : ∃ u : Nat, (A.size : Int) - 1 - (j : Int) = (u : Int) := ⟨A.size - 1 - j, by have := HAZ.out; omega⟩
              obtain ⟨z, hz⟩ : ∃ z : Nat, (B.size : Int) - 1 - (j : Int) = (z : Int) := ⟨B.size - 1 - j, by have := HBZ.out; omega⟩
              have hkA : u < A.size := by omega
              have hkB : z < B.size := by omega
              have g1 : (A[u] : UInt8) = y := at_of A u y hkA (by rw [← HA.out]; have h := HAZ.out; rw [show u = a.length - 1 - j by omega]; exact y1)
              have g2 : (B[z] : UInt8) = y := at_of B z y hkB (by rw [← HB.out]; have h := HBZ.out; rw [show z = b.length - 1 - j by omega]; exact y2)
              have hm1 : (j : Int) < ((min a.length b.length : Nat) : Int) - (k : Int) := by have := HK3.out; omega
              have hkA2 : (u : Int) < (A.size : Int) := by omega
              have hkB2 : (z : Int) < (B.size : Int) := by omega
              have hs3 : IntKind.i64.wrap ((A.size : Int) - 1 - (j : Int)) = (u : Int) := by rw [hu]; exact IntWalk.i64_in _ (by have := HAZ.out; omega)
              have hs4 : IntKind.i64.wrap ((B.size : Int) - 1 - (j : Int)) = (z : Int) := by rw [hz]; exact IntWalk.i64_in _ (by have := HBZ.out; omega)
              have hd : decide (j < sufL a b) = true := decide_eq_true hlj
              have HD := Lib.hid hd
              clear y1 y2 hd hu hz
              go_quiet (fail)
              go_wp2_with fail
              go_meet
              exact ⟨by rw [HD.out], _, by first | rfl | exact World.drewN_drewN _ _ _⟩
            · have hd : decide (j < sufL a b) = false := decide_eq_false hlj
              have HD := Lib.hid hd
              by_cases hmj : j < min a.length b.length - preL a b
              · have hrj : sufL a b = preL a.reverse b.reverse := HSE.out (by omega)
                obtain ⟨x, y, y1, y2, hne⟩ := pre_end a.reverse b.reverse (by rw [List.length_reverse]; omega) (by rw [List.length_reverse]; omega)
                rw [← hrj, show sufL a b = j by omega] at y1 y2
                rw [List.getElem?_reverse (by omega)] at y1 y2
                obtain ⟨u, hu⟩ : ∃ u : Nat, (A.size : Int) - 1 - (j : Int) = (u : Int) := ⟨A.size - 1 - j, by have := HAZ.out; omega⟩
                obtain ⟨z, hz⟩ : ∃ z : Nat, (B.size : Int) - 1 - (j : Int) = (z : Int) := ⟨B.size - 1 - j, by have := HBZ.out; omega⟩
                have hkA : u < A.size := by omega
                have hkB : z < B.size := by omega
                have g1 : (A[u] : UInt8) = x := at_of A u x hkA (by rw [← HA.out]; have h := HAZ.out; rw [show u = a.length - 1 - j by omega]; exact y1)
                have g2 : (B[z] : UInt8) = y := at_of B z y hkB (by rw [← HB.out]; have h := HBZ.out; rw [show z = b.length - 1 - j by omega]; exact y2)
                have hm1 : (j : Int) < ((min a.length b.length : Nat) : Int) - (k : Int) := by have := HK3.out; omega
                have hkA2 : (u : Int) < (A.size : Int) := by omega
                have hkB2 : (z : Int) < (B.size : Int) := by omega
                have hs3 : IntKind.i64.wrap ((A.size : Int) - 1 - (j : Int)) = (u : Int) := by rw [hu]; exact IntWalk.i64_in _ (by have := HAZ.out; omega)
                have hs4 : IntKind.i64.wrap ((B.size : Int) - 1 - (j : Int)) = (z : Int) := by rw [hz]; exact IntWalk.i64_in _ (by have := HBZ.out; omega)
                have hnn : x.toNat ≠ y.toNat := fun h => hne (UInt8.toNat_inj.1 h)
                have hn1 : ((x.toNat : Int) == (y.toNat : Int)) = false := by rw [beq_eq_false_iff_ne]; omega
                clear y1 y2 hd hu hz hrj hlj hne
                go_quiet (fail)
                go_wp2_with fail
                go_meet
                refine ⟨?_, _, by first | rfl | exact World.drewN_drewN _ _ _⟩
                rw [HD.out]
              · have hm1 : ¬ (j : Int) < ((min a.length b.length : Nat) : Int) - (k : Int) := by have := HK3.out; omega
                clear hd hlj
                go_quiet (fail)
                go_wp2_with fail
                go_meet
                refine ⟨?_, _, by first | rfl | exact World.drewN_drewN _ _ _⟩
                rw [HD.out]
          case rest =>
            obtain ⟨rfl, q4, rfl⟩ := hcut
            by_cases hlj : j < sufL a b
            · have hd : decide (j < sufL a b) = true := decide_eq_true hlj
              have hs5 : IntKind.i64.wrap ((j : Int) + 1) = (j : Int) + 1 := IntWalk.i64_in _ (by omega)
              go_wp2_with fail
              go_roundw
              case rel => exact ⟨j + 1, q4, by go_num, hlj, rfl⟩
              case measure => simp [intOf]; omega
            · have hd : decide (j < sufL a b) = false := decide_eq_false hlj
              have HJ2 := Lib.hid (show j = sufL a b by omega)
              rw [hd]
              go_wp2_with fail
              have hjl : j ≤ a.length ∧ j ≤ b.length ∧ k + j ≤ b.length := by have := HK3.out; have := HK2.out; omega
              obtain ⟨x, hx⟩ : ∃ x : Nat, a.length = x + j := ⟨a.length - j, by omega⟩
              obtain ⟨y, hy⟩ : ∃ y : Nat, b.length = k + y + j := ⟨b.length - j - k, by omega⟩
              have hc0 : ∀ W, Below w.heap.size w W → Calls Tryd.prog 61 #[.int .i64 0, .int .i64 (k : Int)] W fun e w' => e = .returned (.string (mk (copL 0 k))) ∧ Below W.heap.size W w' := fun W (h : Below w.heap.size w W) => copied_any 0 k W (by omega) (by omega) (Frame.tab_below (g := 12) (by kernel_rfl) h HT.out)
              have hc1 := fun W (h : Below w.heap.size w W) => insert_any ((b.drop k).take y) W (by rw [List.length_take, List.length_drop]; omega) (Frame.tab_below (g := 12) (by kernel_rfl) h HT.out)
              have hc2 := fun W (h : Below w.heap.size w W) => copied_any x j W (by omega) (by omega) (Frame.tab_below (g := 12) (by kernel_rfl) h HT.out)
              have hext : B.extract k (k + y) = mk ((b.drop k).take y) := mk_of (by
                rw [ext_mid, ← HB.out]
                congr 1; omega)
              have hz1 : IntKind.i64.wrap ((B.size : Int) - (j : Int)) = ((k + y : Nat) : Int) := by
                have h : (B.size : Int) - (j : Int) = ((k + y : Nat) : Int) := by have := HBZ.out; omega
                rw [h]; exact IntWalk.i64_in _ (by omega)
              have hz2 : IntKind.i64.wrap ((A.size : Int) - (j : Int)) = (x : Int) := by
                have h : (A.size : Int) - (j : Int) = (x : Int) := by have := HAZ.out; omega
                rw [h]; exact IntWalk.i64_in _ (by omega)
              have hky : k + y ≤ B.size := by have := HBZ.out; omega
              have hky2 : k ≤ k + y := by omega
              have hky3 : (k : Int) ≤ ((k + y : Nat) : Int) := by omega
              have hky4 : ((k + y : Nat) : Int) ≤ (B.size : Int) := by omega
              have hq1 := copL_le 0 k (by omega) (by omega)
              have hq2 : (insL ((b.drop k).take y)).length ≤ 200000 := by
                have h := insL_le ((b.drop k).take y) (by rw [List.length_take, List.length_drop]; omega)
                have h2 : ((b.drop k).take y).length ≤ y := by rw [List.length_take]; omega
                omega
              have hq3 := copL_le x j (by omega) (by omega)
              have HB0 := Lib.hid (below_draw (Below.refl w.heap.size w) (q4 + 1))
              have HC0 := Lib.hid hc0
              have HC1 := Lib.hid hc1
              have HC2 := Lib.hid hc2
              have HX := Lib.hid hx
              have HY := Lib.hid hy
              clear hc0 hc1 hc2 hx hy
              go_region_with (first
                | (go_at_call 61; (with_reducible refine (HC0.out (w.drewN (q4 + 1)) HB0.out).mono ?_); rintro e1 w1 ⟨rfl, hb1⟩; have hl1 := Lib.hid (HB0.out.trans (hb1.mono HB0.out.size)); clear hb1)
                | (go_at_call 62; (with_reducible refine (HC1.out _ hl1.out).mono ?_); rintro e2 w2 ⟨rfl, hb2⟩; have hl2 := Lib.hid (hl1.out.trans (hb2.mono hl1.out.size)); clear hb2)
                | (go_at_call 61; (with_reducible refine (HC2.out _ hl2.out).mono ?_); rintro e3 w3 ⟨rfl, hb3⟩; have hl3 := Lib.hid (hl2.out.trans (hb3.mono hl2.out.size)); clear hb3))
              all_goals (
                simp only [List.getElem_toArray, List.getElem_cons_succ, List.getElem_cons_zero, Act.put, List.setIfInBounds_toArray, List.set_cons_succ, List.set_cons_zero]
                have hparts : mk (copL 0 k) ++ mk (insL ((b.drop k).take y)) ++ mk (copL x j) = mk (partsL a b) := by
                  rw [mk_cat, mk_cat]
                  unfold partsL
                  have e1 := HK2.out
                  have e2 := HJ2.out
                  have e3 : b.length - sufL a b - preL a b = y := by have := HY.out; omega
                  have e4 : a.length - sufL a b = x := by have := HX.out; omega
                  rw [e3, e4, ← e1, ← e2]
                have hib : Calls Tryd.prog 62 #[.string B] w3 fun e w' => e = .returned (.string (mk (insL b))) ∧ Below w3.heap.size w3 w' := by
                  rw [← HB.out]
                  exact insert_any b w3 (by omega) (Frame.tab_below (g := 12) (by kernel_rfl) hl3.out HT.out)
                have HIB := Lib.hid hib
                rw [hparts]
                clear hparts hib hq1 hq2 hq3
                go_wp2_with fail
                (with_reducible refine HIB.out.mono ?_)
                rintro e4 w4 ⟨rfl, hb4⟩
                have hl4 := Lib.hid (hl3.out.trans (hb4.mono hl3.out.size))
                clear hb4
                by_cases hle : (insL b).length < (partsL a b).length
                · have hle2 : ((insL b).length : Int) < ((partsL a b).length : Int) := by omega
                  have hdl : deltaL a b = insL b := by unfold deltaL; rw [if_pos hle]
                  have HDL := Lib.hid hdl
                  clear hdl
                  go_wp2_with fail
                  go_ret
                  exact ⟨by rw [HDL.out]; rfl, hl4.out⟩
                · have hle2 : ¬ ((insL b).length : Int) < ((partsL a b).length : Int) := by omega
                  have hdl : deltaL a b = partsL a b := by unfold deltaL; rw [if_neg hle]
                  have HDL := Lib.hid hdl
                  clear hdl
                  go_wp2_with fail
                  go_ret
                  exact ⟨by rw [HDL.out]; rfl, hl4.out⟩)
end Pk
end Go.Proofs.YtmlndamkcipebaaDoor
