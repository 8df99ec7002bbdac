/- package pool: Find, Fresh, Read. -/
import Derived.Test.YtmlndamkcipebaaDoorPoolTake
namespace Go.Proofs.YtmlndamkcipebaaDoor
open Go Go.RowKit Lmd
namespace Pl
open Rul Day Cand Tp Pk

set_option maxRecDepth 100000 in
theorem find_any (w : World) (base p m : Nat) (v : Value) (xs : List (List UInt8)) (s : List UInt8) (h : Is w base p v m xs) (hs0 : s.length ≤ 9223372036854775807) :
    Calls Tryd.prog 89 #[.pointer (some ⟨p, 0, none⟩), .string (mk s)] w fun er w' => (∃ c, er = .returned (.tuple #[.int .i64 c, .bool (decide (s ∈ xs))])) ∧ w' = w := by
  obtain ⟨D, hown, htl⟩ := h.map
  have k1 : w.cell? ⟨p, 1, none⟩ = some (.map (some m)) := cell_of h.row rfl
  have hkey := hkeyS (s := s) (by simpa [maxLen] using hs0)
  have hhas := htl.has s
  obtain ⟨q, hq⟩ : ∃ q, decide (s ∈ xs) = q := ⟨_, rfl⟩
  rw [hq] at hhas ⊢
  obtain ⟨S, hS⟩ : ∃ S, mk s = S := ⟨_, rfl⟩
  rw [hS] at hkey ⊢
  clear hS h htl hq
  go_enter Tryd.func89, Tryd.ntmps89
  go_wp2_with (at_lookup; refine wpList_lookup_own_ok_int _ rfl _ _ 101 rfl 9 3 .i64 lawS Tryd.underlying101 Tryd.underlying3 (zeroI _) m xs.length D rfl hown _ (ky s) rfl hkey ?_; intro c hat hwc; clear hat)
  go_ret2
  exact ⟨⟨_, rfl⟩, rfl⟩
/-- a fresh text's error -/
def freshC (xs : List (List UInt8)) (s : List UInt8) : Nat := if s ∈ xs then 6 else putC xs s
theorem putL_mem {xs : List (List UInt8)} {s : List UInt8} (h : s ∈ xs) : putL xs s = xs := by
  unfold putL
  simp [h]
set_option maxRecDepth 100000 in
theorem fresh_any (w : World) (base p m : Nat) (v : Value) (xs : List (List UInt8)) (s : List UInt8) (e : Nat → Addr) (h : Is w base p v m xs) (he : EL w e) (hs0 : s.length ≤ 9223372036854775807) :
    Calls Tryd.prog 59 #[.pointer (some ⟨p, 0, none⟩), .string (mk s)] w fun er w' => ∃ v', er = .returned (errV e (freshC xs s)) ∧ Is w' base p v' m (putL xs s) ∧ Far (fun k => k = p ∨ k = m ∨ some k = v.ownBlock) w w' ∧ (v'.ownBlock = v.ownBlock ∨ ∃ k, v'.ownBlock = some k ∧ w.heap.size ≤ k) := by
  have hf := find_any w base p m v xs s h hs0
  have hp := put_any w base p m v xs s e h he hs0
  have HF := Lib.hid hf
  have HP := Lib.hid hp
  have HE := Lib.hid he
  have H := Lib.hid h
  obtain ⟨S, hS⟩ : ∃ S, mk s = S := ⟨_, rfl⟩
  rw [hS] at HF HP ⊢
  clear hf hp he h hS
  by_cases hm : s ∈ xs
  · have hc : freshC xs s = 6 ∧ putL xs s = xs := ⟨by unfold freshC; rw [if_pos hm], putL_mem hm⟩
    have hd : decide (s ∈ xs) = true := decide_eq_true hm
    rw [hd] at HF
    have cE := HE.out.s5.cell
    have HC := Lib.hid hc
    clear hc hm hd HP
    go_enter Tryd.func59, Tryd.ntmps59
    go_wp2_with fail
    (with_reducible refine HF.out.mono ?_)
    rintro e1 w1 ⟨⟨c, rfl⟩, rfl⟩
    go_wp2
    go_ret
    rw [HC.out.1, HC.out.2]
    exact ⟨v, rfl, H.out, Far.refl _ _, .inl rfl⟩
  · have hc : freshC xs s = putC xs s := by unfold freshC; rw [if_neg hm]
    have hd : decide (s ∈ xs) = false := decide_eq_false hm
    rw [hd] at HF
    have HC := Lib.hid hc
    clear hc hm hd
    go_enter Tryd.func59, Tryd.ntmps59
    go_wp2_with fail
    (with_reducible refine HF.out.mono ?_)
    rintro e1 w1 ⟨⟨c, rfl⟩, rfl⟩
    go_wp2_with fail
    (with_reducible refine HP.out.mono ?_)
    rintro e2 w2 ⟨v', rfl, h1, h2, h3⟩
    have HH := Lib.hid (And.intro h1 (And.intro h2 h3))
    clear h1 h2 h3
    go_wp2
    go_ret
    rw [HC.out]
    exact ⟨v', rfl, HH.out.1, HH.out.2.1, HH.out.2.2⟩
/-- a pool is read: the error's number, the texts till then -/
def readT : Nat → List (List UInt8) → List UInt8 → Nat × List (List UInt8)
  | 0, xs, _ => (0, xs)
  | k + 1, xs, l => if l = [] then (0, xs) else if (takeX l).1 ≠ 0 then ((takeX l).1, xs) else if freshC xs (takeX l).2.1 ≠ 0 then (freshC xs (takeX l).2.1, xs) else readT k (putL xs (takeX l).2.1) (takeX l).2.2
theorem takeX_len {l : List UInt8} (h : (takeX l).1 = 0) : (takeX l).2.2.length < l.length ∧ (takeX l).2.1.length ≤ 10000 := by
  unfold takeX at h ⊢
  split at h
  · rename_i h1
    split at h
    · cases h
    · rename_i h2
      split at h
      · rename_i h3
        have hl := lenR_le 58 l
        have hi := (List.getElem?_eq_some_iff.1 h3).1
        rw [if_pos h1, if_neg h2, if_pos h3]
        have h0 := (len_split h1).2.1
        simp only [List.length_drop, List.length_take]
        omega
      · cases h
  · cases h
theorem readT_fuel : ∀ (k j : Nat) (xs : List (List UInt8)) (l : List UInt8), l.length ≤ k → l.length ≤ j → readT k xs l = readT j xs l
  | 0, j, xs, l, h, _ => by
    have : l = [] := List.length_eq_zero_iff.1 (by omega)
    subst this
    cases j <;> rfl
  | k + 1, 0, xs, l, _, h => by
    have : l = [] := List.length_eq_zero_iff.1 (by omega)
    subst this; rfl
  | k + 1, j + 1, xs, l, h1, h2 => by
    simp only [readT]
    split
    · rfl
    · split
      · rfl
      · split
        · rfl
        · rename_i h3 h4 h5
          have := (takeX_len (l := l) (by simpa using h4)).1
          exact readT_fuel k j _ _ (by omega) (by omega)
def readF (xs : List (List UInt8)) (l : List UInt8) : Nat × List (List UInt8) := readT l.length xs l
theorem readF_nil (xs : List (List UInt8)) : readF xs [] = (0, xs) := rfl
theorem readF_step {xs : List (List UInt8)} {l : List UInt8} (hl : l ≠ []) (h1 : (takeX l).1 = 0) (h2 : freshC xs (takeX l).2.1 = 0) : readF xs l = readF (putL xs (takeX l).2.1) (takeX l).2.2 := by
  have hk := (takeX_len h1).1
  obtain ⟨x, r, rfl⟩ := List.exists_cons_of_ne_nil hl
  show readT (r.length + 1) xs (x :: r) = _
  simp only [readT, reduceCtorEq, if_false, h1, h2, ne_eq, not_true_eq_false]
  rw [List.length_cons] at hk
  exact readT_fuel _ _ _ _ (by omega) (Nat.le_refl _)
theorem readF_bad1 {xs : List (List UInt8)} {l : List UInt8} (hl : l ≠ []) (h1 : (takeX l).1 ≠ 0) : readF xs l = ((takeX l).1, xs) := by
  obtain ⟨x, r, rfl⟩ := List.exists_cons_of_ne_nil hl
  show readT (r.length + 1) xs (x :: r) = _
  simp only [readT, reduceCtorEq, if_false, ne_eq, h1, not_false_eq_true, if_true]
theorem readF_bad2 {xs : List (List UInt8)} {l : List UInt8} (hl : l ≠ []) (h1 : (takeX l).1 = 0) (h2 : freshC xs (takeX l).2.1 ≠ 0) : readF xs l = (freshC xs (takeX l).2.1, xs) := by
  obtain ⟨x, r, rfl⟩ := List.exists_cons_of_ne_nil hl
  show readT (r.length + 1) xs (x :: r) = _
  simp only [readT, reduceCtorEq, if_false, ne_eq, h1, h2, not_true_eq_false, not_false_eq_true, if_true]
end Pl
end Go.Proofs.YtmlndamkcipebaaDoor
