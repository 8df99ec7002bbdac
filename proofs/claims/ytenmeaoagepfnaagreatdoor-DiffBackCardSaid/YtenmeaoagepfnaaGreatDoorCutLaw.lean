/- A text cut at a byte: plain laws. -/
import Derived.Test.YtenmeaoagepfnaaGreatDoorNumPlain
import Derived.Lib.IndexMore
import Derived.Test.YtenmeaoagepfnaaGreatDoorA6
namespace Go.Proofs.YtenmeaoagepfnaaGreatDoor
open Go Go.RowKit Go.Shelf Lmd
namespace Tp
open Rul

theorem cut_miss {c : UInt8} {l : List UInt8} (h : c ∉ l) : Lib.cut l [c] = (l, [], false) := by
  have hx : Lib.index l [c] = -1 := (Lib.index_one l c).trans (ix_none h)
  simp [Lib.cut, hx]
theorem cut_hit {c : UInt8} {a r : List UInt8} (h : c ∉ a) : Lib.cut (a ++ c :: r) [c] = (a, r, true) := by
  have hx : Lib.index (a ++ c :: r) [c] = (a.length : Int) := (Lib.index_one _ c).trans (ix_some h)
  simp [Lib.cut, hx]
theorem split_at {c : UInt8} : ∀ {l : List UInt8}, c ∈ l → ∃ a r, l = a ++ c :: r ∧ c ∉ a
  | b :: l, h => by
    by_cases hb : b = c
    · exact ⟨[], l, by rw [hb]; rfl, by simp⟩
    · have h1 : c ∈ l := by
        rcases List.mem_cons.1 h with e | e
        · exact absurd e.symm hb
        · exact e
      obtain ⟨a, r, e, h2⟩ := split_at h1
      exact ⟨b :: a, r, by rw [e]; rfl, by simp [h2, Ne.symm hb]⟩

/-! a length at the beginning of a text -/
def lenOk (c : UInt8) (l : List UInt8) : Bool := (Lib.cut l [c]).2.2 && numOk (Lib.cut l [c]).1
def lenN (c : UInt8) (l : List UInt8) : Int := numIs (Lib.cut l [c]).1
def lenR (c : UInt8) (l : List UInt8) : List UInt8 := (Lib.cut l [c]).2.1
theorem num_of {l : List UInt8} (h : numOk l = true) : 0 ≤ numIs l ∧ numIs l < 1000000000 ∧ Lib.itoa (numIs l) = l := by
  unfold numOk numIs at *
  split at h
  · rename_i v hv
    simp only [Bool.and_eq_true, decide_eq_true_eq] at h
    obtain ⟨⟨h1, h2⟩, h3⟩ := h
    refine ⟨h2, ?_, h3⟩
    obtain ⟨u, rfl⟩ : ∃ u : Nat, v = (u : Int) := ⟨v.toNat, by omega⟩
    have h4 : (Lib.decDigits u).length ≤ 9 := by rw [← Lib.itoa_nonneg, h3]; exact h1
    have := dec_len_ge 9 u h4
    omega
  · cases h
theorem len_split {c : UInt8} {l : List UInt8} (h : lenOk c l = true) : l = Lib.itoa (lenN c l) ++ c :: lenR c l ∧ 0 ≤ lenN c l ∧ lenN c l < 1000000000 := by
  unfold lenOk lenN lenR at *
  simp only [Bool.and_eq_true] at h
  obtain ⟨h1, h2⟩ := num_of h.2
  obtain ⟨h2, h3⟩ := h2
  refine ⟨?_, h1, h2⟩
  rw [h3]
  by_cases hm : c ∈ l
  · obtain ⟨a, r, e, ha⟩ := split_at hm
    rw [e, cut_hit ha]
  · rw [cut_miss hm] at h
    exact absurd h.1 (by simp)
theorem len_of {c : UInt8} (hc : ¬ (48 ≤ c.toNat ∧ c.toNat ≤ 57)) {n : Int} (h0 : 0 ≤ n) (h1 : n < 1000000000) (r : List UInt8) : lenOk c (Lib.itoa n ++ c :: r) = true ∧ lenN c (Lib.itoa n ++ c :: r) = n ∧ lenR c (Lib.itoa n ++ c :: r) = r := by
  have hn := num_back n h0 h1
  have hf := itoa_free (n := n) h0 hc
  unfold lenOk lenN lenR
  rw [cut_hit hf]
  exact ⟨by simp [hn.1], hn.2, rfl⟩

/-! records -/
def recL (s : List UInt8) : List UInt8 := Lib.itoa (s.length : Int) ++ 58 :: (s ++ [10, 46])
def oneB (b : List UInt8) : Bool := lenOk 58 b && decide (lenN 58 b ≤ 10000) && decide (lenN 58 b + 2 ≤ ((lenR 58 b).length : Int)) && decide (((lenR 58 b).drop (lenN 58 b).toNat).take 2 = [10, 46])
def oneS (b : List UInt8) : List UInt8 := (lenR 58 b).take (lenN 58 b).toNat
theorem one_some {b : List UInt8} (h : oneB b = true) : (∃ r, b = recL (oneS b) ++ r) ∧ (oneS b).length ≤ 10000 ∧ ((oneS b).length : Int) = lenN 58 b := by
  simp only [oneB, Bool.and_eq_true, decide_eq_true_eq] at h
  obtain ⟨⟨⟨h1, h2⟩, h3⟩, h4⟩ := h
  obtain ⟨h5, h6, h7⟩ := len_split h1
  have hl : ((oneS b).length : Int) = lenN 58 b := by
    unfold oneS
    rw [List.length_take]; omega
  refine ⟨⟨((lenR 58 b).drop (lenN 58 b).toNat).drop 2, ?_⟩, by omega, hl⟩
  have h8 : lenR 58 b = oneS b ++ ([10, 46] ++ ((lenR 58 b).drop (lenN 58 b).toNat).drop 2) := by
    rw [← h4, List.take_append_drop]
    exact (List.take_append_drop _ _).symm
  unfold recL
  rw [hl]
  conv => lhs; rw [h5]
  conv => lhs; rw [h8]
  simp
theorem one_rec (s r : List UInt8) (hs : s.length ≤ 10000) : oneB (recL s ++ r) = true ∧ oneS (recL s ++ r) = s := by
  have e : recL s ++ r = Lib.itoa (s.length : Int) ++ 58 :: (s ++ ([10, 46] ++ r)) := by simp [recL]
  obtain ⟨h1, h2, h3⟩ := len_of (c := 58) (by decide) (n := (s.length : Int)) (by omega) (by omega) (s ++ ([10, 46] ++ r))
  rw [e]
  unfold oneB oneS
  rw [h1, h2, h3]
  constructor
  · simp; omega
  · simp
theorem recL_inj {s t : List UInt8} (hs : s.length ≤ 10000) (ht : t.length ≤ 10000) {p q : List UInt8} (h : recL s ++ p = recL t ++ q) : s = t ∧ p = q := by
  have h1 := (one_rec s p hs).2
  rw [h, (one_rec t q ht).2] at h1
  subst h1
  exact ⟨rfl, List.append_cancel_left h⟩
theorem one_pre {s p q : List UInt8} (hs : s.length ≤ 10000) (h : recL s = p ++ q) (hq : q ≠ []) : oneB p = false := by
  cases ho : oneB p with
  | false => rfl
  | true =>
    obtain ⟨⟨r, hr⟩, hl, _⟩ := one_some ho
    have : recL s ++ [] = recL (oneS p) ++ (r ++ q) := by rw [List.append_nil, h, ← List.append_assoc, ← hr]
    have h2 := (recL_inj hs hl this).2
    have : q = [] := by
      have := List.append_eq_nil_iff.1 h2.symm
      exact this.2
    exact absurd this hq
theorem recL_pos (s : List UInt8) : 4 ≤ (recL s).length := by
  have : 0 < (Lib.itoa (s.length : Int)).length := by
    rw [Lib.itoa_nonneg]; exact List.length_pos_iff.2 (dec_ne _)
  simp [recL]; omega
theorem recL_le (s : List UInt8) (hs : s.length ≤ 10000) : (recL s).length ≤ s.length + 8 := by
  have : (Lib.itoa (s.length : Int)).length ≤ 5 := by
    rw [Lib.itoa_nonneg]; exact dec_len_le 4 _ (by omega)
  simp [recL]; omega

/-- the records of a text, and how many bytes they have -/
def readT : Nat → List UInt8 → List (List UInt8) × Nat
  | 0, _ => ([], 0)
  | k + 1, b => if oneB b = true then (oneS b :: (readT k (b.drop (recL (oneS b)).length)).1, (recL (oneS b)).length + (readT k (b.drop (recL (oneS b)).length)).2) else ([], 0)
theorem readT_fuel : ∀ (k j : Nat) (b : List UInt8), b.length ≤ k → b.length ≤ j → readT k b = readT j b
  | 0, 0, _, _, _ => rfl
  | 0, j + 1, b, h, _ => by
    have : b = [] := List.length_eq_zero_iff.1 (by omega)
    subst this; rfl
  | k + 1, 0, b, _, h => by
    have : b = [] := List.length_eq_zero_iff.1 (by omega)
    subst this; rfl
  | k + 1, j + 1, b, h1, h2 => by
    simp only [readT]
    split
    · have := recL_pos (oneS b)
      rw [readT_fuel k j _ (by rw [List.length_drop]; omega) (by rw [List.length_drop]; omega)]
    · rfl
def readF (b : List UInt8) : List (List UInt8) × Nat := readT b.length b
theorem readF_no {b : List UInt8} (h : oneB b = false) : readF b = ([], 0) := by
  unfold readF
  cases hb : b.length with
  | zero => rfl
  | succ k => simp [readT, h]
theorem readF_yes (s r : List UInt8) (hs : s.length ≤ 10000) : readF (recL s ++ r) = (s :: (readF r).1, (recL s).length + (readF r).2) := by
  obtain ⟨h1, h2⟩ := one_rec s r hs
  have hp := recL_pos s
  obtain ⟨k, hk⟩ : ∃ k, (recL s ++ r).length = k + 1 := ⟨(recL s ++ r).length - 1, by simp; omega⟩
  unfold readF
  rw [hk]
  simp only [readT, h1, h2, if_true]
  have hd : (recL s ++ r).drop (recL s).length = r := by simp
  rw [hd, readT_fuel k r.length r (by simp at hk; omega) (Nat.le_refl _)]
/-- the records of texts -/
def recsL (l : List (List UInt8)) : List UInt8 := (l.map recL).flatten
theorem readF_recs : ∀ (l : List (List UInt8)) (b : List UInt8), (∀ s ∈ l, s.length ≤ 10000) → readF (recsL l ++ b) = (l ++ (readF b).1, (recsL l).length + (readF b).2)
  | [], b, _ => by simp [recsL]
  | s :: l, b, h => by
    have e : recsL (s :: l) ++ b = recL s ++ (recsL l ++ b) := by simp [recsL]
    rw [e, readF_yes s _ (h s (by simp)), readF_recs l b (fun t ht => h t (by simp [ht]))]
    have e2 : (recsL (s :: l)).length = (recL s).length + (recsL l).length := by simp [recsL]
    rw [e2]
    simp only [List.cons_append, Nat.add_assoc]
theorem readF_nil : readF [] = ([], 0) := rfl
theorem recsL_snoc (l : List (List UInt8)) (s : List UInt8) : recsL (l ++ [s]) = recsL l ++ recL s := by simp [recsL]
end Tp
end Go.Proofs.YtenmeaoagepfnaaGreatDoor
