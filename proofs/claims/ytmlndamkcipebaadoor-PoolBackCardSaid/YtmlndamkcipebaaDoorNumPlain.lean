/- Plain: pieces of words that are joined; numerals that are read. -/
import Derived.Test.YtmlndamkcipebaaDoorSplitSeq
import Derived.Test.YtmlndamkcipebaaDoorRuleNumber
namespace Go.Proofs.YtmlndamkcipebaaDoor
open Go Go.RowKit Go.Shelf Lmd
namespace Rul
open Er Day Cand

/-! pieces of words that are joined -/
theorem ix_none {c : UInt8} : ∀ {l : List UInt8}, c ∉ l → Lib.indexByte l c = -1
  | [], _ => rfl
  | b :: l, h => by
    have h1 : ¬ b = c := fun e => h (by simp [e])
    have h2 := ix_none (l := l) (fun e => h (List.mem_cons_of_mem _ e))
    simp [Lib.indexByte, h1, h2]
theorem ix_some {c : UInt8} {r : List UInt8} : ∀ {a : List UInt8}, c ∉ a → Lib.indexByte (a ++ c :: r) c = (a.length : Int)
  | [], _ => by simp [Lib.indexByte]
  | b :: a, h => by
    have h1 : ¬ b = c := fun e => h (by simp [e])
    have h2 := ix_some (r := r) (a := a) (fun e => h (List.mem_cons_of_mem _ e))
    have h3 : ¬ ((a.length : Int) = -1) := by omega
    simp [Lib.indexByte, h1, h2, h3]
abbrev mk (l : List UInt8) : ByteArray := ⟨l.toArray⟩
theorem mk_of {s : ByteArray} {l : List UInt8} (h : s.data.toList = l) : s = mk l := by rw [str_mk s, h]
theorem mk_inj {a b : List UInt8} (h : mk a = mk b) : a = b := by simpa [mk] using h
theorem pieces_last {c : UInt8} {l : List UInt8} (h : c ∉ l) : pieces c (mk l) = [mk l] := pieces_miss (ix_none h)
theorem pieces_more {c : UInt8} {a r : List UInt8} (h : c ∉ a) : pieces c (mk (a ++ c :: r)) = mk a :: pieces c (mk r) := by
  have hz : (mk (a ++ c :: r)).size = a.length + 1 + r.length := by simp [ByteArray.size]; omega
  rw [pieces_hit (ix_some (r := r) h)]
  have e1 : (mk (a ++ c :: r)).extract 0 a.length = mk a := mk_of (by rw [ext_take]; simp)
  have e2 : (mk (a ++ c :: r)).extract (a.length + 1) (mk (a ++ c :: r)).size = mk r := mk_of (by
    rw [ext_mid, hz]
    have : a.length + 1 + r.length - (a.length + 1) = r.length := by omega
    rw [this]
    simp)
  rw [e1, e2]
theorem pieces_join {c : UInt8} : ∀ {x : List UInt8} {xs : List (List UInt8)}, (∀ y ∈ x :: xs, c ∉ y) → pieces c (mk (Lib.join (x :: xs) [c])) = (x :: xs).map mk
  | x, [], h => by
    have : Lib.join [x] [c] = x := by simp [Lib.join]
    rw [this, pieces_last (h x (by simp))]; rfl
  | x, y :: ys, h => by
    have : Lib.join (x :: y :: ys) [c] = x ++ c :: Lib.join (y :: ys) [c] := by unfold Lib.join; rw [List.intercalate_cons_cons]; simp
    rw [this, pieces_more (h x (by simp)), pieces_join (fun z hz => h z (by simp at hz ⊢; exact .inr hz))]
    rfl

/-! numerals -/
theorem dec_len_le : ∀ (k u : Nat), u < 10 ^ (k + 1) → (Lib.decDigits u).length ≤ k + 1
  | 0, u, h => by
    unfold Lib.decDigits
    rw [dif_pos (by omega)]; simp
  | k + 1, u, h => by
    unfold Lib.decDigits
    split
    · simp
    · have := dec_len_le k (u / 10) (by rw [Nat.pow_succ] at h; omega)
      simp; omega
theorem dec_len_ge : ∀ (k u : Nat), (Lib.decDigits u).length ≤ k → u < 10 ^ k
  | 0, u, h => by
    have : Lib.decDigits u = [] := List.length_eq_zero_iff.1 (by omega)
    unfold Lib.decDigits at this
    split at this <;> simp at this
  | k + 1, u, h => by
    unfold Lib.decDigits at h
    split at h
    · have : 0 < 10 ^ k := Nat.pow_pos (by omega)
      rw [Nat.pow_succ]; omega
    · simp at h
      have := dec_len_ge k (u / 10) (by omega)
      rw [Nat.pow_succ]; omega
theorem dec_dig (u : Nat) : ∀ c ∈ Lib.decDigits u, 48 ≤ c.toNat ∧ c.toNat ≤ 57 := by
  induction u using Nat.strongRecOn with
  | ind u ih =>
    intro c hc
    unfold Lib.decDigits at hc
    split at hc
    · rw [List.mem_singleton] at hc; subst hc
      rw [UInt8.toNat_ofNat']; omega
    · rw [List.mem_append] at hc
      rcases hc with hc | hc
      · exact ih (u / 10) (by omega) c hc
      · rw [List.mem_singleton] at hc; subst hc
        rw [UInt8.toNat_ofNat']; omega
theorem parse_snoc (c : UInt8) (hc : 48 ≤ c.toNat ∧ c.toNat ≤ 57) : ∀ (l : List UInt8) (acc v : Nat), Lib.parseUint10 acc l = .ok v → v < 1000000000 → Lib.parseUint10 acc (l ++ [c]) = .ok (v * 10 + (c.toNat - 48))
  | [], acc, v, h, hv => by
    simp only [Lib.parseUint10] at h
    cases h
    simp only [List.nil_append, Lib.parseUint10]
    rw [if_pos hc, if_neg (by omega), if_neg (by omega)]
  | b :: l, acc, v, h, hv => by
    simp only [List.cons_append, Lib.parseUint10] at h ⊢
    split
    · rename_i h1
      rw [if_pos h1] at h
      split
      · rename_i h2; rw [if_pos h2] at h; cases h
      · rename_i h2; rw [if_neg h2] at h
        split
        · rename_i h3; rw [if_pos h3] at h; cases h
        · rename_i h3; rw [if_neg h3] at h
          exact parse_snoc c hc l _ v h hv
    · rename_i h1; rw [if_neg h1] at h; cases h
theorem parse_dec (u : Nat) (hu : u < 1000000000) : Lib.parseUint10 0 (Lib.decDigits u) = .ok u := by
  induction u using Nat.strongRecOn with
  | ind u ih =>
    unfold Lib.decDigits
    split
    · rename_i h
      have : (UInt8.ofNat (48 + u)).toNat = 48 + u := by rw [UInt8.toNat_ofNat']; omega
      simp only [Lib.parseUint10, this]
      rw [if_pos (by omega), if_neg (by omega), if_neg (by omega)]
      simp
    · have hd : (UInt8.ofNat (48 + u % 10)).toNat = 48 + u % 10 := by rw [UInt8.toNat_ofNat']; omega
      rw [parse_snoc _ (by rw [hd]; omega) _ _ _ (ih (u / 10) (by omega) (by omega)) (by omega), hd]
      congr 1; omega
theorem dec_ne (u : Nat) : Lib.decDigits u ≠ [] := by
  unfold Lib.decDigits
  split <;> simp
theorem num_back (n : Int) (h0 : 0 ≤ n) (h1 : n < 1000000000) : numOk (Lib.itoa n) = true ∧ numIs (Lib.itoa n) = n := by
  obtain ⟨u, rfl⟩ : ∃ u : Nat, n = (u : Int) := ⟨n.toNat, by omega⟩
  have hu : u < 1000000000 := by omega
  have ha : Lib.atoiAll (Lib.itoa u) = .ok (u : Int) := by
    rw [Lib.itoa_nonneg]
    have hp := parse_dec u hu
    have hd := dec_dig u
    cases hl : Lib.decDigits u with
    | nil => exact absurd hl (dec_ne u)
    | cons c r =>
      rw [hl] at hp hd
      have hc := hd c (by simp)
      unfold Lib.atoiAll
      simp only
      rw [if_neg (by omega)]
      simp only [Lib.parseMag, hp]
      rw [if_neg (by simp)]
      simp only
      rw [if_neg (by omega), if_neg (by omega), if_neg (by omega)]
  have hlen := dec_len_le 8 u (by omega)
  rw [← Lib.itoa_nonneg] at hlen
  unfold numOk numIs
  rw [ha]
  simp; omega
theorem itoa_free {n : Int} {c : UInt8} (h0 : 0 ≤ n) (hc : ¬ (48 ≤ c.toNat ∧ c.toNat ≤ 57)) : c ∉ Lib.itoa n := by
  obtain ⟨u, rfl⟩ : ∃ u : Nat, n = (u : Int) := ⟨n.toNat, by omega⟩
  rw [Lib.itoa_nonneg]
  exact fun h => hc (dec_dig u c h)

end Rul
end Go.Proofs.YtmlndamkcipebaaDoor
