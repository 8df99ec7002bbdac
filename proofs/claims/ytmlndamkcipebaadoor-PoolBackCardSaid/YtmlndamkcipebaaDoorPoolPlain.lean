/- Plain: a pool is read as it was written. -/
import Derived.Test.YtmlndamkcipebaaDoorPoolRead2
namespace Go.Proofs.YtmlndamkcipebaaDoor
open Go Go.RowKit Lmd
namespace Pl
open Rul Day Cand Tp Pk

theorem takeX_ent (s t : List UInt8) (hs : s.length ≤ 10000) : takeX (entL s ++ t) = (0, s, t) := by
  have e : entL s ++ t = Lib.itoa (s.length : Int) ++ 58 :: (s ++ 10 :: t) := by unfold entL; simp
  obtain ⟨h1, h2, h3⟩ := len_of (c := 58) (by decide) (n := (s.length : Int)) (by omega) (by omega) (s ++ 10 :: t)
  have hn : ((s.length : Int)).toNat = s.length := by simp
  have hg : (s ++ 10 :: t)[s.length]? = some 10 := by simp
  unfold takeX
  rw [e, h1, h2, h3, hn, if_pos rfl, if_neg (by omega), if_pos hg]
  have e1 : (s ++ 10 :: t).take s.length = s := by simp
  have e2 : (s ++ 10 :: t).drop (s.length + 1) = t := by
    have h := List.drop_append (l₁ := s) (l₂ := 10 :: t) (i := s.length + 1)
    rw [h, List.drop_eq_nil_of_le (by omega)]
    simp
  rw [e1, e2]
theorem put_new {xs : List (List UInt8)} {s : List UInt8} (hs : s.length ≤ 10000) (hn : s ∉ xs) (hf : xs.length < 1000) : putC xs s = 0 ∧ putN xs s = xs.length ∧ putL xs s = xs ++ [s] := by
  have h0 : ¬ 10000 < s.length := by omega
  have h1 : ¬ 1000 ≤ xs.length := by omega
  unfold putC putN putL
  simp only [if_neg h0, if_neg hn, if_neg h1]
  exact ⟨trivial, trivial, trivial⟩
theorem put_old {xs : List (List UInt8)} {s : List UInt8} (hs : s.length ≤ 10000) (hn : s ∈ xs) : putC xs s = 0 ∧ putN xs s = xs.idxOf s ∧ putL xs s = xs := by
  have h0 : ¬ 10000 < s.length := by omega
  unfold putC putN putL
  simp only [if_neg h0, if_pos hn]
  exact ⟨trivial, trivial, trivial⟩
theorem readF_ents : ∀ (ys xs : List (List UInt8)), (xs ++ ys).Nodup → (xs ++ ys).length ≤ 1000 → (∀ s ∈ ys, s.length ≤ 10000) → readF xs (entsL ys) = (0, xs ++ ys)
  | [], xs, _, _, _ => by
    have : entsL [] = [] := rfl
    rw [this, readF_nil, List.append_nil]
  | y :: ys, xs, hd, hl, hs => by
    have e : entsL (y :: ys) = entL y ++ entsL ys := by simp [entsL]
    have ht := takeX_ent y (entsL ys) (hs y (by simp))
    have hy : y ∉ xs := by
      intro h
      have := (List.nodup_append.1 hd).2.2 y h y (by simp)
      exact this rfl
    rw [List.length_append, List.length_cons] at hl
    obtain ⟨p1, _, p3⟩ := put_new (hs y (by simp)) hy (by omega)
    have hne : entL y ++ entsL ys ≠ [] := by unfold entL; simp
    have hf : freshC xs (takeX (entL y ++ entsL ys)).2.1 = 0 := by rw [ht]; unfold freshC; rw [if_neg hy, p1]
    rw [e, readF_step hne (by rw [ht]) hf, ht]
    show readF (putL xs y) (entsL ys) = _
    have e2 : xs ++ y :: ys = (xs ++ [y]) ++ ys := by simp
    rw [p3, e2]
    refine readF_ents ys (xs ++ [y]) (by rw [← e2]; exact hd) ?_ (fun s h => hs s (by simp [h]))
    rw [← e2, List.length_append, List.length_cons]; omega
/-- behind a put of a short text to a small pool -/
theorem put_any_num {xs : List (List UInt8)} {s : List UInt8} (hs : s.length ≤ 10000) (hf : xs.length < 1000) : putC xs s = 0 ∧ putN xs s = (putL xs s).idxOf s ∧ s ∈ putL xs s ∧ (∀ t ∈ xs, t ∈ putL xs s ∧ (putL xs s).idxOf t = xs.idxOf t) ∧ (putL xs s).length ≤ xs.length + 1 := by
  by_cases h : s ∈ xs
  · obtain ⟨h1, h2, h3⟩ := put_old hs h
    rw [h1, h2, h3]
    exact ⟨rfl, rfl, h, fun t ht => ⟨ht, rfl⟩, by omega⟩
  · obtain ⟨h1, h2, h3⟩ := put_new hs h hf
    rw [h1, h2, h3]
    refine ⟨rfl, ?_, by simp, fun t ht => ⟨by simp [ht], ?_⟩, by simp⟩
    · rw [List.idxOf_append, if_neg h]; simp
    · rw [List.idxOf_append, if_pos ht]
theorem idx_at : ∀ {xs : List (List UInt8)} {a : List UInt8}, a ∈ xs → xs[xs.idxOf a]? = some a
  | [], a, h => absurd h (by simp)
  | x :: xs, a, h => by
    by_cases e : x = a
    · subst e; simp
    · have hm : a ∈ xs := by
        rcases List.mem_cons.1 h with h | h
        · exact absurd h.symm e
        · exact h
      have hb : (x == a) = false := by simpa using e
      rw [List.idxOf_cons, hb]
      simpa using idx_at hm
theorem idx_inj {xs : List (List UInt8)} {a b : List UInt8} (ha : a ∈ xs) (hb : b ∈ xs) (h : xs.idxOf a = xs.idxOf b) : a = b := by
  have h1 : xs[xs.idxOf a]? = some a := idx_at ha
  have h2 : xs[xs.idxOf b]? = some b := idx_at hb
  rw [h, h2] at h1
  exact (Option.some.inj h1).symm
end Pl
end Go.Proofs.YtmlndamkcipebaaDoor
