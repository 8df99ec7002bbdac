/- Events, in plain Lean: what one is, what is wrong with one, its days. -/
import Derived.Test.YtkhkhbeolhhomaaGreatDoorRuleText
import Derived.Lib.SlTrimSet
import Derived.Shelf.GgClosure.StringsIndexFunc
namespace Go.Proofs.YtkhkhbeolhhomaaGreatDoor
open Go Go.RowKit Lmd
namespace Evt
open Rul Day Cand

/-- an event's fields -/
structure Ev where
  (id ti : ByteArray) (st lg : Int) (ru : Ru) (sk : List Int) (mv : List (Int × Int))
/-- the letters of a name -/
def az : List UInt8 := [97, 98, 99, 100, 101, 102, 103, 104, 105, 106, 107, 108, 109, 110, 111, 112, 113, 114, 115, 116, 117, 118, 119, 120, 121, 122, 48, 49, 50, 51, 52, 53, 54, 55, 56, 57]
def nameB (s : ByteArray) : Bool := decide (s.size ≠ 0) && decide (s.size ≤ 12) && s.data.toList.all (az.contains ·)
/-- a byte of a title -/
def okC (c : UInt8) : Bool := decide (32 ≤ c.toNat) && decide (c.toNat ≤ 126) && decide (c.toNat ≠ 124)
/-- a rune that no title has -/
def badR (r : Nat) : Bool := decide (r < 32) || decide (126 < r) || decide (r = 124)
def titleB (s : ByteArray) : Bool := decide (s.size ≤ 40) && s.data.toList.all okC
def rightB (d : Int) : Bool := inB d 0 73048
def froms (l : List (Int × Int)) : List Int := l.map Prod.fst
/-- what is wrong with the lists: 0: nothing -/
def badL (e : Ev) : Nat :=
  if 20 < e.sk.length ∨ 20 < e.mv.length then 7
  else if (riseB e.sk && riseB (froms e.mv)) = false then 8
  else if (e.sk.all rightB && e.mv.all fun m => rightB m.1 && rightB m.2) = false then 2
  else if (froms e.mv).any (e.sk.contains ·) = true then 6 else 0
/-- what is wrong with an event: 0: nothing -/
def badE (e : Ev) : Nat :=
  if nameB e.id = false then 4 else if titleB e.ti = false then 1
  else if (rightB e.st && inB e.lg 1 60) = false then 2
  else if bad e.ru ≠ 0 then bad e.ru else badL e

theorem dropWhile_nil {α : Type} {p : α → Bool} : ∀ {l : List α}, l.dropWhile p = [] ↔ ∀ x ∈ l, p x = true
  | [] => by simp
  | a :: l => by
    rw [List.dropWhile_cons]
    cases ha : p a with
    | false => simp [ha]
    | true => simp [ha, dropWhile_nil (l := l)]
theorem dropWhile_head {α : Type} {p : α → Bool} : ∀ {l t : List α} {a : α}, l.dropWhile p = a :: t → p a = false
  | [], _, _, h => by simp at h
  | b :: l, t, a, h => by
    rw [List.dropWhile_cons] at h
    cases hb : p b with
    | false => rw [hb] at h; simp at h; rw [← h.1]; exact hb
    | true => rw [hb] at h; simp at h; exact dropWhile_head h
/-- nothing is left just where all is trimmed away -/
theorem trim_nil (l cs : List UInt8) : Lib.trimS l cs = [] ↔ ∀ c ∈ l, cs.contains c = true := by
  unfold Lib.trimS Lib.trimLeftS Lib.trimRightS
  rw [dropWhile_nil]
  constructor
  · intro h
    rcases hd : l.reverse.dropWhile (cs.contains ·) with _ | ⟨a, t⟩
    · intro c hc
      exact dropWhile_nil.1 hd c (by simpa using hc)
    · exfalso
      have h1 := dropWhile_head hd
      rw [hd] at h
      have h2 := h a (by simp)
      rw [h1] at h2; cases h2
  · intro h c hc
    have hn : l.reverse.dropWhile (cs.contains ·) = [] := dropWhile_nil.2 (fun x hx => h x (by simpa using hx))
    rw [hn] at hc; simp at hc
/-- a decoder's rune at a byte beyond ASCII is beyond ASCII -/
theorem decode_high (s : ByteArray) (i : Nat) (h : 128 ≤ (s.get! i).toNat) : 128 ≤ (Utf8.decode s i).1 := by
  have h0 : ¬ (s.get! (i + 0)).toNat < 128 := by simpa using h
  unfold Utf8.decode
  simp only [h0, if_false]
  split
  · split
    · rename_i h2; exact h2
    · decide
  · split
    · split
      · rename_i h2
        have := h2
        simp only [Bool.and_eq_true, decide_eq_true_eq] at this
        show 128 ≤ _
        omega
      · decide
    · split
      · split
        · rename_i h2
          have := h2
          simp only [Bool.and_eq_true, decide_eq_true_eq] at this
          show 128 ≤ _
          omega
        · decide
      · decide
theorem decode_low (s : ByteArray) (i : Nat) (h : (s.get! i).toNat < 128) : Utf8.decode s i = ((s.get! i).toNat, 1) := by
  have h0 : (s.get! (i + 0)).toNat < 128 := by simpa using h
  exact if_pos h0
theorem okC_badR (c : UInt8) (h : c.toNat < 128) : badR c.toNat = !okC c := by
  unfold badR okC
  rw [Bool.eq_iff_iff]
  simp only [Bool.or_eq_true, Bool.not_eq_true', ← Bool.not_eq_true, Bool.and_eq_true, decide_eq_true_eq]
  omega
theorem okC_high (c : UInt8) (h : 128 ≤ c.toNat) : okC c = false := by
  unfold okC
  rw [decide_eq_false (show ¬ c.toNat ≤ 126 by omega)]; simp
theorem badR_high {r : Nat} (h : 128 ≤ r) : badR r = true := by
  unfold badR
  rw [decide_eq_true (show 126 < r by omega)]; simp
theorem title_from (s : ByteArray) : ∀ (f pos : Nat), s.size ≤ pos + f → (Lib.idxFuncFrom badR true s f pos = -1 ↔ ∀ j, pos ≤ j → j < s.size → okC (s.get! j) = true)
  | 0, pos, h => by simp only [Lib.idxFuncFrom, true_iff]; intro j h1 h2; omega
  | f + 1, pos, h => by
    unfold Lib.idxFuncFrom
    by_cases hp : pos < s.size
    · rw [if_pos hp]
      by_cases hc : (s.get! pos).toNat < 128
      · rw [decode_low s pos hc]
        dsimp only
        rw [okC_badR _ hc]
        cases ho : okC (s.get! pos) with
        | false =>
          simp only [Bool.not_false, if_true]
          constructor
          · intro h2; omega
          · intro h2; rw [h2 pos (Nat.le_refl _) hp] at ho; cases ho
        | true =>
          simp only [Bool.not_true, Bool.false_eq_true, if_false]
          rw [title_from s f (pos + 1) (by omega)]
          constructor
          · intro h2 j h3 h4
            by_cases hj : j = pos
            · rw [hj]; exact ho
            · exact h2 j (by omega) h4
          · intro h2 j h3 h4; exact h2 j (by omega) h4
      · have hh := decode_high s pos (by omega)
        rw [if_pos (badR_high hh)]
        constructor
        · intro h2; omega
        · intro h2
          have := h2 pos (Nat.le_refl _) hp
          rw [okC_high _ (by omega)] at this; cases this
    · rw [if_neg hp]
      simp only [true_iff]
      intro j h1 h2; omega
/-- a title has no bad rune just where all its bytes are good ones -/
theorem title_iff (s : ByteArray) : decide (0 ≤ Lib.idxFunc badR true s) = !s.data.toList.all okC := by
  have hr := Lib.idxFunc_range badR true s
  have hf := title_from s s.size 0 (by omega)
  have hg : ∀ j, j < s.size → s.get! j = s.data.toList.getD j 0 := fun j hj => by
    cases s with
    | mk a =>
      simp only [ByteArray.get!, ByteArray.size] at *
      simp [hj]
  rw [Bool.eq_iff_iff, decide_eq_true_eq, Bool.not_eq_true', ← Bool.not_eq_true, List.all_eq_true]
  constructor
  · intro h1 h2
    have h3 : Lib.idxFunc badR true s = -1 := hf.2 (fun j _ hj => by
      rw [hg j hj]
      refine h2 _ ?_
      have hj' : j < s.data.toList.length := by simpa using hj
      rw [List.getD_eq_getElem?_getD, List.getElem?_eq_getElem hj', Option.getD_some]
      exact List.getElem_mem hj')
    omega
  · intro h1
    rcases hr with h2 | h2
    · exfalso
      refine h1 (fun x hx => ?_)
      obtain ⟨j, hj, rfl⟩ := List.getElem_of_mem hx
      have hj' : j < s.size := by simpa using hj
      have h3 := hf.1 h2 j (Nat.zero_le _) hj'
      rw [hg j hj', List.getD_eq_getElem?_getD, List.getElem?_eq_getElem hj, Option.getD_some] at h3
      exact h3
    · exact h2.1
end Evt
end Go.Proofs.YtkhkhbeolhhomaaGreatDoor
