/- EvPlain, BkPlain, OpenRule: texts joined. -/
import Derived.Test.YtghkalamlcfnnaaGreatDoorQRuleText
import Derived.Lib.SlTrimSet
import Derived.Shelf.GgClosure.StringsIndexFunc
import Derived.Lib.SmallJoins
import Derived.ChangeSlices
import Derived.Deep.Slices
import Derived.Deep.Fields
import Derived.ChangeSame
import Derived.DataShut
import Derived.Shelf.SlicesE.IndexFunc
import Derived.Shelf.SlicesQ.IndexFunc
import Derived.Lib.SliceRun
import Derived.OwnWalk
import Derived.Shelf.Strings.SlTrimAscii
import Derived.Shelf.GgClosure.StringsIndexFuncTop
section
section
namespace Go.Proofs.YtghkalamlcfnnaaGreatDoor
open Go Go.RowKit Lmd
namespace Evt
open Rul Day Cand
structure Ev where
  (id ti : ByteArray) (st lg : Int) (ru : Ru) (sk : List Int) (mv : List (Int × Int))
def az : List UInt8 := [97, 98, 99, 100, 101, 102, 103, 104, 105, 106, 107, 108, 109, 110, 111, 112, 113, 114, 115, 116, 117, 118, 119, 120, 121, 122, 48, 49, 50, 51, 52, 53, 54, 55, 56, 57]
def nameB (s : ByteArray) : Bool := decide (s.size ≠ 0) && decide (s.size ≤ 12) && s.data.toList.all (az.contains ·)
def okC (c : UInt8) : Bool := decide (32 ≤ c.toNat) && decide (c.toNat ≤ 126) && decide (c.toNat ≠ 124)
def badR (r : Nat) : Bool := decide (r < 32) || decide (126 < r) || decide (r = 124)
def titleB (s : ByteArray) : Bool := decide (s.size ≤ 40) && s.data.toList.all okC
def rightB (d : Int) : Bool := inB d 0 73048
def froms (l : List (Int × Int)) : List Int := l.map Prod.fst
def badL (e : Ev) : Nat :=
  if 20 < e.sk.length ∨ 20 < e.mv.length then 7
  else if (riseB e.sk && riseB (froms e.mv)) = false then 8
  else if (e.sk.all rightB && e.mv.all fun m => rightB m.1 && rightB m.2) = false then 2
  else if (froms e.mv).any (e.sk.contains ·) = true then 6 else 0
def badE (e : Ev) : Nat :=
  if nameB e.id = false then 4 else if titleB e.ti = false then 1
  else if (rightB e.st && inB e.lg 1 60) = false then 2
  else if bad e.ru ≠ 0 then bad e.ru else badL e
theorem dropWhile_nil {α : Type} {p : α → Bool} : ∀ {l : List α}, l.dropWhile p = [] ↔ ∀ x ∈ l, p x = true
  | [] => by simp
  | a :: l => by
    rw [List.dropWhile_cons]
    cases ha : p a with
    | false => simp [ha]
    | true => simp [ha, dropWhile_nil (l := l)]
theorem dropWhile_head {α : Type} {p : α → Bool} : ∀ {l t : List α} {a : α}, l.dropWhile p = a :: t → p a = false
  | [], _, _, h => by simp at h
  | b :: l, t, a, h => by
    rw [List.dropWhile_cons] at h
    cases hb : p b with
    | false => rw [hb] at h; simp at h; rw [← h.1]; exact hb
    | true => rw [hb] at h; simp at h; exact dropWhile_head h
theorem trim_nil (l cs : List UInt8) : Lib.trimS l cs = [] ↔ ∀ c ∈ l, cs.contains c = true := by
  unfold Lib.trimS Lib.trimLeftS Lib.trimRightS
  rw [dropWhile_nil]
  constructor
  · intro h
    rcases hd : l.reverse.dropWhile (cs.contains ·) with _ | ⟨a, t⟩
    · intro c hc
      exact dropWhile_nil.1 hd c (by simpa using hc)
    · exfalso
      have h1 := dropWhile_head hd
      rw [hd] at h
      have h2 := h a (by simp)
      rw [h1] at h2; cases h2
  · intro h c hc
    have hn : l.reverse.dropWhile (cs.contains ·) = [] := dropWhile_nil.2 (fun x hx => h x (by simpa using hx))
    rw [hn] at hc; simp at hc
theorem decode_high (s : ByteArray) (i : Nat) (h : 128 ≤ (s.get! i).toNat) : 128 ≤ (Utf8.decode s i).1 := by
  have h0 : ¬ (s.get! (i + 0)).toNat < 128 := by simpa using h
  unfold Utf8.decode
  simp only [h0, if_false]
  split
  · split
    · rename_i h2; exact h2
    · decide
  · split
    · split
      · rename_i h2
        have := h2
        simp only [Bool.and_eq_true, decide_eq_true_eq] at this
        show 128 ≤ _
        omega
      · decide
    · split
      · split
        · rename_i h2
          have := h2
          simp only [Bool.and_eq_true, decide_eq_true_eq] at this
          show 128 ≤ _
          omega
        · decide
      · decide
theorem decode_low (s : ByteArray) (i : Nat) (h : (s.get! i).toNat < 128) : Utf8.decode s i = ((s.get! i).toNat, 1) := by
  have h0 : (s.get! (i + 0)).toNat < 128 := by simpa using h
  exact if_pos h0
theorem okC_badR (c : UInt8) (h : c.toNat < 128) : badR c.toNat = !okC c := by
  unfold badR okC
  rw [Bool.eq_iff_iff]
  simp only [Bool.or_eq_true, Bool.not_eq_true', ← Bool.not_eq_true, Bool.and_eq_true, decide_eq_true_eq]
  omega
theorem okC_high (c : UInt8) (h : 128 ≤ c.toNat) : okC c = false := by
  unfold okC
  rw [decide_eq_false (show ¬ c.toNat ≤ 126 by omega)]; simp
theorem badR_high {r : Nat} (h : 128 ≤ r) : badR r = true := by
  unfold badR
  rw [decide_eq_true (show 126 < r by omega)]; simp
theorem title_from (s : ByteArray) : ∀ (f pos : Nat), s.size ≤ pos + f → (Lib.idxFuncFrom badR true s f pos = -1 ↔ ∀ j, pos ≤ j → j < s.size → okC (s.get! j) = true)
  | 0, pos, h => by simp only [Lib.idxFuncFrom, true_iff]; intro j h1 h2; omega
  | f + 1, pos, h => by
    unfold Lib.idxFuncFrom
    by_cases hp : pos < s.size
    · rw [if_pos hp]
      by_cases hc : (s.get! pos).toNat < 128
      · rw [decode_low s pos hc]
        dsimp only
        rw [okC_badR _ hc]
        cases ho : okC (s.get! pos) with
        | false =>
          simp only [Bool.not_false, if_true]
          constructor
          · intro h2; omega
          · intro h2; rw [h2 pos (Nat.le_refl _) hp] at ho; cases ho
        | true =>
          simp only [Bool.not_true, Bool.false_eq_true, if_false]
          rw [title_from s f (pos + 1) (by omega)]
          constructor
          · intro h2 j h3 h4
            by_cases hj : j = pos
            · rw [hj]; exact ho
            · exact h2 j (by omega) h4
          · intro h2 j h3 h4; exact h2 j (by omega) h4
      · have hh := decode_high s pos (by omega)
        rw [if_pos (badR_high hh)]
        constructor
        · intro h2; omega
        · intro h2
          have := h2 pos (Nat.le_refl _) hp
          rw [okC_high _ (by omega)] at this; cases this
    · rw [if_neg hp]
      simp only [true_iff]
      intro j h1 h2; omega
theorem title_iff (s : ByteArray) : decide (0 ≤ Lib.idxFunc badR true s) = !s.data.toList.all okC := by
  have hr := Lib.idxFunc_range badR true s
  have hf := title_from s s.size 0 (by omega)
  have hg : ∀ j, j < s.size → s.get! j = s.data.toList.getD j 0 := fun j hj => by
    cases s with
    | mk a =>
      simp only [ByteArray.get!, ByteArray.size] at *
      simp [hj]
  rw [Bool.eq_iff_iff, decide_eq_true_eq, Bool.not_eq_true', ← Bool.not_eq_true, List.all_eq_true]
  constructor
  · intro h1 h2
    have h3 : Lib.idxFunc badR true s = -1 := hf.2 (fun j _ hj => by
      rw [hg j hj]
      refine h2 _ ?_
      have hj' : j < s.data.toList.length := by simpa using hj
      rw [List.getD_eq_getElem?_getD, List.getElem?_eq_getElem hj', Option.getD_some]
      exact List.getElem_mem hj')
    omega
  · intro h1
    rcases hr with h2 | h2
    · exfalso
      refine h1 (fun x hx => ?_)
      obtain ⟨j, hj, rfl⟩ := List.getElem_of_mem hx
      have hj' : j < s.size := by simpa using hj
      have h3 := hf.1 h2 j (Nat.zero_le _) hj'
      rw [hg j hj', List.getD_eq_getElem?_getD, List.getElem?_eq_getElem hj, Option.getD_some] at h3
      exact h3
    · exact h2.1
end Evt
end Go.Proofs.YtghkalamlcfnnaaGreatDoor
end
section
namespace Go.Proofs.YtghkalamlcfnnaaGreatDoor
open Go Go.RowKit Lmd
namespace Bk
open Evt
def key (e : Ev) : List UInt8 := e.id.data.toList
def Asc (L : List Ev) : Prop := L.Pairwise fun a b => key a < key b
def without (k : List UInt8) (L : List Ev) : List Ev := L.filter fun e => decide (key e ≠ k)
def put1 (e : Ev) : List Ev → List Ev
  | [] => [e]
  | x :: t => if key e < key x then e :: x :: t else x :: put1 e t
def withE (e : Ev) (L : List Ev) : List Ev := put1 e (without (key e) L)
def hasK (k : List UInt8) (L : List Ev) : Bool := L.any fun e => decide (key e = k)
theorem lt_irrefl (a : List UInt8) : ¬ a < a := List.lt_irrefl a
theorem mem_without {k : List UInt8} {L : List Ev} {x : Ev} : x ∈ without k L ↔ x ∈ L ∧ key x ≠ k := by simp [without]
theorem mem_put1 {e x : Ev} : ∀ {L : List Ev}, x ∈ put1 e L ↔ x = e ∨ x ∈ L
  | [] => by simp [put1]
  | y :: t => by
    unfold put1
    split
    · simp
    · rw [List.mem_cons, mem_put1, List.mem_cons]
      constructor
      · rintro (h | h | h)
        · exact .inr (.inl h)
        · exact .inl h
        · exact .inr (.inr h)
      · rintro (h | h | h)
        · exact .inr (.inl h)
        · exact .inl h
        · exact .inr (.inr h)
theorem mem_withE {e x : Ev} {L : List Ev} : x ∈ withE e L ↔ x = e ∨ (x ∈ L ∧ key x ≠ key e) := by rw [withE, mem_put1, mem_without]
theorem hasK_iff {k : List UInt8} {L : List Ev} : hasK k L = true ↔ ∃ e ∈ L, key e = k := by simp [hasK]
theorem hasK_false {k : List UInt8} {L : List Ev} : hasK k L = false ↔ ∀ e ∈ L, key e ≠ k := by simp [hasK]
theorem hasK_without {k k' : List UInt8} {L : List Ev} : hasK k' (without k L) = (hasK k' L && decide (k' ≠ k)) := by
  rw [Bool.eq_iff_iff, hasK_iff, Bool.and_eq_true, hasK_iff, decide_eq_true_eq]
  constructor
  · rintro ⟨e, he, rfl⟩
    exact ⟨⟨e, (mem_without.1 he).1, rfl⟩, (mem_without.1 he).2⟩
  · rintro ⟨⟨e, he, rfl⟩, h⟩
    exact ⟨e, mem_without.2 ⟨he, h⟩, rfl⟩
theorem hasK_withE {k : List UInt8} {e : Ev} {L : List Ev} : hasK k (withE e L) = (hasK k L || decide (k = key e)) := by
  rw [Bool.eq_iff_iff, hasK_iff, Bool.or_eq_true, hasK_iff, decide_eq_true_eq]
  constructor
  · rintro ⟨x, hx, rfl⟩
    rcases mem_withE.1 hx with rfl | ⟨h, _⟩
    · exact .inr rfl
    · exact .inl ⟨x, h, rfl⟩
  · rintro (⟨x, hx, rfl⟩ | rfl)
    · by_cases h : key x = key e
      · exact ⟨e, mem_withE.2 (.inl rfl), h.symm⟩
      · exact ⟨x, mem_withE.2 (.inr ⟨hx, h⟩), rfl⟩
    · exact ⟨e, mem_withE.2 (.inl rfl), rfl⟩
theorem asc_without {L : List Ev} (h : Asc L) (k : List UInt8) : Asc (without k L) := h.filter _
theorem lt_of_not {a b : List UInt8} (h : ¬ a < b) (hn : b ≠ a) : b < a := by
  rcases Classical.em (b < a) with h1 | h1
  · exact h1
  · exact absurd (List.le_antisymm (List.not_lt.1 h) (List.not_lt.1 h1)) hn
theorem asc_put1 {e : Ev} : ∀ {L : List Ev}, Asc L → (∀ x ∈ L, key x ≠ key e) → Asc (put1 e L)
  | [], _, _ => List.pairwise_singleton _ _
  | y :: t, h, hn => by
    have h1 := List.pairwise_cons.1 h
    unfold put1
    split
    · rename_i hl
      refine List.pairwise_cons.2 ⟨fun x hx => ?_, h⟩
      rcases List.mem_cons.1 hx with rfl | hx
      · exact hl
      · exact List.lt_trans hl (h1.1 x hx)
    · rename_i hl
      have hy : key y < key e := lt_of_not hl (hn y (List.mem_cons_self ..))
      refine List.pairwise_cons.2 ⟨fun x hx => ?_, asc_put1 h1.2 (fun x hx => hn x (List.mem_cons_of_mem _ hx))⟩
      rcases mem_put1.1 hx with rfl | hx
      · exact hy
      · exact h1.1 x hx
theorem asc_withE {e : Ev} {L : List Ev} (h : Asc L) : Asc (withE e L) := asc_put1 (asc_without h _) fun _ hx => (mem_without.1 hx).2
theorem length_put1 (e : Ev) : ∀ L : List Ev, (put1 e L).length = L.length + 1
  | [] => rfl
  | y :: t => by
    unfold put1
    split
    · rfl
    · simp [length_put1 e t]
theorem without_none {k : List UInt8} {L : List Ev} (h : hasK k L = false) : without k L = L :=
  List.filter_eq_self.2 fun x hx => decide_eq_true (hasK_false.1 h x hx)
theorem length_without_le (k : List UInt8) (L : List Ev) : (without k L).length ≤ L.length := List.length_filter_le _ _
theorem key_one {L : List Ev} (h : Asc L) {a b : Ev} (ha : a ∈ L) (hb : b ∈ L) (he : key a = key b) : a = b := by
  induction L with
  | nil => cases ha
  | cons y t ih =>
    have h1 := List.pairwise_cons.1 h
    rcases List.mem_cons.1 ha with ea | ha' <;> rcases List.mem_cons.1 hb with eb | hb'
    · rw [ea, eb]
    · exact absurd (he ▸ ea ▸ h1.1 b hb') (lt_irrefl _)
    · exact absurd (he ▸ eb ▸ h1.1 a ha') (lt_irrefl _)
    · exact ih h1.2 ha' hb'
theorem length_without_has {k : List UInt8} : ∀ {L : List Ev}, Asc L → hasK k L = true → (without k L).length + 1 = L.length
  | [], _, h => by simp [hasK] at h
  | y :: t, ha, h => by
    have h1 := List.pairwise_cons.1 ha
    by_cases hy : key y = k
    · have ht : hasK k t = false := hasK_false.2 fun x hx e => lt_irrefl k (by have := h1.1 x hx; rw [hy, e] at this; exact this)
      have : without k (y :: t) = t := by
        rw [without, List.filter_cons_of_neg (by simp [hy])]
        exact without_none ht
      rw [this]; rfl
    · have : without k (y :: t) = y :: without k t := by rw [without, List.filter_cons_of_pos (by simp [hy])]; rfl
      rw [this, List.length_cons, List.length_cons, length_without_has h1.2]
      obtain ⟨x, hx, he⟩ := hasK_iff.1 h
      rcases List.mem_cons.1 hx with rfl | hx
      · exact absurd he hy
      · exact hasK_iff.2 ⟨x, hx, he⟩
theorem length_withE {e : Ev} {L : List Ev} (h : Asc L) : (withE e L).length = if hasK (key e) L = true then L.length else L.length + 1 := by
  rw [withE, length_put1]
  split
  · rename_i hk; exact length_without_has h hk
  · rename_i hk; rw [without_none (by simpa using hk)]
section
variable {α : Type} (κ : α → List UInt8)
def gput1 (e : α) : List α → List α
  | [] => [e]
  | x :: t => if κ e < κ x then e :: x :: t else x :: gput1 e t
def gwithout (k : List UInt8) (L : List α) : List α := L.filter fun e => decide (κ e ≠ k)
theorem gput1_map (f : α → Ev) (hf : ∀ x, κ x = key (f x)) (e : α) : ∀ L : List α, (gput1 κ e L).map f = put1 (f e) (L.map f)
  | [] => rfl
  | x :: t => by
    show (if κ e < κ x then e :: x :: t else x :: gput1 κ e t).map f = if key (f e) < key (f x) then f e :: f x :: t.map f else f x :: put1 (f e) (t.map f)
    rw [hf, hf]
    split
    · rfl
    · rw [List.map_cons, gput1_map f hf e t]
theorem gwithout_map (f : α → Ev) (hf : ∀ x, κ x = key (f x)) (k : List UInt8) : ∀ L : List α, (gwithout κ k L).map f = without k (L.map f)
  | [] => rfl
  | x :: t => by
    have ih := gwithout_map f hf k t
    unfold gwithout without at ih ⊢
    rw [List.filter_cons, List.map_cons, List.filter_cons, hf]
    split
    · rw [List.map_cons, ih]
    · exact ih
theorem gwithout_snoc (k : List UInt8) (L : List α) (x : α) : gwithout κ k (L ++ [x]) = if κ x ≠ k then gwithout κ k L ++ [x] else gwithout κ k L := by
  unfold gwithout
  rw [List.filter_append, List.filter_cons]
  by_cases h : κ x ≠ k
  · rw [if_pos h, if_pos (decide_eq_true h)]; rfl
  · rw [if_neg h, if_neg (by simpa using h)]; simp
theorem gput1_none {e : α} : ∀ {L : List α}, (∀ x ∈ L, ¬ κ e < κ x) → gput1 κ e L = L ++ [e]
  | [], _ => rfl
  | y :: t, h => by
    unfold gput1
    rw [if_neg (h y (List.mem_cons_self ..)), gput1_none fun x hx => h x (List.mem_cons_of_mem _ hx)]; rfl
theorem gput1_snoc_some {e x : α} : ∀ {L : List α}, (∃ y ∈ L, κ e < κ y) → gput1 κ e (L ++ [x]) = gput1 κ e L ++ [x]
  | [], h => by obtain ⟨y, hy, _⟩ := h; cases hy
  | y :: t, h => by
    show gput1 κ e (y :: (t ++ [x])) = _
    unfold gput1
    split
    · rfl
    · rename_i hl
      rw [gput1_snoc_some, List.cons_append]
      obtain ⟨z, hz, h2⟩ := h
      rcases List.mem_cons.1 hz with rfl | hz
      · exact absurd h2 hl
      · exact ⟨z, hz, h2⟩
theorem gput1_snoc_new {e x : α} : ∀ {L : List α}, (∀ y ∈ L, ¬ κ e < κ y) → κ e < κ x → gput1 κ e (L ++ [x]) = L ++ [e, x]
  | [], _, hx => by show gput1 κ e [x] = _; unfold gput1; rw [if_pos hx]; rfl
  | y :: t, h, hx => by
    show gput1 κ e (y :: (t ++ [x])) = _
    unfold gput1
    rw [if_neg (h y (List.mem_cons_self ..)), gput1_snoc_new (fun z hz => h z (List.mem_cons_of_mem _ hz)) hx]; rfl
def gput2 (e : α) (L : List α) : List α := if L.any (fun x => decide (κ e < κ x)) = true then gput1 κ e L else L
theorem any_no {e : α} {L : List α} (h : ¬ L.any (fun y => decide (κ e < κ y)) = true) : ∀ y ∈ L, ¬ κ e < κ y := fun y hy hl => h (List.any_eq_true.2 ⟨y, hy, decide_eq_true hl⟩)
theorem any_snoc (e x : α) (L : List α) : (L ++ [x]).any (fun y => decide (κ e < κ y)) = (L.any (fun y => decide (κ e < κ y)) || decide (κ e < κ x)) := by
  rw [List.any_append, List.any_cons, List.any_nil, Bool.or_false]
theorem gput2_snoc (e x : α) (L : List α) : gput2 κ e (L ++ [x]) = if (!L.any (fun y => decide (κ e < κ y)) && decide (κ e < κ x)) = true then gput2 κ e L ++ [e] ++ [x] else gput2 κ e L ++ [x] := by
  unfold gput2
  rw [any_snoc κ]
  by_cases h : L.any (fun y => decide (κ e < κ y)) = true
  · obtain ⟨y, hy, hl⟩ := List.any_eq_true.1 h
    rw [if_pos h, if_pos (by rw [h]; rfl), if_neg (by rw [h]; exact fun e => by cases e)]
    exact gput1_snoc_some κ ⟨y, hy, of_decide_eq_true hl⟩
  · have h0 := any_no κ h
    have hf : L.any (fun y => decide (κ e < κ y)) = false := by simpa only [Bool.not_eq_true] using h
    rw [if_neg h, hf]
    by_cases hx : κ e < κ x
    · rw [if_pos (by rw [decide_eq_true hx]; rfl), if_pos (by rw [decide_eq_true hx]; rfl)]
      rw [gput1_snoc_new κ h0 hx, List.append_assoc]; rfl
    · rw [if_neg (by rw [decide_eq_false hx]; exact fun e => by cases e), if_neg (by rw [decide_eq_false hx]; exact fun e => by cases e)]
theorem gput2_end (e : α) (L : List α) : gput1 κ e L = if L.any (fun x => decide (κ e < κ x)) = true then gput2 κ e L else gput2 κ e L ++ [e] := by
  unfold gput2
  split
  · rfl
  · rename_i h
    exact gput1_none κ (any_no κ h)
end
def idsB (L : List Ev) : List ByteArray := L.map (·.id)
end Bk
end Go.Proofs.YtghkalamlcfnnaaGreatDoor
end
section
namespace Go.Proofs.YtghkalamlcfnnaaGreatDoor
open Go Go.Joins Go.ChangeShapes Go.WideShapes Go.RowKit Go.Deep Lmd
namespace Rul
section
variable {H : Type} {enc : TypeId × Value → H} {P : Program} {w : World} {base : Nat} {spare : Nat → Bool} {held : Bool}
end
theorem reads_of {w : World} {a : Addr} {len cap : Nat} {zs : List Int} (hl : len ≤ zs.length) (h : ∀ i, i < zs.length → w.cell? (a.add i) = some (.int .i64 (zs.getD i 0))) : Ints.Reads w (.slice (some a) len cap) (zs.take len) := by
  by_cases h0 : len = 0
  · subst h0
    exact .inl ⟨by simp, _, _, rfl⟩
  · have hlen : (zs.take len).length = len := by simp; omega
    obtain ⟨b, o, s⟩ := a
    have hs : s = none := by
      have := h 0 (by omega)
      unfold Addr.add World.cell? at this
      simp only [if_true] at this
      split at this
      · split at this
        · cases this
        · rename_i hh; simpa using hh
      · cases this
    subst hs
    refine .inr ⟨b, o, cap, by rw [hlen], fun i hi => ?_⟩
    rw [hlen] at hi
    have := h i (by omega)
    have he : Ints.el (zs.take len) i = zs.getD i 0 := by
      rw [Ints.el_lt (by omega), List.getElem_take, List.getD_eq_getElem?_getD, List.getElem?_eq_getElem (by omega)]; rfl
    rw [he]
    unfold Addr.add at this
    split at this
    · rename_i hi0; subst hi0; simpa using this
    · exact this
end Rul
end Go.Proofs.YtghkalamlcfnnaaGreatDoor
end
end
section
section
namespace Go.Proofs.YtghkalamlcfnnaaGreatDoor
open Go Go.ChangeShapes Go.WideShapes Go.RowKit Go.Deep Lmd
namespace Evt
open Rul
def ml (xs : List (Int × Int)) (i : Nat) : Int × Int := xs[i]?.getD (0, 0)
theorem ml_lt {xs : List (Int × Int)} {i : Nat} (h : i < xs.length) : ml xs i = xs[i] := by simp [ml, h]
def MReads (w : World) (v : Value) (xs : List (Int × Int)) : Prop :=
  (xs = [] ∧ ∃ a c, v = .slice a 0 c) ∨ ∃ b off c, v = .slice (some ⟨b, off, none⟩) xs.length c ∧ ∀ j, j < xs.length → w.cell? ⟨b, off + j * 2, none⟩ = some (.int .i64 (ml xs j).1) ∧ w.cell? ⟨b, off + j * 2 + 1, none⟩ = some (.int .i64 (ml xs j).2)
theorem MReads.shape {w : World} {v : Value} {xs : List (Int × Int)} (h : MReads w v xs) : ∃ a c, v = .slice a xs.length c := by
  rcases h with ⟨rfl, a, c, rfl⟩ | ⟨b, off, c, rfl, _⟩
  · exact ⟨a, c, rfl⟩
  · exact ⟨_, c, rfl⟩
theorem MReads.at {w : World} {a : Option Addr} {n cap : Nat} {xs : List (Int × Int)} (h : MReads w (.slice a n cap) xs) (hx : xs ≠ []) : n = xs.length ∧ ∃ b off, a = some ⟨b, off, none⟩ ∧ ∀ j, j < xs.length → w.cell? ⟨b, off + j * 2, none⟩ = some (.int .i64 (ml xs j).1) ∧ w.cell? ⟨b, off + j * 2 + 1, none⟩ = some (.int .i64 (ml xs j).2) := by
  rcases h with ⟨rfl, _⟩ | ⟨b, off, cap', e, hc⟩
  · exact absurd rfl hx
  · cases e; exact ⟨rfl, b, off, rfl, hc⟩
theorem MReads.below {w w' : World} {v : Value} {xs : List (Int × Int)} (h : MReads w v xs) (hb : Below w.heap.size w w') : MReads w' v xs := by
  rcases h with h | ⟨b, off, c, rfl, hc⟩
  · exact .inl h
  · exact .inr ⟨b, off, c, rfl, fun j hj => ⟨cell_later hb (hc j hj).1, cell_later hb (hc j hj).2⟩⟩
structure Rv (w : World) (e : Ev) (vd vs vm : Value) : Prop where
  d : Ints.Reads w vd e.ru.ds
  s : Ints.Reads w vs e.sk
  m : MReads w vm e.mv
theorem Rv.below {w w' : World} {e : Ev} {vd vs vm : Value} (h : Rv w e vd vs vm) (hb : Below w.heap.size w w') : Rv w' e vd vs vm := ⟨h.d.below hb, h.s.below hb, h.m.below hb⟩
structure Fin64 (e : Ev) : Prop where
  id : e.id.size ≤ 9223372036854775807
  ti : e.ti.size ≤ 9223372036854775807
  fq : e.ru.fq.size ≤ 9223372036854775807
  ds : e.ru.ds.length ≤ 9223372036854775807
  sk : e.sk.length ≤ 9223372036854775807
  mv : e.mv.length ≤ 9223372036854775807
section
variable {H : Type} {enc : TypeId × Value → H} {W : World} {base : Nat}
theorem ints_of {n : Nat} {v : Value} {y : DataW H × List MemPlace} (h : DataW.trod enc Tryz.prog W base (fun _ => true) true n 35 [v] = some y) : ∃ xs : List Int, Ints.Reads W v xs ∧ xs.length ≤ 9223372036854775807 := by
  rcases open_ints Tryz.underlying35 Tryz.underlying3 (by kernel_rfl) h with ⟨e2, _⟩ | ⟨a, len, cap, zs, e2, _, hl, hc, hz, _, hcell, _⟩
  · cases e2
    exact ⟨[], .inl ⟨rfl, _, _, rfl⟩, by simp⟩
  · cases e2
    simp only [if_true] at hz
    have hm : maxLen ≤ 9223372036854775807 := Nat.le_refl _
    exact ⟨zs.take len, reads_of (by omega) hcell, by show (zs.take len).length ≤ _; simp; omega⟩
set_option maxRecDepth 100000 in
theorem trod_rule {fuel : Nat} {cs : List Value} {x : DataW H × List MemPlace} (h : DataW.trod enc Tryz.prog W base (fun _ => true) true fuel 37 cs = some x) :
    ∃ (r : Ru) (sl : Value), cs = [.string r.fq, .int .i64 r.ev, sl, .int .i64 r.ct, .int .i64 r.un] ∧ Ints.Reads W sl r.ds ∧ r.fq.size ≤ 9223372036854775807 ∧ r.ds.length ≤ 9223372036854775807 := by
  obtain ⟨xs, n, _, _, hl, hlen, hf⟩ := DataW.trod_struct Tryz.underlying37 h
  have hC : Tryz.prog.cellsOf 37 = 5 := by kernel_rfl
  rw [hC] at hl
  have cS : Tryz.prog.cellsOf 9 = 1 := by kernel_rfl
  have cI : Tryz.prog.cellsOf 3 = 1 := by kernel_rfl
  have cL : Tryz.prog.cellsOf 35 = 1 := by kernel_rfl
  have h0 := hf 0 _ rfl
  have h1 := hf 1 _ rfl
  have h2 := hf 2 _ rfl
  have h3 := hf 3 _ rfl
  have h4 := hf 4 _ rfl
  change DataW.trod enc _ W base _ _ n 9 (List.take (Tryz.prog.cellsOf 9) (List.drop 0 cs)) = xs[0]? at h0
  change DataW.trod enc _ W base _ _ n 3 (List.take (Tryz.prog.cellsOf 3) (List.drop 1 cs)) = xs[1]? at h1
  change DataW.trod enc _ W base _ _ n 35 (List.take (Tryz.prog.cellsOf 35) (List.drop 2 cs)) = xs[2]? at h2
  change DataW.trod enc _ W base _ _ n 3 (List.take (Tryz.prog.cellsOf 3) (List.drop 3 cs)) = xs[3]? at h3
  change DataW.trod enc _ W base _ _ n 3 (List.take (Tryz.prog.cellsOf 3) (List.drop 4 cs)) = xs[4]? at h4
  rw [cS] at h0
  rw [cI] at h1 h3 h4
  rw [cL] at h2
  match cs, hl with
  | [a, b, c, d, e], _ =>
    match xs, hlen with
    | [y0, y1, y2, y3, y4], _ =>
      simp only [List.drop_zero, List.drop_succ_cons, List.take_succ_cons, List.take_zero, List.getElem?_cons_zero, List.getElem?_cons_succ] at h0 h1 h2 h3 h4
      obtain ⟨s0, e0, _, z0⟩ := DataW.trod_string Tryz.underlying9 h0
      obtain ⟨m1, e1, _, _⟩ := DataW.trod_int Tryz.underlying3 h1
      obtain ⟨m3, e3, _, _⟩ := DataW.trod_int Tryz.underlying3 h3
      obtain ⟨m4, e4, _, _⟩ := DataW.trod_int Tryz.underlying3 h4
      obtain ⟨l2, hr, hz⟩ := ints_of h2
      simp only [List.cons.injEq, and_true] at e0 e1 e3 e4
      subst e0 e1 e3 e4
      exact ⟨⟨s0, m1, m3, m4, l2⟩, c, rfl, hr, Nat.le_trans z0 (Nat.le_refl _), hz⟩
set_option maxRecDepth 100000 in
theorem trod_move {fuel : Nat} {cs : List Value} {x : DataW H × List MemPlace} (h : DataW.trod enc Tryz.prog W base (fun _ => true) true fuel 95 cs = some x) :
    ∃ y : Int × Int, cs = [.int .i64 y.1, .int .i64 y.2] := by
  obtain ⟨xs, n, _, _, hl, hlen, hf⟩ := DataW.trod_struct Tryz.underlying95 h
  have hC : Tryz.prog.cellsOf 95 = 2 := by kernel_rfl
  rw [hC] at hl
  have cI : Tryz.prog.cellsOf 3 = 1 := by kernel_rfl
  have h0 := hf 0 _ rfl
  have h1 := hf 1 _ rfl
  change DataW.trod enc _ W base _ _ n 3 (List.take (Tryz.prog.cellsOf 3) (List.drop 0 cs)) = xs[0]? at h0
  change DataW.trod enc _ W base _ _ n 3 (List.take (Tryz.prog.cellsOf 3) (List.drop 1 cs)) = xs[1]? at h1
  rw [cI] at h0 h1
  match cs, hl with
  | [a, b], _ =>
    match xs, hlen with
    | [y0, y1], _ =>
      simp only [List.drop_zero, List.drop_succ_cons, List.take_succ_cons, List.take_zero, List.getElem?_cons_zero, List.getElem?_cons_succ] at h0 h1
      obtain ⟨m0, e0, _, _⟩ := DataW.trod_int Tryz.underlying3 h0
      obtain ⟨m1, e1, _, _⟩ := DataW.trod_int Tryz.underlying3 h1
      simp only [List.cons.injEq, and_true] at e0 e1
      subst e0 e1
      exact ⟨(m0, m1), rfl⟩
theorem add_plain (b o k : Nat) : Addr.add ⟨b, o, none⟩ k = ⟨b, o + k, none⟩ := by
  unfold Addr.add
  split
  · rename_i h; subst h; rfl
  · rfl
theorem plain_addr {b o : Nat} {sn : Option Nat} {u : Value} (h : W.cell? (Addr.add ⟨b, o, sn⟩ 0) = some u) : sn = none := by
  unfold Addr.add World.cell? at h
  simp only [if_true] at h
  split at h
  · split at h
    · cases h
    · rename_i hh; simpa using hh
  · cases h
set_option maxRecDepth 100000 in
theorem moves_of {n : Nat} {v : Value} {y : DataW H × List MemPlace} (h : DataW.trod enc Tryz.prog W base (fun _ => true) true n 38 [v] = some y) : ∃ xs : List (Int × Int), MReads W v xs ∧ xs.length ≤ 9223372036854775807 := by
  have hC : Tryz.prog.cellsOf 95 = 2 := by kernel_rfl
  have hm : maxLen ≤ 9223372036854775807 := Nat.le_refl _
  rcases open_slice Tryz.underlying38 h with ⟨hcs, _⟩ | ⟨a, len, cap, m, n, D, Pl, hcs, _, hl, hc, hmm, _, hi⟩
  · simp at hcs
    subst hcs
    exact ⟨[], .inl ⟨rfl, _, _, rfl⟩, by simp⟩
  · simp at hcs
    subst hcs
    simp only [if_true] at hmm
    have hex : ∀ i, i < len → ∃ y : Int × Int, W.cell? (a.add (i * 2)) = some (.int .i64 y.1) ∧ W.cell? (a.add (i * 2 + 1)) = some (.int .i64 y.2) := by
      intro i hil
      obtain ⟨cs', h1, h2⟩ := hi i (by omega)
      rw [hC] at h1
      obtain ⟨y, rfl⟩ := trod_move h2
      obtain ⟨_, _, h3⟩ := World.cells?_some h1
      refine ⟨y, ?_, ?_⟩
      · have := h3 0 (by omega); rw [add_add] at this; exact this
      · have := h3 1 (by omega); rw [add_add] at this; exact this
    by_cases h0 : len = 0
    · subst h0
      exact ⟨[], .inl ⟨rfl, _, _, rfl⟩, by simp⟩
    · obtain ⟨b, o, sn⟩ := a
      obtain rfl : sn = none := by
        obtain ⟨y, h1, _⟩ := hex 0 (by omega)
        rw [Nat.zero_mul] at h1
        exact plain_addr h1
      simp only [add_plain] at hex
      refine ⟨(List.range len).map fun i => if h : i < len then Classical.choose (hex i h) else (0, 0), .inr ⟨b, o, cap, by simp, fun j hj => ?_⟩, by simp; omega⟩
      have hj : j < len := by simpa using hj
      have hml : ml ((List.range len).map fun i => if h : i < len then Classical.choose (hex i h) else (0, 0)) j = Classical.choose (hex j hj) := by
        simp [ml, hj]
      rw [hml]
      have h := Classical.choose_spec (hex j hj)
      exact ⟨h.1, by rw [Nat.add_assoc]; exact h.2⟩
set_option maxRecDepth 100000 in
theorem trod_event {fuel : Nat} {cs : List Value} {x : DataW H × List MemPlace} (h : DataW.trod enc Tryz.prog W base (fun _ => true) true fuel 40 cs = some x) :
    ∃ (e : Ev) (vd vs vm : Value), cs = [.string e.id, .string e.ti, .int .i64 e.st, .int .i64 e.lg, .string e.ru.fq, .int .i64 e.ru.ev, vd, .int .i64 e.ru.ct, .int .i64 e.ru.un, vs, vm] ∧ Rv W e vd vs vm ∧ Fin64 e := by
  obtain ⟨xs, n, _, _, hl, hlen, hf⟩ := DataW.trod_struct Tryz.underlying40 h
  have hC : Tryz.prog.cellsOf 40 = 11 := by kernel_rfl
  rw [hC] at hl
  have cS : Tryz.prog.cellsOf 9 = 1 := by kernel_rfl
  have cI : Tryz.prog.cellsOf 3 = 1 := by kernel_rfl
  have cL : Tryz.prog.cellsOf 35 = 1 := by kernel_rfl
  have cR : Tryz.prog.cellsOf 37 = 5 := by kernel_rfl
  have cM : Tryz.prog.cellsOf 38 = 1 := by kernel_rfl
  have h0 := hf 0 _ rfl
  have h1 := hf 1 _ rfl
  have h2 := hf 2 _ rfl
  have h3 := hf 3 _ rfl
  have h4 := hf 4 _ rfl
  have h5 := hf 5 _ rfl
  have h6 := hf 6 _ rfl
  change DataW.trod enc _ W base _ _ n 9 (List.take (Tryz.prog.cellsOf 9) (List.drop 0 cs)) = xs[0]? at h0
  change DataW.trod enc _ W base _ _ n 9 (List.take (Tryz.prog.cellsOf 9) (List.drop 1 cs)) = xs[1]? at h1
  change DataW.trod enc _ W base _ _ n 3 (List.take (Tryz.prog.cellsOf 3) (List.drop 2 cs)) = xs[2]? at h2
  change DataW.trod enc _ W base _ _ n 3 (List.take (Tryz.prog.cellsOf 3) (List.drop 3 cs)) = xs[3]? at h3
  change DataW.trod enc _ W base _ _ n 37 (List.take (Tryz.prog.cellsOf 37) (List.drop 4 cs)) = xs[4]? at h4
  change DataW.trod enc _ W base _ _ n 35 (List.take (Tryz.prog.cellsOf 35) (List.drop 9 cs)) = xs[5]? at h5
  change DataW.trod enc _ W base _ _ n 38 (List.take (Tryz.prog.cellsOf 38) (List.drop 10 cs)) = xs[6]? at h6
  rw [cS] at h0 h1
  rw [cI] at h2 h3
  rw [cR] at h4
  rw [cL] at h5
  rw [cM] at h6
  match cs, hl with
  | [c0, c1, c2, c3, c4, c5, c6, c7, c8, c9, c10], _ =>
    match xs, hlen with
    | [y0, y1, y2, y3, y4, y5, y6], _ =>
      simp only [List.drop_zero, List.drop_succ_cons, List.take_succ_cons, List.take_zero, List.getElem?_cons_zero, List.getElem?_cons_succ] at h0 h1 h2 h3 h4 h5 h6
      obtain ⟨s0, e0, _, z0⟩ := DataW.trod_string Tryz.underlying9 h0
      obtain ⟨s1, e1, _, z1⟩ := DataW.trod_string Tryz.underlying9 h1
      obtain ⟨m2, e2, _, _⟩ := DataW.trod_int Tryz.underlying3 h2
      obtain ⟨m3, e3, _, _⟩ := DataW.trod_int Tryz.underlying3 h3
      obtain ⟨r, sl, e4, hr, zf, zd⟩ := trod_rule h4
      obtain ⟨l5, hs, zs⟩ := ints_of h5
      obtain ⟨l6, hm, zm⟩ := moves_of h6
      simp only [List.cons.injEq, and_true] at e0 e1 e2 e3 e4
      obtain ⟨rfl, rfl, rfl, rfl, rfl⟩ := e4
      subst e0 e1 e2 e3
      exact ⟨⟨s0, s1, m2, m3, r, l5, l6⟩, c6, c9, c10, rfl, ⟨hr, hs, hm⟩, ⟨Nat.le_trans z0 (Nat.le_refl _), Nat.le_trans z1 (Nat.le_refl _), zf, zd, zs, zm⟩⟩
end
end Evt
end Go.Proofs.YtghkalamlcfnnaaGreatDoor
end
section
namespace Go.Proofs.YtghkalamlcfnnaaGreatDoor
open Go Go.RowKit Go.Shelf Lmd
namespace Evt
open Rul Day Cand
theorem move_info : (Tryz.prog.info? 95).map (fun i => (i.zero, i.size, i.bytes)) = some (some (.agg #[.int .i64 0, .int .i64 0]), 2, 16) := by kernel_rfl
theorem own_at {w : World} {base size : Nat} {e : TypeId} {v : Value} {n : Nat} {xs : List Value} (h : w.ownsRow base e size v n xs) : ∃ a c, v = .slice a n c := by
  rcases h.2 with ⟨rfl, h0⟩ | ⟨g, cap, cur, rfl, _⟩
  · exact ⟨none, 0, by rw [h0]⟩
  · exact ⟨_, _, rfl⟩
theorem own_ge {w : World} {base size : Nat} {e : TypeId} {v : Value} {n : Nat} {xs : List Value} (h : w.ownsRow base e size v n xs) {j : Nat} (hj : v.ownBlock = some j) : base ≤ j := by
  rcases h.2 with ⟨rfl, _⟩ | ⟨g, cap, cur, rfl, hb, _⟩
  · simp [Value.ownBlock] at hj
  · obtain rfl : g = j := by simpa [Value.ownBlock] using hj
    exact hb
theorem own_below {w w' : World} {base size : Nat} {e : TypeId} {v : Value} {n : Nat} {xs : List Value} (h : w.ownsRow base e size v n xs) (hb : Below w.heap.size w w') : w'.ownsRow base e size v n xs := by
  refine h.kept (Rng.grownBy_of_below hb) ?_
  cases hv : v.ownBlock with
  | none => exact .inl rfl
  | some g => exact .inr (fun e => by cases e)
theorem append_int {w : World} {ops : Array Oper} {rest : List Oper} {o : Oper} {a : Act} {Q : Exit → Act → World → Prop} (hgd : o.guard = none) (s x : Operand)
    (ho : o.op = .call { callee := .builtin .append, args := #[s, x], argTypes := #[35, 35] })
    (base : Nat) (v : Value) (xs : List Int) (hs : a.eval s = v) (hown : w.ownsRow base 3 1 v xs.length (cellsOf xs)) (g : Nat) (y : Int) (hx : a.eval x = .slice (some ⟨g, 0, none⟩) 1 1) (hg : w.cell? ⟨g, 0, none⟩ = some (.int .i64 y))
    (hb : xs.length ≤ 3000000) (hbase : base ≤ w.heap.size)
    (h : ∀ a' c' w', w'.ownsRow base 3 1 (.slice a' (xs.length + 1) c') (xs ++ [y]).length (cellsOf (xs ++ [y])) → Below base w w' → wpList Tryz.prog ops Q rest (a.put o.dst (.slice a' (xs.length + 1) c')) w') : wpList Tryz.prog ops Q (o :: rest) a w := by
  obtain ⟨i0, hi0, hz0, hz1, hz2⟩ := info_parts int_info
  refine wpList_append_own _ hgd s x 35 ho base 3 i0 _ 1 8 Tryz.underlying35 hi0 hz0 hz1 hz2 rfl (by omega) v xs.length (cellsOf xs) hs hown ⟨g, 0, none⟩ 1 1 [.int .i64 y] hx rfl
    (fun j u hu => by
      cases j with
      | zero => simp at hu; subst hu; exact hg
      | succ j => simp at hu) (fun u hu => by simp at hu; subst hu; rfl) (by simp only [maxLen]; omega) (by omega) hbase ?_
  intro v' w' h1 h2 _
  obtain ⟨a1, c1, rfl⟩ := own_at h1
  refine h a1 c1 w' ?_ ((Below.refl base w).grown h2 hbase (fun j ej => own_ge hown ej))
  rw [cellsOf_snoc, List.length_append]; exact h1
theorem append_str {w : World} {ops : Array Oper} {rest : List Oper} {o : Oper} {a : Act} {Q : Exit → Act → World → Prop} (hgd : o.guard = none) (s x : Operand)
    (ho : o.op = .call { callee := .builtin .append, args := #[s, x], argTypes := #[33, 33] })
    (base : Nat) (v : Value) (xs : List ByteArray) (hs : a.eval s = v) (hown : w.ownsRow base 9 1 v xs.length (cellsS xs)) (g : Nat) (y : ByteArray) (hx : a.eval x = .slice (some ⟨g, 0, none⟩) 1 1) (hg : w.cell? ⟨g, 0, none⟩ = some (.string y))
    (hb : xs.length ≤ 3000000) (hbase : base ≤ w.heap.size)
    (h : ∀ a' c' w', w'.ownsRow base 9 1 (.slice a' (xs.length + 1) c') (xs ++ [y]).length (cellsS (xs ++ [y])) → Below base w w' → wpList Tryz.prog ops Q rest (a.put o.dst (.slice a' (xs.length + 1) c')) w') : wpList Tryz.prog ops Q (o :: rest) a w := by
  obtain ⟨i0, hi0, hz0, hz1, hz2⟩ := info_parts string_info
  refine wpList_append_own _ hgd s x 33 ho base 9 i0 _ 1 16 Tryz.underlying33 hi0 hz0 hz1 hz2 rfl (by omega) v xs.length (cellsS xs) hs hown ⟨g, 0, none⟩ 1 1 [.string y] hx rfl
    (fun j u hu => by
      cases j with
      | zero => simp at hu; subst hu; exact hg
      | succ j => simp at hu) (fun u hu => by simp at hu; subst hu; rfl) (by simp only [maxLen]; omega) (by omega) hbase ?_
  intro v' w' h1 h2 _
  obtain ⟨a1, c1, rfl⟩ := own_at h1
  refine h a1 c1 w' ?_ ((Below.refl base w).grown h2 hbase (fun j ej => own_ge hown ej))
  have hS : cellsS (xs ++ [y]) = cellsS xs ++ [.string y] := by simp [cellsS]
  rw [hS, List.length_append]; exact h1
def cellsM (xs : List (Int × Int)) : List Value := xs.flatMap fun m => [.int .i64 m.1, .int .i64 m.2]
theorem cellsM_snoc (xs : List (Int × Int)) (m : Int × Int) : cellsM (xs ++ [m]) = cellsM xs ++ [.int .i64 m.1, .int .i64 m.2] := by simp [cellsM]
theorem cellsM_len (xs : List (Int × Int)) : (cellsM xs).length = xs.length * 2 := by
  induction xs with
  | nil => rfl
  | cons m t ih => simp only [cellsM, List.flatMap_cons, List.length_append, List.length_cons, List.length_nil] at ih ⊢; omega
theorem cellsM_at : ∀ {xs : List (Int × Int)} {j : Nat}, j < xs.length → (cellsM xs)[j * 2]? = some (.int .i64 (ml xs j).1) ∧ (cellsM xs)[j * 2 + 1]? = some (.int .i64 (ml xs j).2)
  | [], j, h => absurd h (Nat.not_lt_zero _)
  | m :: t, 0, _ => ⟨rfl, rfl⟩
  | m :: t, j + 1, h => by
    have := cellsM_at (xs := t) (j := j) (by simpa using h)
    have e1 : (j + 1) * 2 = j * 2 + 2 := by omega
    rw [e1]
    exact this
theorem mreads_own {w : World} {base n : Nat} {v : Value} {xs : List (Int × Int)} (h : w.ownsRow base 95 2 v n (cellsM xs)) (hn : n = xs.length) : MReads w v xs := by
  subst hn
  rcases h.2 with ⟨rfl, h0⟩ | ⟨g, cap, cur, rfl, _, hh, _, _, _, ht⟩
  · exact .inl ⟨List.length_eq_zero_iff.1 h0, none, 0, rfl⟩
  · refine .inr ⟨g, 0, cap, rfl, fun j hj => ?_⟩
    have h1 := cellsM_at hj
    rw [← ht, List.getElem?_take_of_lt (by omega), List.getElem?_take_of_lt (by omega)] at h1
    simp only [World.cell?, hh, Nat.zero_add]
    exact ⟨by simpa using h1.1, by simpa using h1.2⟩
theorem append_move {w : World} {ops : Array Oper} {rest : List Oper} {o : Oper} {a : Act} {Q : Exit → Act → World → Prop} (hgd : o.guard = none) (s x : Operand)
    (ho : o.op = .call { callee := .builtin .append, args := #[s, x], argTypes := #[38, 38] })
    (base : Nat) (v : Value) (xs : List (Int × Int)) (hs : a.eval s = v) (hown : w.ownsRow base 95 2 v xs.length (cellsM xs)) (g : Nat) (y : Int × Int) (hx : a.eval x = .slice (some ⟨g, 0, none⟩) 1 1)
    (hg : w.cell? ⟨g, 0, none⟩ = some (.int .i64 y.1) ∧ w.cell? ⟨g, 1, none⟩ = some (.int .i64 y.2)) (hb : xs.length ≤ 3000000) (hbase : base ≤ w.heap.size)
    (h : ∀ a' c' w', w'.ownsRow base 95 2 (.slice a' (xs.length + 1) c') (xs ++ [y]).length (cellsM (xs ++ [y])) → Below base w w' → wpList Tryz.prog ops Q rest (a.put o.dst (.slice a' (xs.length + 1) c')) w') : wpList Tryz.prog ops Q (o :: rest) a w := by
  obtain ⟨i0, hi0, hz0, hz1, hz2⟩ := info_parts move_info
  refine wpList_append_own _ hgd s x 38 ho base 95 i0 _ 2 16 Tryz.underlying38 hi0 hz0 hz1 hz2 rfl (by omega) v xs.length (cellsM xs) hs hown ⟨g, 0, none⟩ 1 1 [.int .i64 y.1, .int .i64 y.2] hx rfl
    (fun j u hu => by
      rw [add_plain, Nat.zero_add]
      match j, hu with
      | 0, hu => cases hu; exact hg.1
      | 1, hu => cases hu; exact hg.2
      | j + 2, hu => cases hu) (fun u hu => by simp at hu; rcases hu with rfl | rfl <;> rfl) (by simp only [maxLen]; omega) (by omega) hbase ?_
  intro v' w' h1 h2 _
  obtain ⟨a1, c1, rfl⟩ := own_at h1
  refine h a1 c1 w' ?_ ((Below.refl base w).grown h2 hbase (fun j ej => own_ge hown ej))
  rw [cellsM_snoc, List.length_append]; exact h1
theorem el_getD (xs : List Int) (j : Nat) : xs[j]! = Ints.el xs j := by simp [Ints.el, List.getElem!_eq_getElem?_getD]
theorem hasInt_any (xs : List Int) (v : Value) (x : Int) (w : World) (hr : Ints.Reads w v xs) (hl : xs.length ≤ 1000000) :
    Calls Tryz.prog 177 #[v, .int .i64 x] w fun e w' => e = .returned (.bool (xs.contains x)) ∧ w' = w := by
  rcases hr with ⟨rfl, a, c, rfl⟩ | ⟨b, off, c, rfl, hc⟩
  · exact (Tryz.slices_Contains_int_empty a c x w).mono fun _ _ ⟨h1, h2⟩ => ⟨by rw [h1]; rfl, h2⟩
  · refine (Tryz.slices_Contains_int b off xs.length c xs x w (Nat.le_refl _) (by omega) (fun j hj => ?_)).mono fun _ _ ⟨h1, h2⟩ => ⟨by rw [h1, List.take_length], h2⟩
    have := hc j hj
    simp only [Ints.el] at this
    rw [List.getD_eq_getElem?_getD]; exact this
theorem anyInts_any (xs : List Int) (v : Value) (p : Int → Bool) (g : Nat) (lb : Array Value) (eg : ∀ args w, (callFunc g args).run Tryz.prog w = .ok (.enter g args) w) (w : World) (hr : Ints.Reads w v xs) (hl : xs.length ≤ 1000000) (hp : PredAt Tryz.prog g lb (fun x => Value.int .i64 x) p w) :
    Calls Tryz.prog 173 #[v, .func (.func g) #[] lb] w fun e w' => e = .returned (.bool (xs.any p)) ∧ Below w.heap.size w w' := by
  rcases hr with ⟨rfl, a, c, rfl⟩ | ⟨b, off, c, rfl, hc⟩
  · exact (Tryz.slices_ContainsFunc_empty (α := Int) a c _ w).mono fun _ _ ⟨h1, h2⟩ => ⟨by rw [h1]; rfl, by rw [h2]; exact Below.refl _ _⟩
  · refine (Tryz.slices_ContainsFunc (fun x : Int => Value.int .i64 x) p g lb eg b off xs.length c xs w hp (Nat.le_refl _) (by omega) (fun j hj => by rw [el_getD]; exact hc j hj)).mono fun _ _ ⟨h1, q, h2⟩ => ⟨by rw [h1, List.take_length], by rw [h2]; exact below_draw (Below.refl _ _) q⟩
def encM (m : Int × Int) : List Value := [.int .i64 m.1, .int .i64 m.2]
theorem ml_get (xs : List (Int × Int)) (j : Nat) : xs[j]! = ml xs j := by
  unfold ml
  rw [List.getElem!_eq_getElem?_getD]
  rfl
theorem indexMoves_none (a : Option Addr) (c : Nat) (fv : Value) (w : World) :
    Calls Tryz.prog 223 #[.slice a 0 c, fv] w fun e w' => e = .returned (.int .i64 (-1)) ∧ w' = w := by
  go_enter Tryz.func223, Tryz.ntmps223
  go_wp2
  refine wp_loop_rounds 1 ?_
  rw [rounds_succ]
  go_wp2
  go_ret
  exact ⟨rfl, rfl⟩
theorem anyMoves_none (a : Option Addr) (c : Nat) (fv : Value) (w : World) :
    Calls Tryz.prog 174 #[.slice a 0 c, fv] w fun e w' => e = .returned (.bool false) ∧ w' = w := by
  go_enter Tryz.func174, Tryz.ntmps174
  go_wp2_with (go_at_call 223; refine (indexMoves_none a c fv _).mono ?_; rintro e w' ⟨rfl, rfl⟩)
  go_ret
  exact ⟨rfl, rfl⟩
theorem anyMoves_any (xs : List (Int × Int)) (v : Value) (p : Int × Int → Bool) (g : Nat) (lb : Array Value) (eg : ∀ args w, (callFunc g args).run Tryz.prog w = .ok (.enter g args) w) (w : World) (hr : MReads w v xs) (hl : xs.length ≤ 1000000)
    (hp : PredBelow Tryz.prog g lb (fun x => .agg (encM x).toArray) p w) :
    Calls Tryz.prog 174 #[v, .func (.func g) #[] lb] w fun e w' => e = .returned (.bool (xs.any p)) ∧ Below w.heap.size w w' := by
  by_cases hx : xs = []
  · subst hx
    obtain ⟨a, c, rfl⟩ := hr.shape
    exact (anyMoves_none a c _ w).mono fun _ _ ⟨h1, h2⟩ => ⟨by rw [h1]; rfl, by rw [h2]; exact Below.refl _ _⟩
  · obtain ⟨a, c, rfl⟩ := hr.shape
    obtain ⟨_, b, off, rfl, hc⟩ := hr.at hx
    have hb : b < w.heap.size := cell_lt (hc 0 (List.length_pos_iff.2 hx)).1
    have := AnyQ.slices_ContainsFunc Tryz.laysMv8 2 Tryz.isAgg95 Tryz.sizeOf95 encM (fun _ => rfl) p g lb eg b off xs.length c xs w hp (Nat.le_refl _) (by omega) hb (fun j hj i v hi => by
      have h1 := hc j hj
      rw [ml_get] at hi
      match i, hi with
      | 0, hi => simp [encM] at hi; rw [← hi]; exact h1.1
      | 1, hi => simp [encM] at hi; rw [← hi]; exact h1.2
      | i + 2, hi => simp [encM] at hi)
    rw [List.take_length] at this
    exact this
end Evt
end Go.Proofs.YtghkalamlcfnnaaGreatDoor
end
section
namespace Go.Proofs.YtghkalamlcfnnaaGreatDoor
open Go Go.RowKit Go.Shelf Go.Lib Lmd
attribute [local go_sem] Oper.semAt_some
namespace Evt
open Rul Day Cand Er
abbrev azS : ByteArray := ⟨#[97, 98, 99, 100, 101, 102, 103, 104, 105, 106, 107, 108, 109, 110, 111, 112, 113, 114, 115, 116, 117, 118, 119, 120, 121, 122, 48, 49, 50, 51, 52, 53, 54, 55, 56, 57]⟩
theorem trim_az (s : ByteArray) : (Lib.trimS s.data.toList az).isEmpty = s.data.toList.all (az.contains ·) := by
  rw [Bool.eq_iff_iff, List.isEmpty_iff, trim_nil, List.all_eq_true]
set_option maxHeartbeats 1000000 in
theorem name_any (s : ByteArray) (w : World) (hs : s.size ≤ 9223372036854775807) :
    Calls Tryz.prog 111 #[.string s] w fun e w' => e = .returned (.bool (nameB s)) ∧ Below w.heap.size w w' := by
  have hT := fun W => Any.strings_Trim_laid Tryz.lays160 (by kernel_rfl) s azS W hs (by decide) (ascii_of_all (by decide))
  change ∀ W, Calls Tryz.prog 164 _ W _ at hT
  obtain ⟨T, hTT⟩ : ∃ T, Lib.trimS s.data.toList azS.data.toList = T := ⟨_, rfl⟩
  rw [hTT] at hT
  have hq : nameB s = (decide (s.size ≠ 0) && decide (s.size ≤ 12) && T.isEmpty) := by
    unfold nameB
    rw [← trim_az, ← hTT]; rfl
  obtain ⟨q, hq1⟩ : ∃ q, nameB s = q := ⟨_, rfl⟩
  rw [hq1] at hq ⊢
  have HQ := Lib.hid hq
  have HT := Lib.hid hT
  clear hq hq1 hT hTT
  have he : s.toList.isEmpty = decide (s.size = 0) := by
    rw [ByteArray.toList_eq, Bool.eq_iff_iff, List.isEmpty_iff, decide_eq_true_eq]
    constructor
    · intro h
      show s.data.size = 0
      rw [← Array.length_toList, h]; rfl
    · intro h
      exact List.length_eq_zero_iff.1 (by rw [Array.length_toList]; exact h)
  have HE := Lib.hid he
  clear he
  cases h1 : s.toList.isEmpty with
  | true =>
    have h0 : s.size = 0 := by have := HE.out; rw [h1] at this; exact of_decide_eq_true this.symm
    go_enter Tryz.func111, Tryz.ntmps111
    go_wp2_with fail
    go_ret
    exact ⟨by rw [HQ.out, h0]; simp, Below.refl _ _⟩
  | false =>
    have h0 : ¬ s.size = 0 := by have := HE.out; rw [h1] at this; exact of_decide_eq_false this.symm
    by_cases h2 : (s.size : Int) ≤ 12
    · go_enter Tryz.func111, Tryz.ntmps111
      go_wp2_with (go_at_call 164; refine (HT.out _).mono ?_; rintro e w' ⟨rfl, hb'⟩)
      go_ret
      exact ⟨by rw [HQ.out, decide_eq_true h0, decide_eq_true (show s.size ≤ 12 by omega)]; simp, hb'⟩
    · go_enter Tryz.func111, Tryz.ntmps111
      go_wp2_with fail
      go_ret
      exact ⟨by rw [HQ.out, decide_eq_false (show ¬ s.size ≤ 12 by omega)]; simp, Below.refl _ _⟩
theorem bad_pred (w : World) : PredAt Tryz.prog 166 #[] encR badR w := fun W r _ => by
  unfold FnGives
  obtain ⟨q, hq⟩ : ∃ q, badR r = q := ⟨_, rfl⟩
  rw [hq]
  have HQ := Lib.hid hq
  clear hq
  by_cases h1 : r < 32 <;> by_cases h2 : 126 < r <;> by_cases h3 : r = 124
  all_goals
    have z1 : (r : Int) < 32 ↔ r < 32 := by omega
    have z2 : (126 : Int) < (r : Int) ↔ 126 < r := by omega
    have z3 : (r : Int) = 124 ↔ r = 124 := by omega
    go_enter Tryz.func166, Tryz.ntmps166
    go_wp2
    all_goals first | (exfalso; omega) | (go_ret; exact ⟨by rw [← HQ.out]; simp [badR, h1, h2, h3] <;> omega, 0, rfl⟩)
set_option maxHeartbeats 1000000 in
theorem title_any (s : ByteArray) (w : World) (hs : s.size ≤ 9223372036854775807) :
    Calls Tryz.prog 112 #[.string s] w fun e w' => e = .returned (.bool (titleB s)) ∧ Below w.heap.size w w' := by
  have hT := Any.strings_ContainsFunc Tryz.laysGw17 166 #[] (enters_of Tryz.func166 (by kernel_rfl) rfl) badR s w (bad_pred w)
  change Calls Tryz.prog 165 _ w _ at hT
  rw [title_iff] at hT
  obtain ⟨b, hb⟩ : ∃ b, s.data.toList.all okC = b := ⟨_, rfl⟩
  rw [hb] at hT
  have hq : titleB s = (decide (s.size ≤ 40) && b) := by rw [← hb]; rfl
  obtain ⟨q, hq1⟩ : ∃ q, titleB s = q := ⟨_, rfl⟩
  rw [hq1] at hq ⊢
  have HQ := Lib.hid hq
  have HT := Lib.hid hT
  clear hq hq1 hT hb
  by_cases h1 : (s.size : Int) ≤ 40
  · go_enter Tryz.func112, Tryz.ntmps112
    go_wp2_with (go_at_call 165; refine HT.out.mono ?_; rintro e w' ⟨rfl, hb'⟩)
    go_ret
    exact ⟨by rw [HQ.out, decide_eq_true (show s.size ≤ 40 by omega)]; simp, hb'⟩
  · go_enter Tryz.func112, Tryz.ntmps112
    go_wp2_with fail
    go_ret
    exact ⟨by rw [HQ.out, decide_eq_false (show ¬ s.size ≤ 40 by omega)]; simp, Below.refl _ _⟩
set_option maxRecDepth 100000 in
set_option maxHeartbeats 2000000 in
theorem rising_any (xs : List Int) (v : Value) (w : World) (hr : Ints.Reads w v xs) (hl : xs.length ≤ 1000000) :
    Calls Tryz.prog 172 #[v] w fun e w' => e = .returned (.bool (riseB xs)) ∧ Below w.heap.size w w' := by
  obtain ⟨a, cap, rfl⟩ := hr.shape
  have HR := Lib.hid hr
  clear hr
  go_enter Tryz.func172, Tryz.ntmps172
  go_wp2_with fail
  go_loopw [3] (fun i wr => ∃ (k m : Nat), (k = 0 ∨ k < xs.length) ∧ i = .int .i64 ((k : Int) + 1) ∧ wr = w.drewN m ∧ ∀ j, j < k → Ints.el xs j < Ints.el xs (j + 1)) (fun i _ => xs.length + 1 - (intOf i).toNat)
  case atStart => exact ⟨0, 0, Or.inl rfl, rfl, rfl, fun _ h => absurd h (Nat.not_lt_zero _)⟩
  case round =>
    obtain ⟨k, m, hk, rfl, rfl, hs⟩ := hrel
    have HSo := Lib.hid hs
    clear hs
    by_cases hlt : k + 1 < xs.length
    · obtain ⟨_, b, o, ha, hc⟩ := HR.out.at (by rintro rfl; exact absurd hlt (Nat.not_lt_zero _))
      subst ha
      have c1 : (w.drewN m).cell? ⟨b, o + (k + 1), none⟩ = some (.int .i64 (Ints.el xs (k + 1))) := by exact hc (k + 1) hlt
      have c2 : (w.drewN m).cell? ⟨b, o + k, none⟩ = some (.int .i64 (Ints.el xs k)) := by exact hc k (by omega)
      have hi1 : (k : Int) + 1 < (xs.length : Int) := by omega
      by_cases hq : Ints.el xs (k + 1) ≤ Ints.el xs k
      · have hb := decide_eq_true hq
        have HQ1 := Lib.hid hq
        clear hq
        go_wp2
        go_quiet (fail)
        go_wp2
        go_ret
        exact ⟨by rw [rise_no hlt HQ1.out]; rfl, below_draw (below_drewN (Below.refl _ _) m) _⟩
      · have hb := decide_eq_false hq
        have HQ1 := Lib.hid hq
        clear hq
        go_wp2
        go_quiet (fail)
        go_wp2
        go_roundw
        case rel => exact ⟨k + 1, _, Or.inr hlt, by go_num, rfl, fun j hj => by
          by_cases ej : j = k
          · subst ej; exact HQ1.out
          · exact HSo.out j (by omega)⟩
        case measure => simp [intOf]; omega
    · have hi1 : (xs.length : Int) ≤ (k : Int) + 1 := by omega
      go_wp2
      go_ret
      exact ⟨by rw [rise_yes (show xs.length ≤ k + 1 by omega) HSo.out]; rfl, below_drewN (Below.refl _ _) m⟩
end Evt
end Go.Proofs.YtghkalamlcfnnaaGreatDoor
end
section
namespace Go.Proofs.YtghkalamlcfnnaaGreatDoor
open Go Go.RowKit Go.Shelf Lmd
namespace Cand
open Rul Day Er
theorem rise_pairwise {xs : List Int} (h : riseB xs = true) : xs.Pairwise (· < ·) := by
  unfold riseB at h
  rw [List.all_eq_true] at h
  have hk : ∀ i, i + 1 < xs.length → Ints.el xs i < Ints.el xs (i + 1) := fun i hi => by
    have := h i (List.mem_range.2 (by omega))
    simpa using this
  clear h
  have hd : ∀ j i, i < j → j < xs.length → Ints.el xs i < Ints.el xs j := by
    intro j
    induction j with
    | zero => intro i h; omega
    | succ j ih =>
      intro i h hj
      by_cases e : i = j
      · subst e; exact hk i hj
      · exact Int.lt_trans (ih i (by omega) (by omega)) (hk j hj)
  rw [List.pairwise_iff_getElem]
  intro i j hi hj hij
  have := hd j i hij hj
  simpa [Ints.el, List.getD_eq_getElem?_getD, hi, hj] using this
end Cand
namespace Evt
theorem grow_old {w : World} {os : Array Obj} {k : Nat} (h : k < w.heap.size) : (Sort.grow w os).heap[k]? = w.heap[k]? := by
  show (w.heap ++ os)[k]? = _
  rw [Array.getElem?_append_left h]
theorem grow_nil (w : World) : Sort.grow w #[] = w := by cases w; simp [Sort.grow]
theorem row_lt {w : World} {g : Nat} {o : Obj} (h : w.heap[g]? = some o) : g < w.heap.size := (Array.getElem?_eq_some_iff.1 h).1
end Evt
end Go.Proofs.YtghkalamlcfnnaaGreatDoor
end
end
