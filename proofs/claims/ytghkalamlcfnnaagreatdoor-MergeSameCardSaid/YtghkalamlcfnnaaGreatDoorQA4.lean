/- EvPlain, BkPlain, OpenRule: texts joined. -/
import Derived.Test.YtghkalamlcfnnaaGreatDoorQRuleText
import Derived.Lib.SlTrimSet
import Derived.Shelf.GgClosure.StringsIndexFunc
import Derived.Lib.SmallJoins
import Derived.ChangeSlices
section
namespace Go.Proofs.YtghkalamlcfnnaaGreatDoor
open Go Go.RowKit Lmd
namespace Evt
open Rul Day Cand
structure Ev where
  (id ti : ByteArray) (st lg : Int) (ru : Ru) (sk : List Int) (mv : List (Int × Int))
def az : List UInt8 := [97, 98, 99, 100, 101, 102, 103, 104, 105, 106, 107, 108, 109, 110, 111, 112, 113, 114, 115, 116, 117, 118, 119, 120, 121, 122, 48, 49, 50, 51, 52, 53, 54, 55, 56, 57]
def nameB (s : ByteArray) : Bool := decide (s.size ≠ 0) && decide (s.size ≤ 12) && s.data.toList.all (az.contains ·)
def okC (c : UInt8) : Bool := decide (32 ≤ c.toNat) && decide (c.toNat ≤ 126) && decide (c.toNat ≠ 124)
def badR (r : Nat) : Bool := decide (r < 32) || decide (126 < r) || decide (r = 124)
def titleB (s : ByteArray) : Bool := decide (s.size ≤ 40) && s.data.toList.all okC
def rightB (d : Int) : Bool := inB d 0 73048
def froms (l : List (Int × Int)) : List Int := l.map Prod.fst
def badL (e : Ev) : Nat :=
  if 20 < e.sk.length ∨ 20 < e.mv.length then 7
  else if (riseB e.sk && riseB (froms e.mv)) = false then 8
  else if (e.sk.all rightB && e.mv.all fun m => rightB m.1 && rightB m.2) = false then 2
  else if (froms e.mv).any (e.sk.contains ·) = true then 6 else 0
def badE (e : Ev) : Nat :=
  if nameB e.id = false then 4 else if titleB e.ti = false then 1
  else if (rightB e.st && inB e.lg 1 60) = false then 2
  else if bad e.ru ≠ 0 then bad e.ru else badL e
theorem dropWhile_nil {α : Type} {p : α → Bool} : ∀ {l : List α}, l.dropWhile p = [] ↔ ∀ x ∈ l, p x = true
  | [] => by simp
  | a :: l => by
    rw [List.dropWhile_cons]
    cases ha : p a with
    | false => simp [ha]
    | true => simp [ha, dropWhile_nil (l := l)]
theorem dropWhile_head {α : Type} {p : α → Bool} : ∀ {l t : List α} {a : α}, l.dropWhile p = a :: t → p a = false
  | [], _, _, h => by simp at h
  | b :: l, t, a, h => by
    rw [List.dropWhile_cons] at h
    cases hb : p b with
    | false => rw [hb] at h; simp at h; rw [← h.1]; exact hb
    | true => rw [hb] at h; simp at h; exact dropWhile_head h
theorem trim_nil (l cs : List UInt8) : Lib.trimS l cs = [] ↔ ∀ c ∈ l, cs.contains c = true := by
  unfold Lib.trimS Lib.trimLeftS Lib.trimRightS
  rw [dropWhile_nil]
  constructor
  · intro h
    rcases hd : l.reverse.dropWhile (cs.contains ·) with _ | ⟨a, t⟩
    · intro c hc
      exact dropWhile_nil.1 hd c (by simpa using hc)
    · exfalso
      have h1 := dropWhile_head hd
      rw [hd] at h
      have h2 := h a (by simp)
      rw [h1] at h2; cases h2
  · intro h c hc
    have hn : l.reverse.dropWhile (cs.contains ·) = [] := dropWhile_nil.2 (fun x hx => h x (by simpa using hx))
    rw [hn] at hc; simp at hc
theorem decode_high (s : ByteArray) (i : Nat) (h : 128 ≤ (s.get! i).toNat) : 128 ≤ (Utf8.decode s i).1 := by
  have h0 : ¬ (s.get! (i + 0)).toNat < 128 := by simpa using h
  unfold Utf8.decode
  simp only [h0, if_false]
  split
  · split
    · rename_i h2; exact h2
    · decide
  · split
    · split
      · rename_i h2
        have := h2
        simp only [Bool.and_eq_true, decide_eq_true_eq] at this
        show 128 ≤ _
        omega
      · decide
    · split
      · split
        · rename_i h2
          have := h2
          simp only [Bool.and_eq_true, decide_eq_true_eq] at this
          show 128 ≤ _
          omega
        · decide
      · decide
theorem decode_low (s : ByteArray) (i : Nat) (h : (s.get! i).toNat < 128) : Utf8.decode s i = ((s.get! i).toNat, 1) := by
  have h0 : (s.get! (i + 0)).toNat < 128 := by simpa using h
  exact if_pos h0
theorem okC_badR (c : UInt8) (h : c.toNat < 128) : badR c.toNat = !okC c := by
  unfold badR okC
  rw [Bool.eq_iff_iff]
  simp only [Bool.or_eq_true, Bool.not_eq_true', ← Bool.not_eq_true, Bool.and_eq_true, decide_eq_true_eq]
  omega
theorem okC_high (c : UInt8) (h : 128 ≤ c.toNat) : okC c = false := by
  unfold okC
  rw [decide_eq_false (show ¬ c.toNat ≤ 126 by omega)]; simp
theorem badR_high {r : Nat} (h : 128 ≤ r) : badR r = true := by
  unfold badR
  rw [decide_eq_true (show 126 < r by omega)]; simp
theorem title_from (s : ByteArray) : ∀ (f pos : Nat), s.size ≤ pos + f → (Lib.idxFuncFrom badR true s f pos = -1 ↔ ∀ j, pos ≤ j → j < s.size → okC (s.get! j) = true)
  | 0, pos, h => by simp only [Lib.idxFuncFrom, true_iff]; intro j h1 h2; omega
  | f + 1, pos, h => by
    unfold Lib.idxFuncFrom
    by_cases hp : pos < s.size
    · rw [if_pos hp]
      by_cases hc : (s.get! pos).toNat < 128
      · rw [decode_low s pos hc]
        dsimp only
        rw [okC_badR _ hc]
        cases ho : okC (s.get! pos) with
        | false =>
          simp only [Bool.not_false, if_true]
          constructor
          · intro h2; omega
          · intro h2; rw [h2 pos (Nat.le_refl _) hp] at ho; cases ho
        | true =>
          simp only [Bool.not_true, Bool.false_eq_true, if_false]
          rw [title_from s f (pos + 1) (by omega)]
          constructor
          · intro h2 j h3 h4
            by_cases hj : j = pos
            · rw [hj]; exact ho
            · exact h2 j (by omega) h4
          · intro h2 j h3 h4; exact h2 j (by omega) h4
      · have hh := decode_high s pos (by omega)
        rw [if_pos (badR_high hh)]
        constructor
        · intro h2; omega
        · intro h2
          have := h2 pos (Nat.le_refl _) hp
          rw [okC_high _ (by omega)] at this; cases this
    · rw [if_neg hp]
      simp only [true_iff]
      intro j h1 h2; omega
theorem title_iff (s : ByteArray) : decide (0 ≤ Lib.idxFunc badR true s) = !s.data.toList.all okC := by
  have hr := Lib.idxFunc_range badR true s
  have hf := title_from s s.size 0 (by omega)
  have hg : ∀ j, j < s.size → s.get! j = s.data.toList.getD j 0 := fun j hj => by
    cases s with
    | mk a =>
      simp only [ByteArray.get!, ByteArray.size] at *
      simp [hj]
  rw [Bool.eq_iff_iff, decide_eq_true_eq, Bool.not_eq_true', ← Bool.not_eq_true, List.all_eq_true]
  constructor
  · intro h1 h2
    have h3 : Lib.idxFunc badR true s = -1 := hf.2 (fun j _ hj => by
      rw [hg j hj]
      refine h2 _ ?_
      have hj' : j < s.data.toList.length := by simpa using hj
      rw [List.getD_eq_getElem?_getD, List.getElem?_eq_getElem hj', Option.getD_some]
      exact List.getElem_mem hj')
    omega
  · intro h1
    rcases hr with h2 | h2
    · exfalso
      refine h1 (fun x hx => ?_)
      obtain ⟨j, hj, rfl⟩ := List.getElem_of_mem hx
      have hj' : j < s.size := by simpa using hj
      have h3 := hf.1 h2 j (Nat.zero_le _) hj'
      rw [hg j hj', List.getD_eq_getElem?_getD, List.getElem?_eq_getElem hj, Option.getD_some] at h3
      exact h3
    · exact h2.1
end Evt
end Go.Proofs.YtghkalamlcfnnaaGreatDoor
end
section
namespace Go.Proofs.YtghkalamlcfnnaaGreatDoor
open Go Go.RowKit Lmd
namespace Bk
open Evt
def key (e : Ev) : List UInt8 := e.id.data.toList
def Asc (L : List Ev) : Prop := L.Pairwise fun a b => key a < key b
def without (k : List UInt8) (L : List Ev) : List Ev := L.filter fun e => decide (key e ≠ k)
def put1 (e : Ev) : List Ev → List Ev
  | [] => [e]
  | x :: t => if key e < key x then e :: x :: t else x :: put1 e t
def withE (e : Ev) (L : List Ev) : List Ev := put1 e (without (key e) L)
def hasK (k : List UInt8) (L : List Ev) : Bool := L.any fun e => decide (key e = k)
theorem lt_irrefl (a : List UInt8) : ¬ a < a := List.lt_irrefl a
theorem mem_without {k : List UInt8} {L : List Ev} {x : Ev} : x ∈ without k L ↔ x ∈ L ∧ key x ≠ k := by simp [without]
theorem mem_put1 {e x : Ev} : ∀ {L : List Ev}, x ∈ put1 e L ↔ x = e ∨ x ∈ L
  | [] => by simp [put1]
  | y :: t => by
    unfold put1
    split
    · simp
    · rw [List.mem_cons, mem_put1, List.mem_cons]
      constructor
      · rintro (h | h | h)
        · exact .inr (.inl h)
        · exact .inl h
        · exact .inr (.inr h)
      · rintro (h | h | h)
        · exact .inr (.inl h)
        · exact .inl h
        · exact .inr (.inr h)
theorem mem_withE {e x : Ev} {L : List Ev} : x ∈ withE e L ↔ x = e ∨ (x ∈ L ∧ key x ≠ key e) := by rw [withE, mem_put1, mem_without]
theorem hasK_iff {k : List UInt8} {L : List Ev} : hasK k L = true ↔ ∃ e ∈ L, key e = k := by simp [hasK]
theorem hasK_false {k : List UInt8} {L : List Ev} : hasK k L = false ↔ ∀ e ∈ L, key e ≠ k := by simp [hasK]
theorem hasK_withE {k : List UInt8} {e : Ev} {L : List Ev} : hasK k (withE e L) = (hasK k L || decide (k = key e)) := by
  rw [Bool.eq_iff_iff, hasK_iff, Bool.or_eq_true, hasK_iff, decide_eq_true_eq]
  constructor
  · rintro ⟨x, hx, rfl⟩
    rcases mem_withE.1 hx with rfl | ⟨h, _⟩
    · exact .inr rfl
    · exact .inl ⟨x, h, rfl⟩
  · rintro (⟨x, hx, rfl⟩ | rfl)
    · by_cases h : key x = key e
      · exact ⟨e, mem_withE.2 (.inl rfl), h.symm⟩
      · exact ⟨x, mem_withE.2 (.inr ⟨hx, h⟩), rfl⟩
    · exact ⟨e, mem_withE.2 (.inl rfl), rfl⟩
theorem asc_without {L : List Ev} (h : Asc L) (k : List UInt8) : Asc (without k L) := h.filter _
theorem lt_of_not {a b : List UInt8} (h : ¬ a < b) (hn : b ≠ a) : b < a := by
  rcases Classical.em (b < a) with h1 | h1
  · exact h1
  · exact absurd (List.le_antisymm (List.not_lt.1 h) (List.not_lt.1 h1)) hn
theorem asc_put1 {e : Ev} : ∀ {L : List Ev}, Asc L → (∀ x ∈ L, key x ≠ key e) → Asc (put1 e L)
  | [], _, _ => List.pairwise_singleton _ _
  | y :: t, h, hn => by
    have h1 := List.pairwise_cons.1 h
    unfold put1
    split
    · rename_i hl
      refine List.pairwise_cons.2 ⟨fun x hx => ?_, h⟩
      rcases List.mem_cons.1 hx with rfl | hx
      · exact hl
      · exact List.lt_trans hl (h1.1 x hx)
    · rename_i hl
      have hy : key y < key e := lt_of_not hl (hn y (List.mem_cons_self ..))
      refine List.pairwise_cons.2 ⟨fun x hx => ?_, asc_put1 h1.2 (fun x hx => hn x (List.mem_cons_of_mem _ hx))⟩
      rcases mem_put1.1 hx with rfl | hx
      · exact hy
      · exact h1.1 x hx
theorem asc_withE {e : Ev} {L : List Ev} (h : Asc L) : Asc (withE e L) := asc_put1 (asc_without h _) fun _ hx => (mem_without.1 hx).2
theorem length_put1 (e : Ev) : ∀ L : List Ev, (put1 e L).length = L.length + 1
  | [] => rfl
  | y :: t => by
    unfold put1
    split
    · rfl
    · simp [length_put1 e t]
theorem without_none {k : List UInt8} {L : List Ev} (h : hasK k L = false) : without k L = L :=
  List.filter_eq_self.2 fun x hx => decide_eq_true (hasK_false.1 h x hx)
theorem length_without_le (k : List UInt8) (L : List Ev) : (without k L).length ≤ L.length := List.length_filter_le _ _
theorem key_one {L : List Ev} (h : Asc L) {a b : Ev} (ha : a ∈ L) (hb : b ∈ L) (he : key a = key b) : a = b := by
  induction L with
  | nil => cases ha
  | cons y t ih =>
    have h1 := List.pairwise_cons.1 h
    rcases List.mem_cons.1 ha with ea | ha' <;> rcases List.mem_cons.1 hb with eb | hb'
    · rw [ea, eb]
    · exact absurd (he ▸ ea ▸ h1.1 b hb') (lt_irrefl _)
    · exact absurd (he ▸ eb ▸ h1.1 a ha') (lt_irrefl _)
    · exact ih h1.2 ha' hb'
theorem length_without_has {k : List UInt8} : ∀ {L : List Ev}, Asc L → hasK k L = true → (without k L).length + 1 = L.length
  | [], _, h => by simp [hasK] at h
  | y :: t, ha, h => by
    have h1 := List.pairwise_cons.1 ha
    by_cases hy : key y = k
    · have ht : hasK k t = false := hasK_false.2 fun x hx e => lt_irrefl k (by have := h1.1 x hx; rw [hy, e] at this; exact this)
      have : without k (y :: t) = t := by
        rw [without, List.filter_cons_of_neg (by simp [hy])]
        exact without_none ht
      rw [this]; rfl
    · have : without k (y :: t) = y :: without k t := by rw [without, List.filter_cons_of_pos (by simp [hy])]; rfl
      rw [this, List.length_cons, List.length_cons, length_without_has h1.2]
      obtain ⟨x, hx, he⟩ := hasK_iff.1 h
      rcases List.mem_cons.1 hx with rfl | hx
      · exact absurd he hy
      · exact hasK_iff.2 ⟨x, hx, he⟩
theorem length_withE {e : Ev} {L : List Ev} (h : Asc L) : (withE e L).length = if hasK (key e) L = true then L.length else L.length + 1 := by
  rw [withE, length_put1]
  split
  · rename_i hk; exact length_without_has h hk
  · rename_i hk; rw [without_none (by simpa using hk)]
section
variable {α : Type} (κ : α → List UInt8)
def gput1 (e : α) : List α → List α
  | [] => [e]
  | x :: t => if κ e < κ x then e :: x :: t else x :: gput1 e t
def gwithout (k : List UInt8) (L : List α) : List α := L.filter fun e => decide (κ e ≠ k)
theorem gput1_map (f : α → Ev) (hf : ∀ x, κ x = key (f x)) (e : α) : ∀ L : List α, (gput1 κ e L).map f = put1 (f e) (L.map f)
  | [] => rfl
  | x :: t => by
    show (if κ e < κ x then e :: x :: t else x :: gput1 κ e t).map f = if key (f e) < key (f x) then f e :: f x :: t.map f else f x :: put1 (f e) (t.map f)
    rw [hf, hf]
    split
    · rfl
    · rw [List.map_cons, gput1_map f hf e t]
theorem gwithout_map (f : α → Ev) (hf : ∀ x, κ x = key (f x)) (k : List UInt8) : ∀ L : List α, (gwithout κ k L).map f = without k (L.map f)
  | [] => rfl
  | x :: t => by
    have ih := gwithout_map f hf k t
    unfold gwithout without at ih ⊢
    rw [List.filter_cons, List.map_cons, List.filter_cons, hf]
    split
    · rw [List.map_cons, ih]
    · exact ih
theorem gwithout_snoc (k : List UInt8) (L : List α) (x : α) : gwithout κ k (L ++ [x]) = if κ x ≠ k then gwithout κ k L ++ [x] else gwithout κ k L := by
  unfold gwithout
  rw [List.filter_append, List.filter_cons]
  by_cases h : κ x ≠ k
  · rw [if_pos h, if_pos (decide_eq_true h)]; rfl
  · rw [if_neg h, if_neg (by simpa using h)]; simp
theorem gput1_none {e : α} : ∀ {L : List α}, (∀ x ∈ L, ¬ κ e < κ x) → gput1 κ e L = L ++ [e]
  | [], _ => rfl
  | y :: t, h => by
    unfold gput1
    rw [if_neg (h y (List.mem_cons_self ..)), gput1_none fun x hx => h x (List.mem_cons_of_mem _ hx)]; rfl
theorem gput1_snoc_some {e x : α} : ∀ {L : List α}, (∃ y ∈ L, κ e < κ y) → gput1 κ e (L ++ [x]) = gput1 κ e L ++ [x]
  | [], h => by obtain ⟨y, hy, _⟩ := h; cases hy
  | y :: t, h => by
    show gput1 κ e (y :: (t ++ [x])) = _
    unfold gput1
    split
    · rfl
    · rename_i hl
      rw [gput1_snoc_some, List.cons_append]
      obtain ⟨z, hz, h2⟩ := h
      rcases List.mem_cons.1 hz with rfl | hz
      · exact absurd h2 hl
      · exact ⟨z, hz, h2⟩
theorem gput1_snoc_new {e x : α} : ∀ {L : List α}, (∀ y ∈ L, ¬ κ e < κ y) → κ e < κ x → gput1 κ e (L ++ [x]) = L ++ [e, x]
  | [], _, hx => by show gput1 κ e [x] = _; unfold gput1; rw [if_pos hx]; rfl
  | y :: t, h, hx => by
    show gput1 κ e (y :: (t ++ [x])) = _
    unfold gput1
    rw [if_neg (h y (List.mem_cons_self ..)), gput1_snoc_new (fun z hz => h z (List.mem_cons_of_mem _ hz)) hx]; rfl
def gput2 (e : α) (L : List α) : List α := if L.any (fun x => decide (κ e < κ x)) = true then gput1 κ e L else L
theorem any_no {e : α} {L : List α} (h : ¬ L.any (fun y => decide (κ e < κ y)) = true) : ∀ y ∈ L, ¬ κ e < κ y := fun y hy hl => h (List.any_eq_true.2 ⟨y, hy, decide_eq_true hl⟩)
theorem any_snoc (e x : α) (L : List α) : (L ++ [x]).any (fun y => decide (κ e < κ y)) = (L.any (fun y => decide (κ e < κ y)) || decide (κ e < κ x)) := by
  rw [List.any_append, List.any_cons, List.any_nil, Bool.or_false]
theorem gput2_snoc (e x : α) (L : List α) : gput2 κ e (L ++ [x]) = if (!L.any (fun y => decide (κ e < κ y)) && decide (κ e < κ x)) = true then gput2 κ e L ++ [e] ++ [x] else gput2 κ e L ++ [x] := by
  unfold gput2
  rw [any_snoc κ]
  by_cases h : L.any (fun y => decide (κ e < κ y)) = true
  · obtain ⟨y, hy, hl⟩ := List.any_eq_true.1 h
    rw [if_pos h, if_pos (by rw [h]; rfl), if_neg (by rw [h]; exact fun e => by cases e)]
    exact gput1_snoc_some κ ⟨y, hy, of_decide_eq_true hl⟩
  · have h0 := any_no κ h
    have hf : L.any (fun y => decide (κ e < κ y)) = false := by simpa only [Bool.not_eq_true] using h
    rw [if_neg h, hf]
    by_cases hx : κ e < κ x
    · rw [if_pos (by rw [decide_eq_true hx]; rfl), if_pos (by rw [decide_eq_true hx]; rfl)]
      rw [gput1_snoc_new κ h0 hx, List.append_assoc]; rfl
    · rw [if_neg (by rw [decide_eq_false hx]; exact fun e => by cases e), if_neg (by rw [decide_eq_false hx]; exact fun e => by cases e)]
theorem gput2_end (e : α) (L : List α) : gput1 κ e L = if L.any (fun x => decide (κ e < κ x)) = true then gput2 κ e L else gput2 κ e L ++ [e] := by
  unfold gput2
  split
  · rfl
  · rename_i h
    exact gput1_none κ (any_no κ h)
end
def idsB (L : List Ev) : List ByteArray := L.map (·.id)
end Bk
end Go.Proofs.YtghkalamlcfnnaaGreatDoor
end
section
namespace Go.Proofs.YtghkalamlcfnnaaGreatDoor
open Go Go.Joins Go.ChangeShapes Go.WideShapes Go.RowKit Go.Deep Lmd
namespace Rul
section
variable {H : Type} {enc : TypeId × Value → H} {P : Program} {w : World} {base : Nat} {spare : Nat → Bool} {held : Bool}
end
theorem reads_of {w : World} {a : Addr} {len cap : Nat} {zs : List Int} (hl : len ≤ zs.length) (h : ∀ i, i < zs.length → w.cell? (a.add i) = some (.int .i64 (zs.getD i 0))) : Ints.Reads w (.slice (some a) len cap) (zs.take len) := by
  by_cases h0 : len = 0
  · subst h0
    exact .inl ⟨by simp, _, _, rfl⟩
  · have hlen : (zs.take len).length = len := by simp; omega
    obtain ⟨b, o, s⟩ := a
    have hs : s = none := by
      have := h 0 (by omega)
      unfold Addr.add World.cell? at this
      simp only [if_true] at this
      split at this
      · split at this
        · cases this
        · rename_i hh; simpa using hh
      · cases this
    subst hs
    refine .inr ⟨b, o, cap, by rw [hlen], fun i hi => ?_⟩
    rw [hlen] at hi
    have := h i (by omega)
    have he : Ints.el (zs.take len) i = zs.getD i 0 := by
      rw [Ints.el_lt (by omega), List.getElem_take, List.getD_eq_getElem?_getD, List.getElem?_eq_getElem (by omega)]; rfl
    rw [he]
    unfold Addr.add at this
    split at this
    · rename_i hi0; subst hi0; simpa using this
    · exact this
end Rul
end Go.Proofs.YtghkalamlcfnnaaGreatDoor
end
