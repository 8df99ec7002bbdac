/- Calendars, in plain Lean: events by their IDs rising. -/
import Derived.Test.YtkhkhbeolhhomaaGreatDoorEvPlain
namespace Go.Proofs.YtkhkhbeolhhomaaGreatDoor
open Go Go.RowKit Lmd
namespace Bk
open Evt

/-- an ID's bytes -/
def key (e : Ev) : List UInt8 := e.id.data.toList
/-- by IDs rising -/
def Asc (L : List Ev) : Prop := L.Pairwise fun a b => key a < key b
def without (k : List UInt8) (L : List Ev) : List Ev := L.filter fun e => decide (key e ≠ k)
/-- an event laid in ahead of the first one with a greater ID -/
def put1 (e : Ev) : List Ev → List Ev
  | [] => [e]
  | x :: t => if key e < key x then e :: x :: t else x :: put1 e t
def withE (e : Ev) (L : List Ev) : List Ev := put1 e (without (key e) L)
def hasK (k : List UInt8) (L : List Ev) : Bool := L.any fun e => decide (key e = k)

theorem lt_irrefl (a : List UInt8) : ¬ a < a := List.lt_irrefl a
theorem mem_without {k : List UInt8} {L : List Ev} {x : Ev} : x ∈ without k L ↔ x ∈ L ∧ key x ≠ k := by simp [without]
theorem mem_put1 {e x : Ev} : ∀ {L : List Ev}, x ∈ put1 e L ↔ x = e ∨ x ∈ L
  | [] => by simp [put1]
  | y :: t => by
    unfold put1
    split
    · simp
    · rw [List.mem_cons, mem_put1, List.mem_cons]
      constructor
      · rintro (h | h | h)
        · exact .inr (.inl h)
        · exact .inl h
        · exact .inr (.inr h)
      · rintro (h | h | h)
        · exact .inr (.inl h)
        · exact .inl h
        · exact .inr (.inr h)
theorem mem_withE {e x : Ev} {L : List Ev} : x ∈ withE e L ↔ x = e ∨ (x ∈ L ∧ key x ≠ key e) := by rw [withE, mem_put1, mem_without]
theorem hasK_iff {k : List UInt8} {L : List Ev} : hasK k L = true ↔ ∃ e ∈ L, key e = k := by simp [hasK]
theorem hasK_false {k : List UInt8} {L : List Ev} : hasK k L = false ↔ ∀ e ∈ L, key e ≠ k := by simp [hasK]
theorem hasK_without {k k' : List UInt8} {L : List Ev} : hasK k' (without k L) = (hasK k' L && decide (k' ≠ k)) := by
  rw [Bool.eq_iff_iff, hasK_iff, Bool.and_eq_true, hasK_iff, decide_eq_true_eq]
  constructor
  · rintro ⟨e, he, rfl⟩
    exact ⟨⟨e, (mem_without.1 he).1, rfl⟩, (mem_without.1 he).2⟩
  · rintro ⟨⟨e, he, rfl⟩, h⟩
    exact ⟨e, mem_without.2 ⟨he, h⟩, rfl⟩
theorem hasK_withE {k : List UInt8} {e : Ev} {L : List Ev} : hasK k (withE e L) = (hasK k L || decide (k = key e)) := by
  rw [Bool.eq_iff_iff, hasK_iff, Bool.or_eq_true, hasK_iff, decide_eq_true_eq]
  constructor
  · rintro ⟨x, hx, rfl⟩
    rcases mem_withE.1 hx with rfl | ⟨h, _⟩
    · exact .inr rfl
    · exact .inl ⟨x, h, rfl⟩
  · rintro (⟨x, hx, rfl⟩ | rfl)
    · by_cases h : key x = key e
      · exact ⟨e, mem_withE.2 (.inl rfl), h.symm⟩
      · exact ⟨x, mem_withE.2 (.inr ⟨hx, h⟩), rfl⟩
    · exact ⟨e, mem_withE.2 (.inl rfl), rfl⟩
theorem asc_without {L : List Ev} (h : Asc L) (k : List UInt8) : Asc (without k L) := h.filter _
theorem lt_of_not {a b : List UInt8} (h : ¬ a < b) (hn : b ≠ a) : b < a := by
  rcases Classical.em (b < a) with h1 | h1
  · exact h1
  · exact absurd (List.le_antisymm (List.not_lt.1 h) (List.not_lt.1 h1)) hn
theorem asc_put1 {e : Ev} : ∀ {L : List Ev}, Asc L → (∀ x ∈ L, key x ≠ key e) → Asc (put1 e L)
  | [], _, _ => List.pairwise_singleton _ _
  | y :: t, h, hn => by
    have h1 := List.pairwise_cons.1 h
    unfold put1
    split
    · rename_i hl
      refine List.pairwise_cons.2 ⟨fun x hx => ?_, h⟩
      rcases List.mem_cons.1 hx with rfl | hx
      · exact hl
      · exact List.lt_trans hl (h1.1 x hx)
    · rename_i hl
      have hy : key y < key e := lt_of_not hl (hn y (List.mem_cons_self ..))
      refine List.pairwise_cons.2 ⟨fun x hx => ?_, asc_put1 h1.2 (fun x hx => hn x (List.mem_cons_of_mem _ hx))⟩
      rcases mem_put1.1 hx with rfl | hx
      · exact hy
      · exact h1.1 x hx
theorem asc_withE {e : Ev} {L : List Ev} (h : Asc L) : Asc (withE e L) := asc_put1 (asc_without h _) fun _ hx => (mem_without.1 hx).2
theorem length_put1 (e : Ev) : ∀ L : List Ev, (put1 e L).length = L.length + 1
  | [] => rfl
  | y :: t => by
    unfold put1
    split
    · rfl
    · simp [length_put1 e t]
theorem without_none {k : List UInt8} {L : List Ev} (h : hasK k L = false) : without k L = L :=
  List.filter_eq_self.2 fun x hx => decide_eq_true (hasK_false.1 h x hx)
theorem length_without_le (k : List UInt8) (L : List Ev) : (without k L).length ≤ L.length := List.length_filter_le _ _
theorem key_one {L : List Ev} (h : Asc L) {a b : Ev} (ha : a ∈ L) (hb : b ∈ L) (he : key a = key b) : a = b := by
  induction L with
  | nil => cases ha
  | cons y t ih =>
    have h1 := List.pairwise_cons.1 h
    rcases List.mem_cons.1 ha with ea | ha' <;> rcases List.mem_cons.1 hb with eb | hb'
    · rw [ea, eb]
    · exact absurd (he ▸ ea ▸ h1.1 b hb') (lt_irrefl _)
    · exact absurd (he ▸ eb ▸ h1.1 a ha') (lt_irrefl _)
    · exact ih h1.2 ha' hb'
theorem length_without_has {k : List UInt8} : ∀ {L : List Ev}, Asc L → hasK k L = true → (without k L).length + 1 = L.length
  | [], _, h => by simp [hasK] at h
  | y :: t, ha, h => by
    have h1 := List.pairwise_cons.1 ha
    by_cases hy : key y = k
    · have ht : hasK k t = false := hasK_false.2 fun x hx e => lt_irrefl k (by have := h1.1 x hx; rw [hy, e] at this; exact this)
      have : without k (y :: t) = t := by
        rw [without, List.filter_cons_of_neg (by simp [hy])]
        exact without_none ht
      rw [this]; rfl
    · have : without k (y :: t) = y :: without k t := by rw [without, List.filter_cons_of_pos (by simp [hy])]; rfl
      rw [this, List.length_cons, List.length_cons, length_without_has h1.2]
      obtain ⟨x, hx, he⟩ := hasK_iff.1 h
      rcases List.mem_cons.1 hx with rfl | hx
      · exact absurd he hy
      · exact hasK_iff.2 ⟨x, hx, he⟩
theorem length_withE {e : Ev} {L : List Ev} (h : Asc L) : (withE e L).length = if hasK (key e) L = true then L.length else L.length + 1 := by
  rw [withE, length_put1]
  split
  · rename_i hk; exact length_without_has h hk
  · rename_i hk; rw [without_none (by simpa using hk)]
theorem length_withE_le {e : Ev} {L : List Ev} (h : Asc L) : (withE e L).length ≤ L.length + 1 := by
  rw [length_withE h]; split <;> omega
/-! ### the same at whatever has an ID -/
section
variable {α : Type} (κ : α → List UInt8)
def gput1 (e : α) : List α → List α
  | [] => [e]
  | x :: t => if κ e < κ x then e :: x :: t else x :: gput1 e t
def gwithout (k : List UInt8) (L : List α) : List α := L.filter fun e => decide (κ e ≠ k)
theorem gput1_map (f : α → Ev) (hf : ∀ x, κ x = key (f x)) (e : α) : ∀ L : List α, (gput1 κ e L).map f = put1 (f e) (L.map f)
  | [] => rfl
  | x :: t => by
    show (if κ e < κ x then e :: x :: t else x :: gput1 κ e t).map f = if key (f e) < key (f x) then f e :: f x :: t.map f else f x :: put1 (f e) (t.map f)
    rw [hf, hf]
    split
    · rfl
    · rw [List.map_cons, gput1_map f hf e t]
theorem gwithout_map (f : α → Ev) (hf : ∀ x, κ x = key (f x)) (k : List UInt8) : ∀ L : List α, (gwithout κ k L).map f = without k (L.map f)
  | [] => rfl
  | x :: t => by
    have ih := gwithout_map f hf k t
    unfold gwithout without at ih ⊢
    rw [List.filter_cons, List.map_cons, List.filter_cons, hf]
    split
    · rw [List.map_cons, ih]
    · exact ih
theorem gwithout_snoc (k : List UInt8) (L : List α) (x : α) : gwithout κ k (L ++ [x]) = if κ x ≠ k then gwithout κ k L ++ [x] else gwithout κ k L := by
  unfold gwithout
  rw [List.filter_append, List.filter_cons]
  by_cases h : κ x ≠ k
  · rw [if_pos h, if_pos (decide_eq_true h)]; rfl
  · rw [if_neg h, if_neg (by simpa using h)]; simp
/-- the loop that lays an event in: nothing greater yet -/
theorem gput1_none {e : α} : ∀ {L : List α}, (∀ x ∈ L, ¬ κ e < κ x) → gput1 κ e L = L ++ [e]
  | [], _ => rfl
  | y :: t, h => by
    unfold gput1
    rw [if_neg (h y (List.mem_cons_self ..)), gput1_none fun x hx => h x (List.mem_cons_of_mem _ hx)]; rfl
theorem gput1_snoc_some {e x : α} : ∀ {L : List α}, (∃ y ∈ L, κ e < κ y) → gput1 κ e (L ++ [x]) = gput1 κ e L ++ [x]
  | [], h => by obtain ⟨y, hy, _⟩ := h; cases hy
  | y :: t, h => by
    show gput1 κ e (y :: (t ++ [x])) = _
    unfold gput1
    split
    · rfl
    · rename_i hl
      rw [gput1_snoc_some, List.cons_append]
      obtain ⟨z, hz, h2⟩ := h
      rcases List.mem_cons.1 hz with rfl | hz
      · exact absurd h2 hl
      · exact ⟨z, hz, h2⟩
theorem gput1_snoc_new {e x : α} : ∀ {L : List α}, (∀ y ∈ L, ¬ κ e < κ y) → κ e < κ x → gput1 κ e (L ++ [x]) = L ++ [e, x]
  | [], _, hx => by show gput1 κ e [x] = _; unfold gput1; rw [if_pos hx]; rfl
  | y :: t, h, hx => by
    show gput1 κ e (y :: (t ++ [x])) = _
    unfold gput1
    rw [if_neg (h y (List.mem_cons_self ..)), gput1_snoc_new (fun z hz => h z (List.mem_cons_of_mem _ hz)) hx]; rfl
/-- what the loop has laid, and whether the event is in it -/
def gput2 (e : α) (L : List α) : List α := if L.any (fun x => decide (κ e < κ x)) = true then gput1 κ e L else L
theorem any_no {e : α} {L : List α} (h : ¬ L.any (fun y => decide (κ e < κ y)) = true) : ∀ y ∈ L, ¬ κ e < κ y := fun y hy hl => h (List.any_eq_true.2 ⟨y, hy, decide_eq_true hl⟩)
theorem any_snoc (e x : α) (L : List α) : (L ++ [x]).any (fun y => decide (κ e < κ y)) = (L.any (fun y => decide (κ e < κ y)) || decide (κ e < κ x)) := by
  rw [List.any_append, List.any_cons, List.any_nil, Bool.or_false]
theorem gput2_snoc (e x : α) (L : List α) : gput2 κ e (L ++ [x]) = if (!L.any (fun y => decide (κ e < κ y)) && decide (κ e < κ x)) = true then gput2 κ e L ++ [e] ++ [x] else gput2 κ e L ++ [x] := by
  unfold gput2
  rw [any_snoc κ]
  by_cases h : L.any (fun y => decide (κ e < κ y)) = true
  · obtain ⟨y, hy, hl⟩ := List.any_eq_true.1 h
    rw [if_pos h, if_pos (by rw [h]; rfl), if_neg (by rw [h]; exact fun e => by cases e)]
    exact gput1_snoc_some κ ⟨y, hy, of_decide_eq_true hl⟩
  · have h0 := any_no κ h
    have hf : L.any (fun y => decide (κ e < κ y)) = false := by simpa only [Bool.not_eq_true] using h
    rw [if_neg h, hf]
    by_cases hx : κ e < κ x
    · rw [if_pos (by rw [decide_eq_true hx]; rfl), if_pos (by rw [decide_eq_true hx]; rfl)]
      rw [gput1_snoc_new κ h0 hx, List.append_assoc]; rfl
    · rw [if_neg (by rw [decide_eq_false hx]; exact fun e => by cases e), if_neg (by rw [decide_eq_false hx]; exact fun e => by cases e)]
theorem gput2_end (e : α) (L : List α) : gput1 κ e L = if L.any (fun x => decide (κ e < κ x)) = true then gput2 κ e L else gput2 κ e L ++ [e] := by
  unfold gput2
  split
  · rfl
  · rename_i h
    exact gput1_none κ (any_no κ h)
end
/-- who is on a day -/
def onB (L : List Ev) (c : Ev → Bool) : List ByteArray := (L.filter c).map (·.id)
def idsB (L : List Ev) : List ByteArray := L.map (·.id)
/-- the place of an event, from the front (-1: none) -/
def findI (k : List UInt8) (L : List Ev) : Int := match L.findIdx? (fun e => decide (key e = k)) with | some i => (i : Int) | none => -1
end Bk
end Go.Proofs.YtkhkhbeolhhomaaGreatDoor
