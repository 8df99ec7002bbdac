/- BkRdL, BkNil: texts joined. -/
import Derived.Test.YtghkalamlcfnnaaGreatDoorQB6
import Derived.Test.YtghkalamlcfnnaaGreatDoorQEvSet
import Derived.Test.YtghkalamlcfnnaaGreatDoorQA15
import Derived.Test.YtghkalamlcfnnaaGreatDoorQBkBook
import Derived.Test.YtghkalamlcfnnaaGreatDoorQCutLaw
import Derived.Test.YtghkalamlcfnnaaGreatDoorQA16
import Derived.Deep.CutRange
import Derived.Test.YtghkalamlcfnnaaGreatDoorShelf
import Derived.BigQuiet
section
/- Calendars as texts, read: in plain Lean. -/
namespace Go.Proofs.YtghkalamlcfnnaaGreatDoor
open Go Go.RowKit Lmd
namespace Bk
open Evt Rul Day Cand Er Tp

/-- an event's last ID -/
def lastOf (L : List Ev) : ByteArray := match L.getLast? with | some e => e.id | none => ⟨#[]⟩
theorem lastOf_snoc (L : List Ev) (e : Ev) : lastOf (L ++ [e]) = e.id := by unfold lastOf; rw [List.getLast?_concat]
/-- what is wrong with a line more behind a last ID: 0: nothing -/
def lineK (s last : ByteArray) (L : List Ev) : Nat := if readC s ≠ 0 then readC s else if last.data.toList < key (readE s) then putK (readE s) L else 8
def lineL (s last : ByteArray) (L : List Ev) : List Ev := if lineK s last L = 0 then withE (readE s) L else L
theorem lineK_bad {s last : ByteArray} {L : List Ev} {c : Nat} (h : readC s = c + 1) : lineK s last L = c + 1 ∧ lineL s last L = L := by
  have h1 : lineK s last L = c + 1 := by unfold lineK; rw [if_pos (by omega), h]
  exact ⟨h1, by unfold lineL; rw [h1, if_neg (by omega)]⟩
theorem lineK_order {s last : ByteArray} {L : List Ev} (h : readC s = 0) (hl : ¬ last.data.toList < key (readE s)) : lineK s last L = 8 ∧ lineL s last L = L := by
  have h1 : lineK s last L = 8 := by unfold lineK; rw [if_neg (by omega), if_neg hl]
  exact ⟨h1, by unfold lineL; rw [h1, if_neg (by omega)]⟩
theorem lineK_put {s last : ByteArray} {L : List Ev} (h : readC s = 0) (hl : last.data.toList < key (readE s)) : lineK s last L = putK (readE s) L ∧ lineL s last L = putL (readE s) L := by
  have h1 : lineK s last L = putK (readE s) L := by unfold lineK; rw [if_neg (by omega), if_pos hl]
  exact ⟨h1, by unfold lineL putL; rw [h1]⟩
/-- an event that is read is right -/
theorem readE_good {s : ByteArray} (h : readC s = 0) : badE (readE s) = 0 := by
  unfold readC at h
  have h0 := h
  unfold readLC at h
  split at h
  · have hall : ∀ j, j < 6 → putC (fAt j) (lAt (pieces 124 s) (j + 1)) = 0 := by
      intro j
      induction j using Nat.strongRecOn with
      | _ j ih =>
        intro hj
        by_cases e : putC (fAt j) (lAt (pieces 124 s) (j + 1)) = 0
        · exact e
        · have := badK_miss (L := pieces 124 s) e (n := 6) (k := 0) (Nat.zero_le _) (by omega) fun i _ hi => ih i hi (by omega)
          rw [h] at this
          exact this.symm
    rw [badK_hit fun j _ hj => hall j (by omega)] at h
    unfold readE readLE
    rw [if_pos h0]; exact h
  · cases h
theorem readE_fit {s : ByteArray} (hs : s.size ≤ 30000) : Size (readE s) := by
  have hp : ∀ x ∈ pieces 124 s, x.size ≤ 30000 := fun x hx => Nat.le_trans (pieces_le hx) hs
  unfold readE readLE
  split
  · rename_i h
    unfold readLC at h
    split at h
    · rename_i h7
      exact evK_size hp h7 6 (Nat.le_refl _)
    · cases h
  · exact Evt.zero_size
theorem key_some {e : Ev} (h : badE e = 0) : ([] : List UInt8) < key e := by
  have h1 := (badE_zero h).1
  unfold nameB at h1
  rw [Bool.and_eq_true, Bool.and_eq_true, decide_eq_true_eq] at h1
  have h2 : key e ≠ [] := fun k => h1.1.1 (by
    have : e.id.data.toList.length = 0 := by
      have : e.id.data.toList = [] := k
      rw [this]; rfl
    rw [Array.length_toList] at this
    exact this)
  cases hk : key e with
  | nil => exact absurd hk h2
  | cons a t => exact List.nil_lt_cons a t
/-- who is behind the last one is behind all -/
theorem asc_last {L : List Ev} {e : Ev} (ha : Asc L) (h : (lastOf L).data.toList < key e) : Asc (L ++ [e]) := by
  refine List.pairwise_append.2 ⟨ha, List.pairwise_singleton _ _, fun x hx y hy => ?_⟩
  rw [List.mem_singleton] at hy
  subst hy
  rcases List.eq_nil_or_concat L with rfl | ⟨M, z, rfl⟩
  · cases hx
  · rw [List.concat_eq_append] at *
    rw [lastOf_snoc] at h
    rcases List.mem_append.1 hx with hx | hx
    · exact List.lt_trans ((List.pairwise_append.1 ha).2.2 x hx z (List.mem_singleton.2 rfl)) h
    · rw [List.mem_singleton] at hx; subst hx; exact h
theorem with_last {L : List Ev} {e : Ev} (ha : Asc L) (h : (lastOf L).data.toList < key e) : withE e L = L ++ [e] ∧ hasK (key e) L = false := withE_last (asc_last ha h)
/-- lines read one behind another: the error's number, its place, the events -/
def rdL : Nat → List Ev → List ByteArray → Nat × Nat × List Ev
  | i, L, [] => (0, i, L)
  | i, L, [x] => if x.data.toList = [] then (0, i, L) else (1, i, L)
  | i, L, x :: y :: t => if lineK x (lastOf L) L ≠ 0 then (lineK x (lastOf L) L, i, L) else rdL (i + 1) (withE (readE x) L) (y :: t)
def readB (s : ByteArray) : Nat × Nat × List Ev := rdL 0 [] (pieces 10 s)
theorem pieces_some (c : UInt8) (s : ByteArray) : ∃ f t, pieces c s = f :: t := by
  cases h : pieces c s with
  | cons f t => exact ⟨f, t, rfl⟩
  | nil =>
    rw [str_mk s] at h
    by_cases hc : c ∈ s.data.toList
    · obtain ⟨a, r, e, hn⟩ := split_at hc
      rw [e, pieces_more hn] at h; cases h
    · rw [pieces_last hc] at h; cases h
theorem rd_hit {a r : List UInt8} (h : (10 : UInt8) ∉ a) (i : Nat) (L : List Ev) :
    rdL i L (pieces 10 (mk (a ++ 10 :: r))) = if lineK (mk a) (lastOf L) L ≠ 0 then (lineK (mk a) (lastOf L) L, i, L) else rdL (i + 1) (withE (readE (mk a)) L) (pieces 10 (mk r)) := by
  rw [pieces_more h]
  obtain ⟨f, t, e⟩ := pieces_some 10 (mk r)
  rw [e]; rfl
theorem rd_miss {l : List UInt8} (h : (10 : UInt8) ∉ l) (h0 : l ≠ []) (i : Nat) (L : List Ev) : rdL i L (pieces 10 (mk l)) = (1, i, L) := by
  rw [pieces_last h]
  show (if l.toArray.toList = [] then _ else _) = _
  rw [if_neg (by simpa using h0)]
theorem rd_end (i : Nat) (L : List Ev) : rdL i L (pieces 10 (mk [])) = (0, i, L) := by
  rw [pieces_last (by simp)]
  rfl
/-- from a place of the pieces on -/
theorem rd_step {P : List ByteArray} {i : Nat} (h : i + 1 < P.length) (L : List Ev) :
    rdL i L (P.drop i) = if lineK (P.getD i ByteArray.empty) (lastOf L) L ≠ 0 then (lineK (P.getD i ByteArray.empty) (lastOf L) L, i, L) else rdL (i + 1) (withE (readE (P.getD i ByteArray.empty)) L) (P.drop (i + 1)) := by
  have h0 : i < P.length := by omega
  have e1 : P.drop i = P[i] :: P[i + 1] :: P.drop (i + 2) := by rw [List.drop_eq_getElem_cons h0, List.drop_eq_getElem_cons h]
  have e2 : P.drop (i + 1) = P[i + 1] :: P.drop (i + 2) := List.drop_eq_getElem_cons h
  have e3 : P.getD i ByteArray.empty = P[i] := by rw [List.getD_eq_getElem?_getD, List.getElem?_eq_getElem h0]; rfl
  rw [e1, e2, e3]; rfl
theorem rd_fin {P : List ByteArray} {i : Nat} (h : i + 1 = P.length) (L : List Ev) :
    rdL i L (P.drop i) = if (P.getD i ByteArray.empty).data.toList = [] then (0, i, L) else (1, i, L) := by
  have h0 : i < P.length := by omega
  have e1 : P.drop i = [P[i]] := by rw [List.drop_eq_getElem_cons h0, List.drop_eq_nil_of_le (by omega)]
  have e3 : P.getD i ByteArray.empty = P[i] := by rw [List.getD_eq_getElem?_getD, List.getElem?_eq_getElem h0]; rfl
  rw [e1, e3]; rfl
end Bk
end Go.Proofs.YtghkalamlcfnnaaGreatDoor
end

section
/- A calendar that may be nil: its IDs, its text; Same. -/
namespace Go.Proofs.YtghkalamlcfnnaaGreatDoor
open Go Go.RowKit Go.Shelf Lmd
attribute [local go_sem] Oper.semAt_some
namespace Bk
open Evt Tp Rul Day Cand Er

/-- a calendar, or nil -/
def BookO (w : World) (B : Nat) (p : Option Addr) (L : List Ev) : Prop := (p = none ∧ L = []) ∨ ∃ b m, p = some ⟨b, 0, none⟩ ∧ Book w B b m L
theorem Book.or {w : World} {B b m : Nat} {L : List Ev} (h : Book w B b m L) : BookO w B (some ⟨b, 0, none⟩) L := .inr ⟨b, m, rfl, h⟩
theorem BookO.nil (w : World) (B : Nat) : BookO w B none [] := .inl ⟨rfl, rfl⟩
theorem BookO.below {w w' : World} {B : Nat} {p : Option Addr} {L : List Ev} (h : BookO w B p L) (hb : Below w.heap.size w w') : BookO w' B p L := by
  rcases h with h | ⟨b, m, e, h⟩
  · exact .inl h
  · exact .inr ⟨b, m, e, h.below hb⟩
theorem BookO.asc {w : World} {B : Nat} {p : Option Addr} {L : List Ev} (h : BookO w B p L) : Asc L := by
  rcases h with ⟨_, rfl⟩ | ⟨b, m, e, h⟩
  · exact List.Pairwise.nil
  · exact h.asc
theorem BookO.good {w : World} {B : Nat} {p : Option Addr} {L : List Ev} (h : BookO w B p L) : ∀ e ∈ L, badE e = 0 := by
  rcases h with ⟨_, rfl⟩ | ⟨b, m, e, h⟩
  · simp
  · exact h.good
theorem BookO.few {w : World} {B : Nat} {p : Option Addr} {L : List Ev} (h : BookO w B p L) : L.length ≤ 60 := by
  rcases h with ⟨_, rfl⟩ | ⟨b, m, e, h⟩
  · simp
  · exact h.few
theorem BookO.fit {w : World} {B : Nat} {p : Option Addr} {L : List Ev} (h : BookO w B p L) : ∀ e ∈ L, Size e := by
  rcases h with ⟨_, rfl⟩ | ⟨b, m, e, h⟩
  · simp
  · exact h.fit
end Bk
end Go.Proofs.YtghkalamlcfnnaaGreatDoor
end

