/- Calendars as texts, read: in plain Lean. -/
import Derived.Test.YtenmeaoagepfnaaGreatDoorB6
import Derived.Test.YtenmeaoagepfnaaGreatDoorEvSet
import Derived.Test.YtenmeaoagepfnaaGreatDoorA15
import Derived.Test.YtenmeaoagepfnaaGreatDoorBkBook
import Derived.Test.YtenmeaoagepfnaaGreatDoorB1
namespace Go.Proofs.YtenmeaoagepfnaaGreatDoor
open Go Go.RowKit Lmd
namespace Bk
open Evt Rul Day Cand Er Tp

/-- an event's last ID -/
def lastOf (L : List Ev) : ByteArray := match L.getLast? with | some e => e.id | none => ⟨#[]⟩
theorem lastOf_snoc (L : List Ev) (e : Ev) : lastOf (L ++ [e]) = e.id := by unfold lastOf; rw [List.getLast?_concat]
theorem lastOf_nil : lastOf [] = ⟨#[]⟩ := rfl
/-- what is wrong with a line more behind a last ID: 0: nothing -/
def lineK (s last : ByteArray) (L : List Ev) : Nat := if readC s ≠ 0 then readC s else if last.data.toList < key (readE s) then putK (readE s) L else 8
def lineL (s last : ByteArray) (L : List Ev) : List Ev := if lineK s last L = 0 then withE (readE s) L else L
theorem lineK_bad {s last : ByteArray} {L : List Ev} {c : Nat} (h : readC s = c + 1) : lineK s last L = c + 1 ∧ lineL s last L = L := by
  have h1 : lineK s last L = c + 1 := by unfold lineK; rw [if_pos (by omega), h]
  exact ⟨h1, by unfold lineL; rw [h1, if_neg (by omega)]⟩
theorem lineK_order {s last : ByteArray} {L : List Ev} (h : readC s = 0) (hl : ¬ last.data.toList < key (readE s)) : lineK s last L = 8 ∧ lineL s last L = L := by
  have h1 : lineK s last L = 8 := by unfold lineK; rw [if_neg (by omega), if_neg hl]
  exact ⟨h1, by unfold lineL; rw [h1, if_neg (by omega)]⟩
theorem lineK_put {s last : ByteArray} {L : List Ev} (h : readC s = 0) (hl : last.data.toList < key (readE s)) : lineK s last L = putK (readE s) L ∧ lineL s last L = putL (readE s) L := by
  have h1 : lineK s last L = putK (readE s) L := by unfold lineK; rw [if_neg (by omega), if_pos hl]
  exact ⟨h1, by unfold lineL putL; rw [h1]⟩
/-- an event that is read is right -/
theorem readE_good {s : ByteArray} (h : readC s = 0) : badE (readE s) = 0 := by
  unfold readC at h
  have h0 := h
  unfold readLC at h
  split at h
  · have hall : ∀ j, j < 6 → putC (fAt j) (lAt (pieces 124 s) (j + 1)) = 0 := by
      intro j
      induction j using Nat.strongRecOn with
      | _ j ih =>
        intro hj
        by_cases e : putC (fAt j) (lAt (pieces 124 s) (j + 1)) = 0
        · exact e
        · have := badK_miss (L := pieces 124 s) e (n := 6) (k := 0) (Nat.zero_le _) (by omega) fun i _ hi => ih i hi (by omega)
          rw [h] at this
          exact this.symm
    rw [badK_hit fun j _ hj => hall j (by omega)] at h
    unfold readE readLE
    rw [if_pos h0]; exact h
  · cases h
theorem readE_fit {s : ByteArray} (hs : s.size ≤ 30000) : Size (readE s) := by
  have hp : ∀ x ∈ pieces 124 s, x.size ≤ 30000 := fun x hx => Nat.le_trans (pieces_le hx) hs
  unfold readE readLE
  split
  · rename_i h
    unfold readLC at h
    split at h
    · rename_i h7
      exact evK_size hp h7 6 (Nat.le_refl _)
    · cases h
  · exact Evt.zero_size
theorem key_some {e : Ev} (h : badE e = 0) : ([] : List UInt8) < key e := by
  have h1 := (badE_zero h).1
  unfold nameB at h1
  rw [Bool.and_eq_true, Bool.and_eq_true, decide_eq_true_eq] at h1
  have h2 : key e ≠ [] := fun k => h1.1.1 (by
    have : e.id.data.toList.length = 0 := by
      have : e.id.data.toList = [] := k
      rw [this]; rfl
    rw [Array.length_toList] at this
    exact this)
  cases hk : key e with
  | nil => exact absurd hk h2
  | cons a t => exact List.nil_lt_cons a t
/-- who is behind the last one is behind all -/
theorem asc_last {L : List Ev} {e : Ev} (ha : Asc L) (h : (lastOf L).data.toList < key e) : Asc (L ++ [e]) := by
  refine List.pairwise_append.2 ⟨ha, List.pairwise_singleton _ _, fun x hx y hy => ?_⟩
  rw [List.mem_singleton] at hy
  subst hy
  rcases List.eq_nil_or_concat L with rfl | ⟨M, z, rfl⟩
  · cases hx
  · rw [List.concat_eq_append] at *
    rw [lastOf_snoc] at h
    rcases List.mem_append.1 hx with hx | hx
    · exact List.lt_trans ((List.pairwise_append.1 ha).2.2 x hx z (List.mem_singleton.2 rfl)) h
    · rw [List.mem_singleton] at hx; subst hx; exact h
theorem last_asc {L : List Ev} {e : Ev} (ha : Asc (L ++ [e])) (hg : badE e = 0) : (lastOf L).data.toList < key e := by
  rcases List.eq_nil_or_concat L with rfl | ⟨M, z, rfl⟩
  · exact key_some hg
  · rw [List.concat_eq_append] at *
    rw [lastOf_snoc]
    exact (List.pairwise_append.1 ha).2.2 z (List.mem_append.2 (.inr (List.mem_singleton.2 rfl))) e (List.mem_singleton.2 rfl)
theorem with_last {L : List Ev} {e : Ev} (ha : Asc L) (h : (lastOf L).data.toList < key e) : withE e L = L ++ [e] ∧ hasK (key e) L = false := withE_last (asc_last ha h)
/-- lines read one behind another: the error's number, its place, the events -/
def rdL : Nat → List Ev → List ByteArray → Nat × Nat × List Ev
  | i, L, [] => (0, i, L)
  | i, L, [x] => if x.data.toList = [] then (0, i, L) else (1, i, L)
  | i, L, x :: y :: t => if lineK x (lastOf L) L ≠ 0 then (lineK x (lastOf L) L, i, L) else rdL (i + 1) (withE (readE x) L) (y :: t)
def readB (s : ByteArray) : Nat × Nat × List Ev := rdL 0 [] (pieces 10 s)
theorem pieces_some (c : UInt8) (s : ByteArray) : ∃ f t, pieces c s = f :: t := by
  cases h : pieces c s with
  | cons f t => exact ⟨f, t, rfl⟩
  | nil =>
    rw [str_mk s] at h
    by_cases hc : c ∈ s.data.toList
    · obtain ⟨a, r, e, hn⟩ := split_at hc
      rw [e, pieces_more hn] at h; cases h
    · rw [pieces_last hc] at h; cases h
theorem rd_hit {a r : List UInt8} (h : (10 : UInt8) ∉ a) (i : Nat) (L : List Ev) :
    rdL i L (pieces 10 (mk (a ++ 10 :: r))) = if lineK (mk a) (lastOf L) L ≠ 0 then (lineK (mk a) (lastOf L) L, i, L) else rdL (i + 1) (withE (readE (mk a)) L) (pieces 10 (mk r)) := by
  rw [pieces_more h]
  obtain ⟨f, t, e⟩ := pieces_some 10 (mk r)
  rw [e]; rfl
theorem rd_miss {l : List UInt8} (h : (10 : UInt8) ∉ l) (h0 : l ≠ []) (i : Nat) (L : List Ev) : rdL i L (pieces 10 (mk l)) = (1, i, L) := by
  rw [pieces_last h]
  show (if l.toArray.toList = [] then _ else _) = _
  rw [if_neg (by simpa using h0)]
theorem rd_end (i : Nat) (L : List Ev) : rdL i L (pieces 10 (mk [])) = (0, i, L) := by
  rw [pieces_last (by simp)]
  rfl
/-- events one behind another as they were written -/
theorem rd_text : ∀ (t M : List Ev) (i : Nat), Asc (M ++ t) → (∀ e ∈ t, badE e = 0) → (M ++ t).length ≤ 60 → rdL i M (pieces 10 (mk (textB t))) = (0, i + t.length, M ++ t)
  | [], M, i, _, _, _ => by rw [show textB [] = [] from rfl, rd_end, List.append_nil]; rfl
  | e :: t, M, i, ha, hg, hl => by
    have hge := hg e (List.mem_cons_self ..)
    have e1 : textB (e :: t) = textE e ++ 10 :: textB t := by show (textE e ++ [10]) ++ textB t = _; rw [List.append_assoc]; rfl
    have ha' : Asc (M ++ [e]) := by
      have : M ++ e :: t = (M ++ [e]) ++ t := by rw [List.append_assoc]; rfl
      rw [this] at ha
      exact (List.pairwise_append.1 ha).1
    have hM : Asc M := (List.pairwise_append.1 ha').1
    obtain ⟨b1, b2⟩ := text_back hge
    have hlt := last_asc ha' hge
    have hk : lineK (mk (textE e)) (lastOf M) M = 0 := by
      rw [(lineK_put b1 (by rw [b2]; exact hlt)).1, b2]
      refine (putK_good hge (.inr ?_)).1
      rw [List.length_append, List.length_cons] at hl; omega
    rw [e1, rd_hit (text_nl hge), if_neg (by rw [hk]; simp), b2, (with_last hM hlt).1]
    have e2 : (M ++ [e]) ++ t = M ++ e :: t := by rw [List.append_assoc]; rfl
    rw [rd_text t (M ++ [e]) (i + 1) (by rw [e2]; exact ha) (fun x hx => hg x (List.mem_cons_of_mem _ hx)) (by rw [e2]; exact hl), e2, List.length_cons]
    congr 2; omega
/-- A CALENDAR IS READ AS IT WAS WRITTEN -/
theorem book_back {L : List Ev} (ha : Asc L) (hg : ∀ e ∈ L, badE e = 0) (hl : L.length ≤ 60) : readB (mk (textB L)) = (0, L.length, L) := by
  have := rd_text L [] 0 ha hg hl
  rw [Nat.zero_add] at this
  exact this
/-- from a place of the pieces on -/
theorem rd_step {P : List ByteArray} {i : Nat} (h : i + 1 < P.length) (L : List Ev) :
    rdL i L (P.drop i) = if lineK (P.getD i ByteArray.empty) (lastOf L) L ≠ 0 then (lineK (P.getD i ByteArray.empty) (lastOf L) L, i, L) else rdL (i + 1) (withE (readE (P.getD i ByteArray.empty)) L) (P.drop (i + 1)) := by
  have h0 : i < P.length := by omega
  have e1 : P.drop i = P[i] :: P[i + 1] :: P.drop (i + 2) := by rw [List.drop_eq_getElem_cons h0, List.drop_eq_getElem_cons h]
  have e2 : P.drop (i + 1) = P[i + 1] :: P.drop (i + 2) := List.drop_eq_getElem_cons h
  have e3 : P.getD i ByteArray.empty = P[i] := by rw [List.getD_eq_getElem?_getD, List.getElem?_eq_getElem h0]; rfl
  rw [e1, e2, e3]; rfl
theorem rd_fin {P : List ByteArray} {i : Nat} (h : i + 1 = P.length) (L : List Ev) :
    rdL i L (P.drop i) = if (P.getD i ByteArray.empty).data.toList = [] then (0, i, L) else (1, i, L) := by
  have h0 : i < P.length := by omega
  have e1 : P.drop i = [P[i]] := by rw [List.drop_eq_getElem_cons h0, List.drop_eq_nil_of_le (by omega)]
  have e3 : P.getD i ByteArray.empty = P[i] := by rw [List.getD_eq_getElem?_getD, List.getElem?_eq_getElem h0]; rfl
  rw [e1, e3]; rfl
end Bk
end Go.Proofs.YtenmeaoagepfnaaGreatDoor
