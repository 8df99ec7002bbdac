/- Events of a calendar, one by one. -/
import Derived.Test.YtenmeaoagepfnaaGreatDoorB3
import Derived.Test.YtenmeaoagepfnaaGreatDoorA13
namespace Go.Proofs.YtenmeaoagepfnaaGreatDoor
open Go Go.RowKit Go.Shelf Lmd
attribute [local go_sem] Oper.semAt_some
namespace Bk
open Evt Tp Rul Day Cand Er

theorem key_id {x : Ev} {s : ByteArray} : x.id = s ↔ key x = s.data.toList := by
  unfold key
  constructor
  · intro h; rw [h]
  · intro h; rw [str_mk x.id, h]
/-- an event of a book, behind a name -/
def elE (L : List Ev) (k : Nat) : Ev := L[k]?.getD zV.e
theorem elE_lt {L : List Ev} {k : Nat} (h : k < L.length) : elE L k = L[k] := by simp [elE, h]
theorem elE_mem {L : List Ev} {k : Nat} (h : k < L.length) : elE L k ∈ L := by rw [elE_lt h]; exact List.getElem_mem h
theorem elE_take {L : List Ev} {k : Nat} (h : k < L.length) : L.take (k + 1) = L.take k ++ [elE L k] := by
  rw [List.take_succ_eq_append_getElem h, elE_lt h]
theorem idsB_at {L : List Ev} {k : Nat} (h : k < L.length) : (idsB L)[k]? = some (elE L k).id := by
  rw [idsB, List.getElem?_map, List.getElem?_eq_getElem h, elE_lt h]; rfl
theorem rd_ids {w : World} {base : Nat} {v : Value} {L : List Ev} (h : w.ownsRow base 9 1 v L.length (cellsS (idsB L))) : Tx.Rd w v (idsB L) := Tx.rd_own h (by simp [idsB])
end Bk
end Go.Proofs.YtenmeaoagepfnaaGreatDoor
