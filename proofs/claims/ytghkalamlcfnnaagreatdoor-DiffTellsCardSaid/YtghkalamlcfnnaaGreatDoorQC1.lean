/- EvNl, BkMore, EvSize: texts joined. -/
import Derived.Test.YtghkalamlcfnnaaGreatDoorQEvPutL
import Derived.Test.YtghkalamlcfnnaaGreatDoorQA5
import Derived.Test.YtghkalamlcfnnaaGreatDoorQA16
import Derived.Test.YtghkalamlcfnnaaGreatDoorQEvSet
import Derived.Test.YtghkalamlcfnnaaGreatDoorQBkBook
import Derived.Test.YtghkalamlcfnnaaGreatDoorQCutLaw
import Derived.Deep.CutRange
import Derived.Test.YtghkalamlcfnnaaGreatDoorQShelf
import Derived.BigQuiet
section
section
namespace Go.Proofs.YtghkalamlcfnnaaGreatDoor
open Go Go.RowKit Go.Shelf Lmd
namespace Evt
open Rul Day Cand Er
end Evt
end Go.Proofs.YtghkalamlcfnnaaGreatDoor
end
section
namespace Go.Proofs.YtghkalamlcfnnaaGreatDoor
open Go Go.RowKit Lmd
namespace Bk
open Evt
end Bk
end Go.Proofs.YtghkalamlcfnnaaGreatDoor
end
section
namespace Go.Proofs.YtghkalamlcfnnaaGreatDoor
open Go Go.RowKit Go.Shelf Lmd
attribute [local go_sem] Oper.semAt_some
namespace Evt
open Rul Day Cand Er Tp
theorem setE_size {e : Ev} (hz : Size e) (f : ByteArray) {s : ByteArray} (hs : s.size ≤ 30000) : Size (setE e f s) := by
  unfold setE
  split
  · exact ev_put_size hz f hs
  · exact zero_size
theorem setE_good {e : Ev} {f s : ByteArray} (h : setC e f s = 0) : badE (setE e f s) = 0 := by
  have h2 : setE e f s = putE e f s := by unfold setE; rw [if_pos h]
  rw [h2]
  unfold setC at h
  split at h
  · omega
  · exact h
end Evt
end Go.Proofs.YtghkalamlcfnnaaGreatDoor
end
end
section
section
namespace Go.Proofs.YtghkalamlcfnnaaGreatDoor
open Go Go.RowKit Lmd
namespace Bk
open Evt Rul Day Cand Er Tp
theorem readE_good {s : ByteArray} (h : readC s = 0) : badE (readE s) = 0 := by
  unfold readC at h
  have h0 := h
  unfold readLC at h
  split at h
  · have hall : ∀ j, j < 6 → putC (fAt j) (lAt (pieces 124 s) (j + 1)) = 0 := by
      intro j
      induction j using Nat.strongRecOn with
      | _ j ih =>
        intro hj
        by_cases e : putC (fAt j) (lAt (pieces 124 s) (j + 1)) = 0
        · exact e
        · have := badK_miss (L := pieces 124 s) e (n := 6) (k := 0) (Nat.zero_le _) (by omega) fun i _ hi => ih i hi (by omega)
          rw [h] at this
          exact this.symm
    rw [badK_hit fun j _ hj => hall j (by omega)] at h
    unfold readE readLE
    rw [if_pos h0]; exact h
  · cases h
theorem readE_fit {s : ByteArray} (hs : s.size ≤ 30000) : Size (readE s) := by
  have hp : ∀ x ∈ pieces 124 s, x.size ≤ 30000 := fun x hx => Nat.le_trans (pieces_le hx) hs
  unfold readE readLE
  split
  · rename_i h
    unfold readLC at h
    split at h
    · rename_i h7
      exact evK_size hp h7 6 (Nat.le_refl _)
    · cases h
  · exact Evt.zero_size
end Bk
end Go.Proofs.YtghkalamlcfnnaaGreatDoor
end
section
namespace Go.Proofs.YtghkalamlcfnnaaGreatDoor
open Go Go.RowKit Go.Shelf Lmd
attribute [local go_sem] Oper.semAt_some
namespace Bk
open Evt Tp Rul Day Cand Er
set_option maxRecDepth 100000 in
theorem ids_nil (w : World) : Calls Tryz.prog 12 #[.pointer none] w fun e w' => e = .returned (.slice none 0 0) ∧ Below w.heap.size w w' := by
  go_enter Tryz.func12, Tryz.ntmps12
  go_wp2
  go_ret
  exact ⟨rfl, Below.refl _ _⟩
def BookO (w : World) (B : Nat) (p : Option Addr) (L : List Ev) : Prop := (p = none ∧ L = []) ∨ ∃ b m, p = some ⟨b, 0, none⟩ ∧ Book w B b m L
theorem Book.or {w : World} {B b m : Nat} {L : List Ev} (h : Book w B b m L) : BookO w B (some ⟨b, 0, none⟩) L := .inr ⟨b, m, rfl, h⟩
theorem BookO.nil (w : World) (B : Nat) : BookO w B none [] := .inl ⟨rfl, rfl⟩
theorem BookO.below {w w' : World} {B : Nat} {p : Option Addr} {L : List Ev} (h : BookO w B p L) (hb : Below w.heap.size w w') : BookO w' B p L := by
  rcases h with h | ⟨b, m, e, h⟩
  · exact .inl h
  · exact .inr ⟨b, m, e, h.below hb⟩
theorem BookO.good {w : World} {B : Nat} {p : Option Addr} {L : List Ev} (h : BookO w B p L) : ∀ e ∈ L, badE e = 0 := by
  rcases h with ⟨_, rfl⟩ | ⟨b, m, e, h⟩
  · simp
  · exact h.good
theorem BookO.few {w : World} {B : Nat} {p : Option Addr} {L : List Ev} (h : BookO w B p L) : L.length ≤ 60 := by
  rcases h with ⟨_, rfl⟩ | ⟨b, m, e, h⟩
  · simp
  · exact h.few
theorem BookO.fit {w : World} {B : Nat} {p : Option Addr} {L : List Ev} (h : BookO w B p L) : ∀ e ∈ L, Size e := by
  rcases h with ⟨_, rfl⟩ | ⟨b, m, e, h⟩
  · simp
  · exact h.fit
theorem ids_or (w : World) (B : Nat) (p : Option Addr) (L : List Ev) (h : BookO w B p L) :
    Calls Tryz.prog 12 #[.pointer p] w fun e w' => ∃ v, e = .returned v ∧ w'.ownsRow w.heap.size 9 1 v L.length (cellsS (idsB L)) ∧ Below w.heap.size w w' := by
  rcases h with ⟨rfl, rfl⟩ | ⟨b, m, rfl, h⟩
  · exact (ids_nil w).mono fun _ _ ⟨h1, h2⟩ => ⟨_, h1, ⟨rfl, .inl ⟨rfl, rfl⟩⟩, h2⟩
  · exact ids_any w B b m L h
end Bk
end Go.Proofs.YtghkalamlcfnnaaGreatDoor
end
end
