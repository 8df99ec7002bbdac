/- EvNl, BkMore, EvSize: texts joined. -/
import Derived.Test.YtghkalamlcfnnaaGreatDoorQEvPutL
import Derived.Test.YtghkalamlcfnnaaGreatDoorQA4
import Derived.Test.YtghkalamlcfnnaaGreatDoorQA16
import Derived.Test.YtghkalamlcfnnaaGreatDoorQEvSet
import Derived.Test.YtghkalamlcfnnaaGreatDoorQA15
import Derived.Test.YtghkalamlcfnnaaGreatDoorQBkBook
import Derived.Test.YtghkalamlcfnnaaGreatDoorQCutLaw
import Derived.Deep.CutRange
import Derived.Test.YtghkalamlcfnnaaGreatDoorQShelf
import Derived.BigQuiet
section
section
namespace Go.Proofs.YtghkalamlcfnnaaGreatDoor
open Go Go.RowKit Go.Shelf Lmd
namespace Evt
open Rul Day Cand Er
end Evt
end Go.Proofs.YtghkalamlcfnnaaGreatDoor
end
section
namespace Go.Proofs.YtghkalamlcfnnaaGreatDoor
open Go Go.RowKit Lmd
namespace Bk
open Evt
theorem asc_once {L : List Ev} (h : Asc L) : L.Nodup := h.imp fun {a b} (hl : key a < key b) (e : a = b) => lt_irrefl (key b) (by rw [e] at hl; exact hl)
theorem asc_ext {a b : List Ev} (ha : Asc a) (hb : Asc b) (h : ∀ x, x ∈ a ↔ x ∈ b) : a = b :=
  List.Perm.eq_of_pairwise (le := fun x y : Ev => key x < key y) (fun _ _ _ _ h1 h2 => absurd (List.lt_trans h1 h2) (lt_irrefl _)) ha hb ((List.perm_ext_iff_of_nodup (asc_once ha) (asc_once hb)).2 h)
end Bk
end Go.Proofs.YtghkalamlcfnnaaGreatDoor
end
section
namespace Go.Proofs.YtghkalamlcfnnaaGreatDoor
open Go Go.RowKit Go.Shelf Lmd
attribute [local go_sem] Oper.semAt_some
namespace Evt
open Rul Day Cand Er Tp
end Evt
end Go.Proofs.YtghkalamlcfnnaaGreatDoor
end
end
section
section
namespace Go.Proofs.YtghkalamlcfnnaaGreatDoor
open Go Go.RowKit Lmd
namespace Bk
open Evt Rul Day Cand Er Tp
theorem readE_fit {s : ByteArray} (hs : s.size ≤ 30000) : Size (readE s) := by
  have hp : ∀ x ∈ pieces 124 s, x.size ≤ 30000 := fun x hx => Nat.le_trans (pieces_le hx) hs
  unfold readE readLE
  split
  · rename_i h
    unfold readLC at h
    split at h
    · rename_i h7
      exact evK_size hp h7 6 (Nat.le_refl _)
    · cases h
  · exact Evt.zero_size
end Bk
end Go.Proofs.YtghkalamlcfnnaaGreatDoor
end
section
namespace Go.Proofs.YtghkalamlcfnnaaGreatDoor
open Go Go.RowKit Go.Shelf Lmd
attribute [local go_sem] Oper.semAt_some
namespace Bk
open Evt Tp Rul Day Cand Er
noncomputable instance decEvs (L M : List Ev) : Decidable (L = M) := Classical.propDecidable _
set_option maxRecDepth 100000 in
theorem ids_nil (w : World) : Calls Tryz.prog 12 #[.pointer none] w fun e w' => e = .returned (.slice none 0 0) ∧ Below w.heap.size w w' := by
  go_enter Tryz.func12, Tryz.ntmps12
  go_wp2
  go_ret
  exact ⟨rfl, Below.refl _ _⟩
def BookO (w : World) (B : Nat) (p : Option Addr) (L : List Ev) : Prop := (p = none ∧ L = []) ∨ ∃ b m, p = some ⟨b, 0, none⟩ ∧ Book w B b m L
theorem Book.or {w : World} {B b m : Nat} {L : List Ev} (h : Book w B b m L) : BookO w B (some ⟨b, 0, none⟩) L := .inr ⟨b, m, rfl, h⟩
theorem BookO.nil (w : World) (B : Nat) : BookO w B none [] := .inl ⟨rfl, rfl⟩
theorem BookO.below {w w' : World} {B : Nat} {p : Option Addr} {L : List Ev} (h : BookO w B p L) (hb : Below w.heap.size w w') : BookO w' B p L := by
  rcases h with h | ⟨b, m, e, h⟩
  · exact .inl h
  · exact .inr ⟨b, m, e, h.below hb⟩
theorem BookO.asc {w : World} {B : Nat} {p : Option Addr} {L : List Ev} (h : BookO w B p L) : Asc L := by
  rcases h with ⟨_, rfl⟩ | ⟨b, m, e, h⟩
  · exact List.Pairwise.nil
  · exact h.asc
theorem BookO.good {w : World} {B : Nat} {p : Option Addr} {L : List Ev} (h : BookO w B p L) : ∀ e ∈ L, badE e = 0 := by
  rcases h with ⟨_, rfl⟩ | ⟨b, m, e, h⟩
  · simp
  · exact h.good
theorem BookO.few {w : World} {B : Nat} {p : Option Addr} {L : List Ev} (h : BookO w B p L) : L.length ≤ 60 := by
  rcases h with ⟨_, rfl⟩ | ⟨b, m, e, h⟩
  · simp
  · exact h.few
theorem ids_or (w : World) (B : Nat) (p : Option Addr) (L : List Ev) (h : BookO w B p L) :
    Calls Tryz.prog 12 #[.pointer p] w fun e w' => ∃ v, e = .returned v ∧ w'.ownsRow w.heap.size 9 1 v L.length (cellsS (idsB L)) ∧ Below w.heap.size w w' := by
  rcases h with ⟨rfl, rfl⟩ | ⟨b, m, rfl, h⟩
  · exact (ids_nil w).mono fun _ _ ⟨h1, h2⟩ => ⟨_, h1, ⟨rfl, .inl ⟨rfl, rfl⟩⟩, h2⟩
  · exact ids_any w B b m L h
end Bk
end Go.Proofs.YtghkalamlcfnnaaGreatDoor
end
end
