/- BkOf, BkRPut, BkOfW, BkLong, Texts: texts joined. -/
import Derived.Test.YtghkalamlcfnnaaGreatDoorQBkBook
import Derived.Test.YtghkalamlcfnnaaGreatDoorQBkRef
import Derived.Deep.CutRange
import Derived.Test.YtghkalamlcfnnaaGreatDoorQA6
import Derived.Test.YtghkalamlcfnnaaGreatDoorQRuleText
import Derived.Deep.QuietTactic
import Derived.BigQuiet
import Derived.Laws.AppendOwnNone
import Derived.OwnWalk
section
/- The law's BookOf: a calendar and its model. -/
namespace Go.Proofs.YtghkalamlcfnnaaGreatDoor
open Go Go.RowKit Go.Shelf Lmd
attribute [local go_sem] Oper.semAt_some
namespace Bk
open Evt Tp Rul Day Cand Er

end Bk
end Go.Proofs.YtghkalamlcfnnaaGreatDoor
end

section
/- The document's calendars: Put. -/
namespace Go.Proofs.YtghkalamlcfnnaaGreatDoor
open Go Go.RowKit Go.Shelf Lmd
attribute [local go_sem] Oper.semAt_some
namespace Bk
open Evt Tp Rul Day Cand Er

end Bk
end Go.Proofs.YtghkalamlcfnnaaGreatDoor
end

section
/- The law's BookOf, walked. -/
namespace Go.Proofs.YtghkalamlcfnnaaGreatDoor
open Go Go.RowKit Go.Shelf Lmd
attribute [local go_sem] Oper.semAt_some
namespace Bk
open Evt Tp Rul Day Cand Er

/-- a calendar and its model -/
structure Both (w W : World) (p : Nat) (L : List Ev) (v : Value) (ys : List EvV) : Prop where
  low : Below w.heap.size w W
  book : Book W p (p + 1) p L
  model : EReads W v ys
  same : ys.map (·.e) = L
end Bk
end Go.Proofs.YtghkalamlcfnnaaGreatDoor
end

section
/- The law's LongEvents. -/
namespace Go.Proofs.YtghkalamlcfnnaaGreatDoor
open Go Go.RowKit Go.Shelf Lmd
attribute [local go_sem] Oper.semAt_some
namespace Bk
open Evt Tp Rul Day Cand Er

end Bk
end Go.Proofs.YtghkalamlcfnnaaGreatDoor
end

section
/- Slices of texts that are only read; the reference's SameTexts. -/
namespace Go.Proofs.YtghkalamlcfnnaaGreatDoor
open Go Go.RowKit Lmd
namespace Tx
open Rul

/-- a slice of texts -/
def Rd (w : World) (v : Value) (xs : List ByteArray) : Prop :=
  (xs = [] ∧ ∃ a c, v = .slice a 0 c) ∨ ∃ b off c, v = .slice (some ⟨b, off, none⟩) xs.length c ∧ ∀ (j : Nat) x, xs[j]? = some x → w.cell? ⟨b, off + j, none⟩ = some (.string x)
theorem Rd.shape {w : World} {v : Value} {xs : List ByteArray} (h : Rd w v xs) : ∃ a c, v = .slice a xs.length c := by
  rcases h with ⟨rfl, a, c, rfl⟩ | ⟨b, off, c, rfl, _⟩
  · exact ⟨a, c, rfl⟩
  · exact ⟨_, c, rfl⟩
theorem Rd.at {w : World} {v : Value} {xs : List ByteArray} (h : Rd w v xs) (hx : xs ≠ []) : ∃ b off c, v = .slice (some ⟨b, off, none⟩) xs.length c ∧ ∀ (j : Nat) x, xs[j]? = some x → w.cell? ⟨b, off + j, none⟩ = some (.string x) :=
  h.resolve_left (fun h => hx h.1)
theorem Rd.below {w w' : World} {v : Value} {xs : List ByteArray} (h : Rd w v xs) (hb : Below w.heap.size w w') : Rd w' v xs := by
  rcases h with h | ⟨b, off, c, rfl, hc⟩
  · exact .inl h
  · exact .inr ⟨b, off, c, rfl, fun j x hx => cell_later hb (hc j x hx)⟩
theorem rd_own {w : World} {base : Nat} {v : Value} {n : Nat} {xs : List ByteArray} (h : w.ownsRow base 9 1 v n (cellsS xs)) (hn : n = xs.length) : Rd w v xs := by
  rcases reads_ownS h hn with ⟨h1, h2⟩ | ⟨g, cap, h1, _, _, h2⟩
  · exact .inl ⟨h1, none, 0, h2⟩
  · exact .inr ⟨g, 0, cap, h1, h2⟩
end Tx
end Go.Proofs.YtghkalamlcfnnaaGreatDoor
end
