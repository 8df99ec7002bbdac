/- Changes' errors, in plain Lean; the errors of changes out of all errors. -/
import Derived.Test.YtghkalamlcfnnaaGreatDoorQC5
import Derived.Test.YtghkalamlcfnnaaGreatDoorQD6
namespace Go.Proofs.YtghkalamlcfnnaaGreatDoor
open Go Go.RowKit Go.Shelf Lmd
namespace Df
open Evt Bk Tp Rul Day Cand Er
theorem nine_of {w : World} {e : Nat → Addr} (h : Errs w e) : E9 w e := ⟨Evt.seven h, h.s4, h.s8⟩
theorem chK_le (c : Chg) (L : List Ev) : chK c L ≤ 9 := by
  have h1 := readC_le c.new
  have h2 := putK_le8 (readE c.new) L
  have h3 := setC_le (foundE c.k L) c.fi c.new
  have h4 := putK_le8 (setE (foundE c.k L) c.fi c.new) L
  unfold chK
  repeat' split
  all_goals omega
theorem apL_le : ∀ (l : List Chg) (i : Nat) (L : List Ev), (apL i L l).1 ≤ 9
  | [], _, _ => Nat.zero_le _
  | c :: t, i, L => by
    unfold apL
    split
    · exact chK_le c L
    · exact apL_le t _ _
theorem apP_at {w w' : World} {a : List Ev} {cs : List Chg} {er : Nat → Addr} {r : Ending} (h : ApP w a cs er r w') (hc : (apL 0 a cs).1 ≠ 0) :
    Below w.heap.size w w' ∧ ∃ f, r = .returned (.tuple #[.pointer none, .iface 110 (.pointer (some ⟨f, 0, none⟩))]) ∧ w'.heap[f]? = some (.cells #[.int .i64 ((apL 0 a cs).2.1 : Nat), errV er (apL 0 a cs).1] 112 (0, 0)) := by
  obtain ⟨h1, h2⟩ := h
  rw [if_neg hc] at h2
  exact ⟨h1, h2⟩
def SmallC (c : Chg) : Prop := c.id.size ≤ 30 ∧ c.fi.size ≤ 20 ∧ c.old.size ≤ 900 ∧ c.new.size ≤ 900
end Df
end Go.Proofs.YtghkalamlcfnnaaGreatDoor
