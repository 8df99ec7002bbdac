/- Three calendars made one, in plain Lean. -/
import Derived.Test.YtghkalamlcfnnaaGreatDoorQC2
import Derived.Test.YtghkalamlcfnnaaGreatDoorQEvSort
namespace Go.Proofs.YtghkalamlcfnnaaGreatDoor
open Go Go.RowKit Lmd
namespace Mg
open Evt Bk Df Rul Day Cand Er Tp
def pickG {α : Type} [DecidableEq α] (base a b : α) : α × Bool := if a = b ∨ b = base then (a, true) else if a = base then (b, true) else (base, false)
section
variable {α : Type} [DecidableEq α]
end
def skM (x y z : List Int) : List Int := (Lmd.Cpt.uniq (x ++ y ++ z)).filter fun d => (pickG (x.contains d) (y.contains d) (z.contains d)).1
def toI (l : List (Int × Int)) (f : Int) : Int := match l.find? (fun m => decide (m.1 = f)) with | some m => m.2 | none => -1
def mvK (x y z : List (Int × Int)) : List Int → List (Int × Int) → List (Int × Int) × Bool
  | [], o => (o, true)
  | f :: t, o => if (pickG (toI x f) (toI y f) (toI z f)).2 = false then ([], false) else mvK x y z t (if 0 ≤ (pickG (toI x f) (toI y f) (toI z f)).1 then o ++ [(f, (pickG (toI x f) (toI y f) (toI z f)).1)] else o)
def mvM (x y z : List (Int × Int)) : List (Int × Int) × Bool := mvK x y z (Lmd.Cpt.uniq (froms x ++ froms y ++ froms z)) []
noncomputable def pk (x y z : Ev) (f : ByteArray) : ByteArray × Bool := pickG (getL x f) (getL y f) (getL z f)
noncomputable def src (x y z : Ev) (f : ByteArray) : Ev :=
  if (pk x y z f).2 = true then (if (pk x y z f).1 = getL y f then y else z)
  else if f = fSkips then { y with sk := skM x.sk y.sk z.sk }
  else if f = fMoves then { y with mv := (mvM x.mv y.mv z.mv).1 }
  else y
noncomputable def txt (k : List UInt8) (L : List Ev) : ByteArray := if hasK k L = true then mk (textE (foundE k L)) else nilB
theorem textE_ne (e : Ev) : mk (textE e) ≠ nilB := by
  intro h
  have h1 : textE e = [] := by
    have := congrArg (fun b : ByteArray => b.data.toList) h
    simpa [nilB] using this
  unfold textE partsE fieldL at h1
  simp [Lib.join_cons, Lib.joinTail] at h1
theorem txt_nil {k : List UInt8} {L : List Ev} : txt k L = nilB ↔ hasK k L = false := by
  unfold txt
  split
  · rename_i h; rw [h]; exact ⟨fun e => absurd e (textE_ne _), fun e => by cases e⟩
  · rename_i h; exact ⟨fun _ => by simpa using h, fun _ => rfl⟩
end Mg
end Go.Proofs.YtghkalamlcfnnaaGreatDoor
