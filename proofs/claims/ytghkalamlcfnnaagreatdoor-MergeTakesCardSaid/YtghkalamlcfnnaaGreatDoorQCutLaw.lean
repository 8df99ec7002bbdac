/- A text cut at a byte: plain laws. -/
import Derived.Test.YtghkalamlcfnnaaGreatDoorQNumPlain
import Derived.Lib.IndexMore
import Derived.Test.YtghkalamlcfnnaaGreatDoorQA6
namespace Go.Proofs.YtghkalamlcfnnaaGreatDoor
open Go Go.RowKit Go.Shelf Lmd
namespace Tp
open Rul
theorem cut_hit {c : UInt8} {a r : List UInt8} (h : c ∉ a) : Lib.cut (a ++ c :: r) [c] = (a, r, true) := by
  have hx : Lib.index (a ++ c :: r) [c] = (a.length : Int) := (Lib.index_one _ c).trans (ix_some h)
  simp [Lib.cut, hx]
end Tp
end Go.Proofs.YtghkalamlcfnnaaGreatDoor
