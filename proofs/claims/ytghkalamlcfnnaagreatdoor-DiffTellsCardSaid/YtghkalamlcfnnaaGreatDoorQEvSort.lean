/- slices.Sort and slices.Compact at numbers in a row of one's own, each in one statement; what they make, in plain Lean. -/
import Derived.Lib.SlicesCompact
import Derived.Test.YtghkalamlcfnnaaGreatDoorQA5
import Derived.Test.YtghkalamlcfnnaaGreatDoorQEvLists
namespace Lmd.Cpt
open Go Go.Lib
def uniq (l : List Int) : List Int := compact (l.mergeSort fun x y => decide (x ≤ y))
end Lmd.Cpt
namespace Go.Proofs.YtghkalamlcfnnaaGreatDoor
open Go Go.RowKit Go.Shelf Lmd
namespace Evt
open Rul Day Cand
end Evt
end Go.Proofs.YtghkalamlcfnnaaGreatDoor
