/- The text of a calendar, in plain Lean. -/
import Derived.Test.YtghkalamlcfnnaaGreatDoorQA4
import Derived.Test.YtghkalamlcfnnaaGreatDoorQA14
import Derived.Test.YtghkalamlcfnnaaGreatDoorQA1
import Derived.Test.YtghkalamlcfnnaaGreatDoorQEvOwn
import Derived.DeepKeys
namespace Go.Proofs.YtghkalamlcfnnaaGreatDoor
open Go Go.RowKit Lmd
namespace Bk
open Evt Rul
end Bk
namespace Evt
end Evt
end Go.Proofs.YtghkalamlcfnnaaGreatDoor
