/- Evented, IntsSame, SameEv: texts joined. -/
import Derived.Test.YtghkalamlcfnnaaGreatDoorQA15
import Derived.Test.YtghkalamlcfnnaaGreatDoorQA4
import Derived.Test.YtghkalamlcfnnaaGreatDoorQA14
import Derived.Test.YtghkalamlcfnnaaGreatDoorQA1
import Derived.Test.YtghkalamlcfnnaaGreatDoorQEvOwn
import Derived.DeepKeys
section
namespace Go.Proofs.YtghkalamlcfnnaaGreatDoor
open Go Go.RowKit Go.Shelf Lmd
attribute [local go_sem] Oper.semAt_some
namespace Evt
open Rul Day Cand Er
def e0 : Ev := ⟨⟨#[97]⟩, ⟨#[65, 32, 98]⟩, 5, 1, ⟨once, 1, 0, -1, []⟩, [], []⟩
end Evt
end Go.Proofs.YtghkalamlcfnnaaGreatDoor
end
section
namespace Go.Proofs.YtghkalamlcfnnaaGreatDoor
open Go.RowKit
namespace Ints
end Ints
end Go.Proofs.YtghkalamlcfnnaaGreatDoor
end
section
namespace Go.Proofs.YtghkalamlcfnnaaGreatDoor
open Go Go.RowKit Go.Shelf Lmd
attribute [local go_sem] Oper.semAt_some
namespace Evt
open Rul Day Cand Er
end Evt
end Go.Proofs.YtghkalamlcfnnaaGreatDoor
end
