/- EvNl, BkMore, EvSize: texts joined. -/
import Derived.Test.YtghkalamlcfnnaaGreatDoorQEvPutL
import Derived.Test.YtghkalamlcfnnaaGreatDoorQA4
import Derived.Test.YtghkalamlcfnnaaGreatDoorQA16
import Derived.Test.YtghkalamlcfnnaaGreatDoorQEvSet
section
/- An event's text has no line's end, in plain Lean. -/
namespace Go.Proofs.YtghkalamlcfnnaaGreatDoor
open Go Go.RowKit Go.Shelf Lmd
namespace Evt
open Rul Day Cand Er

end Evt
end Go.Proofs.YtghkalamlcfnnaaGreatDoor
end

section
/- Calendars, in plain Lean: two with the same events are one; in another order of putting. -/
namespace Go.Proofs.YtghkalamlcfnnaaGreatDoor
open Go Go.RowKit Lmd
namespace Bk
open Evt

end Bk
end Go.Proofs.YtghkalamlcfnnaaGreatDoor
end

section
/- An event behind Set: its size, that it is right. -/
namespace Go.Proofs.YtghkalamlcfnnaaGreatDoor
open Go Go.RowKit Go.Shelf Lmd
attribute [local go_sem] Oper.semAt_some
namespace Evt
open Rul Day Cand Er Tp

end Evt
end Go.Proofs.YtghkalamlcfnnaaGreatDoor
end
