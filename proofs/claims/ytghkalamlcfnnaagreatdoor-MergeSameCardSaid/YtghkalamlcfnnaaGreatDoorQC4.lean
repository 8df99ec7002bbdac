/- DfWhole, DfChange, DfApply: texts joined. -/
import Derived.Test.YtghkalamlcfnnaaGreatDoorQDfOne
import Derived.Test.YtghkalamlcfnnaaGreatDoorQC1
section
namespace Go.Proofs.YtghkalamlcfnnaaGreatDoor
open Go Go.RowKit Go.Shelf Lmd
attribute [local go_sem] Oper.semAt_some
namespace Df
open Evt Bk Tp Rul Day Cand Er
structure E9 (w : World) (er : Nat → Addr) : Prop where
  seven : E7 w er
  s4 : Frame.Sent w 4 (tx [110, 111, 110, 101]) (er 4)
  s8 : Frame.Sent w 5 (tx [115, 116, 97, 108, 101]) (er 8)
end Df
end Go.Proofs.YtghkalamlcfnnaaGreatDoor
end
section
namespace Go.Proofs.YtghkalamlcfnnaaGreatDoor
open Go Go.RowKit Go.Shelf Lmd
attribute [local go_sem] Oper.semAt_some
namespace Df
open Evt Bk Tp Rul Day Cand Er
end Df
end Go.Proofs.YtghkalamlcfnnaaGreatDoor
end
section
namespace Go.Proofs.YtghkalamlcfnnaaGreatDoor
open Go Go.RowKit Go.Shelf Lmd
attribute [local go_sem] Oper.semAt_some
namespace Df
open Evt Bk Tp Rul Day Cand Er
structure ApAt (w : World) (a : List Ev) (cs : List Chg) (B k : Nat) (L : List Ev) (W : World) : Prop where
  rel : apL 0 a cs = apL k L (cs.drop k)
  book : Book W B (B + 1) B L
  low : Below w.heap.size w W
end Df
end Go.Proofs.YtghkalamlcfnnaaGreatDoor
end
