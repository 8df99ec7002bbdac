/- package diff: get, one. -/
import Derived.Test.YtghkalamlcfnnaaGreatDoorQC2
import Derived.Test.YtghkalamlcfnnaaGreatDoorQC1
import Derived.BigQuiet
namespace Go.Proofs.YtghkalamlcfnnaaGreatDoor
open Go Go.RowKit Go.Shelf Lmd
attribute [local go_sem] Oper.semAt_some
namespace Df
open Evt Bk Tp Rul Day Cand Er
theorem getF_any (e : Ev) (vd vs vm : Value) (f : ByteArray) (er : Nat → Addr) (w : World) (hT : Tb w er) (hr : Rv w e vd vs vm) (hz : Size e) (hbad : badE e = 0) :
    Calls Tryz.prog 94 #[.agg (e.cells vd vs vm), .string f] w fun r w' => r = .returned (.string (getL e f)) ∧ Below w.heap.size w w' :=
  Evt.get_any e vd vs vm f er w hT hr hz (by have := (badE_zero hbad).2.2.2.1; omega) (by have := (badE_zero hbad).2.2.2.1; omega) (movesC hT hr.m (etextW_le hbad))
end Df
end Go.Proofs.YtghkalamlcfnnaaGreatDoor
