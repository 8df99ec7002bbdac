/- DfDiff, DfSame: texts joined. -/
import Derived.Test.YtghkalamlcfnnaaGreatDoorQDfOne
import Derived.Test.YtghkalamlcfnnaaGreatDoorQC2
section
namespace Go.Proofs.YtghkalamlcfnnaaGreatDoor
open Go Go.RowKit Go.Shelf Lmd
attribute [local go_sem] Oper.semAt_some
open Go.Proofs (encStr)
namespace Df
open Evt Bk Tp Rul Day Cand Er Txs
theorem mem_kids {k : List UInt8} {L : List Ev} : k ∈ kids L ↔ hasK k L = true := by
  unfold kids
  rw [List.mem_map, hasK_iff]
end Df
end Go.Proofs.YtghkalamlcfnnaaGreatDoor
end
section
namespace Go.Proofs.YtghkalamlcfnnaaGreatDoor
open Go Go.RowKit Go.Shelf Lmd
attribute [local go_sem] Oper.semAt_some
namespace Df
open Evt Bk Tp Rul Day Cand Er
noncomputable instance decChg (c d : Chg) : Decidable (c = d) := Classical.propDecidable _
noncomputable instance decChgs (xs ys : List Chg) : Decidable (xs = ys) := Classical.propDecidable _
end Df
end Go.Proofs.YtghkalamlcfnnaaGreatDoor
end
