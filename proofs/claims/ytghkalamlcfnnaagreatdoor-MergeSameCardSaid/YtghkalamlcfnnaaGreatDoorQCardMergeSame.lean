/- The card of the law MergeSame. No condition beyond the row's own. -/
import Derived.Test.YtghkalamlcfnnaaGreatDoorCards
import Derived.Test.YtghkalamlcfnnaaGreatDoorTie
import Derived.Test.YtghkalamlcfnnaaGreatDoorQCoreMergeSame
import Derived.SevenTiedAt
namespace Go.Proofs.YtghkalamlcfnnaaGreatDoor.MergeSameCard
open Go Go.ChangeShapes Go.WideShapes Go.ChangeAt Go.RowKit Lmd
set_option maxHeartbeats 20000000 in
theorem card : Rows.MergeSameCardSaid :=
  Claim7.holds_tied_plain_at .later [] _ _ _ _ said (fun _ h => by cases h) (by as_aux_lemma => kernel_rfl) (fun _ h => by cases h) mergeSame_row_tie rfl ⟨rfl, rfl⟩ (by as_aux_lemma => kernel_rfl) rfl plain (by as_aux_lemma => kernel_rfl)
end Go.Proofs.YtghkalamlcfnnaaGreatDoor.MergeSameCard
