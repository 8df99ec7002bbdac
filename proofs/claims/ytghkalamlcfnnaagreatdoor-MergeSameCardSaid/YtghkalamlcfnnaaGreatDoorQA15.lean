/- The text of a calendar, in plain Lean. -/
import Derived.Test.YtghkalamlcfnnaaGreatDoorQA4
import Derived.Test.YtghkalamlcfnnaaGreatDoorQA14
import Derived.Test.YtghkalamlcfnnaaGreatDoorQA1
import Derived.Test.YtghkalamlcfnnaaGreatDoorQEvOwn
import Derived.DeepKeys
namespace Go.Proofs.YtghkalamlcfnnaaGreatDoor
open Go Go.RowKit Lmd
namespace Bk
open Evt Rul
noncomputable def textB (L : List Ev) : List UInt8 := L.flatMap fun e => textE e ++ [10]
theorem textB_snoc (L : List Ev) (e : Ev) : textB (L ++ [e]) = textB L ++ (textE e ++ [10]) := by simp [textB]
theorem textB_ne {L : List Ev} (h : L ≠ []) : textB L ≠ [] := by
  cases L with
  | nil => exact absurd rfl h
  | cons e t => simp [textB]
theorem put1_last {e : Ev} : ∀ {L : List Ev}, (∀ x ∈ L, ¬ key e < key x) → put1 e L = L ++ [e]
  | [], _ => rfl
  | y :: t, h => by
    show (if key e < key y then e :: y :: t else y :: put1 e t) = _
    rw [if_neg (h y (List.mem_cons_self ..)), put1_last fun x hx => h x (List.mem_cons_of_mem _ hx)]; rfl
theorem withE_last {L : List Ev} {e : Ev} (h : Asc (L ++ [e])) : withE e L = L ++ [e] ∧ hasK (key e) L = false := by
  have hlt : ∀ x ∈ L, key x < key e := fun x hx => (List.pairwise_append.1 h).2.2 x hx e (List.mem_singleton.2 rfl)
  have hno : hasK (key e) L = false := hasK_false.2 fun x hx he => lt_irrefl _ (he ▸ hlt x hx)
  refine ⟨?_, hno⟩
  unfold withE
  rw [without_none hno]
  exact put1_last fun x hx hl => lt_irrefl _ (List.lt_trans hl (hlt x hx))
end Bk
namespace Evt
end Evt
end Go.Proofs.YtghkalamlcfnnaaGreatDoor
