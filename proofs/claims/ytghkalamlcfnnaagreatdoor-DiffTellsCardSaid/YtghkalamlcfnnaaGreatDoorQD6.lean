/- CodeLe, TxRd: texts joined. -/
import Derived.Test.YtghkalamlcfnnaaGreatDoorQC1
section
namespace Go.Proofs.YtghkalamlcfnnaaGreatDoor
open Go Go.RowKit Lmd
namespace Evt
open Rul Day Cand Er Tp
theorem bad_le8 (r : Ru) : bad r ≤ 8 := by unfold bad; split <;> (try split) <;> (try split) <;> (try split) <;> omega
theorem badE_le8 (e : Ev) : badE e ≤ 8 := by
  have h1 : badL e ≤ 8 := by
    unfold badL
    repeat' split
    all_goals omega
  have h2 := bad_le8 e.ru
  unfold badE
  repeat' split
  all_goals omega
theorem dayC_le2 (l : List UInt8) : dayC l ≤ 2 := by unfold dayC; split <;> (try split) <;> omega
theorem tailC_le2 (l : List ByteArray) : tailC l ≤ 2 := by
  unfold tailC
  repeat' split
  all_goals first
    | exact dayC_le2 _
    | omega
theorem readS_le8 (s : ByteArray) : (readS s).1 ≤ 8 := by
  unfold readS
  split
  · exact Nat.zero_le _
  · generalize pieces 32 s = L
    rcases L with _ | ⟨f, _ | ⟨n, t⟩⟩
    · simp [readCR]
    · simp [readCR]
    · simp only [readCR]
      split
      · split
        · exact Nat.le_trans (tailC_le2 _) (by decide)
        · split
          · show 1 ≤ 8; omega
          · split
            · exact bad_le8 _
            · exact Nat.zero_le _
      · show 1 ≤ 8; omega
theorem skC_le : ∀ L : List ByteArray, skC L ≤ 2
  | [] => Nat.zero_le _
  | x :: t => by
    unfold skC
    split
    · exact dayC_le2 _
    · exact skC_le t
theorem mvC1_le (x : ByteArray) : mvC1 x ≤ 2 := by
  unfold mvC1
  repeat' split
  all_goals first
    | exact dayC_le2 _
    | omega
theorem mvC_le : ∀ L : List ByteArray, mvC L ≤ 2
  | [] => Nat.zero_le _
  | x :: t => by
    unfold mvC
    split
    · exact mvC1_le _
    · exact mvC_le t
theorem putC_le (f s : ByteArray) : putC f s ≤ 8 := by
  have h1 := dayC_le2 s.data.toList
  have h2 := readS_le8 s
  have h3 := skC_le (listP s)
  have h4 := mvC_le (listP s)
  unfold putC
  repeat' split
  all_goals omega
theorem setC_le (e : Ev) (f s : ByteArray) : setC e f s ≤ 8 := by
  unfold setC
  split
  · exact putC_le _ _
  · exact badE_le8 _
theorem badK_le (L : List ByteArray) : ∀ n k, badK L k n ≤ 8
  | 0, _ => badE_le8 _
  | n + 1, k => by
    unfold badK
    split
    · exact putC_le _ _
    · exact badK_le L n _
theorem readC_le (s : ByteArray) : readC s ≤ 8 := by
  unfold readC readLC
  split
  · exact badK_le _ _ _
  · omega
end Evt
namespace Bk
open Evt Rul Day Cand Er Tp
theorem putK_le8 (e : Ev) (L : List Ev) : putK e L ≤ 8 := by
  have := badE_le8 e
  unfold putK; split
  · omega
  · split <;> omega
end Bk
end Go.Proofs.YtghkalamlcfnnaaGreatDoor
end
section
namespace Lmd.Cal
open Go
end Lmd.Cal
namespace Go.Proofs.YtghkalamlcfnnaaGreatDoor
open Go Go.RowKit Lmd
namespace Bk
open Evt Rul Day Cand Er Tp
end Bk
end Go.Proofs.YtghkalamlcfnnaaGreatDoor
end
