/- package event in plain Lean: a field's text put; an event's text; each is read as it was written. -/
import Derived.Test.YtghkalamlcfnnaaGreatDoorQEvReadM
import Derived.Test.YtghkalamlcfnnaaGreatDoorQA14
namespace Go.Proofs.YtghkalamlcfnnaaGreatDoor
open Go Go.RowKit Go.Shelf Lmd
namespace Evt
open Rul Day Cand Er
def lgOk (l : List UInt8) : Bool := match Lib.atoiAll l with | .ok v => decide (l.length ≤ 9) && decide (Lib.itoa v = l) | _ => false
def putC (f s : ByteArray) : Nat :=
  if f.toList = [116, 105, 116, 108, 101] then 0 else if f.toList = [115, 116, 97, 114, 116] then dayC s.data.toList else if f.toList = [108, 111, 110, 103] then (if lgOk s.data.toList = true then 0 else 1)
  else if f.toList = [114, 117, 108, 101] then (readS s).1 else if f.toList = [115, 107, 105, 112, 115] then skC (listP s) else if f.toList = [109, 111, 118, 101, 115] then mvC (listP s) else 4
def putE (e : Ev) (f s : ByteArray) : Ev :=
  if f.toList = [116, 105, 116, 108, 101] then { e with ti := s } else if f.toList = [115, 116, 97, 114, 116] then { e with st := dayX s.data.toList } else if f.toList = [108, 111, 110, 103] then { e with lg := numIs s.data.toList }
  else if f.toList = [114, 117, 108, 101] then { e with ru := (readS s).2 } else if f.toList = [115, 107, 105, 112, 115] then { e with sk := skV (listP s) } else if f.toList = [109, 111, 118, 101, 115] then { e with mv := mvV (listP s) } else e
def zeroEv : Ev := { id := ⟨#[]⟩, ti := ⟨#[]⟩, st := 0, lg := 0, ru := zeroRu, sk := [], mv := [] }
def setC (e : Ev) (f s : ByteArray) : Nat := if putC f s ≠ 0 then putC f s else badE (putE e f s)
def setE (e : Ev) (f s : ByteArray) : Ev := if setC e f s = 0 then putE e f s else zeroEv
abbrev fAt (k : Nat) : ByteArray := fieldL.getD k ByteArray.empty
abbrev lAt (L : List ByteArray) (k : Nat) : ByteArray := L.getD k ByteArray.empty
def evK (L : List ByteArray) : Nat → Ev
  | 0 => { zeroEv with id := lAt L 0 }
  | k + 1 => putE (evK L k) (fAt k) (lAt L (k + 1))
def badK (L : List ByteArray) : Nat → Nat → Nat
  | _, 0 => badE (evK L 6)
  | k, n + 1 => if putC (fAt k) (lAt L (k + 1)) ≠ 0 then putC (fAt k) (lAt L (k + 1)) else badK L (k + 1) n
def readLC (L : List ByteArray) : Nat := if L.length = 7 then badK L 0 6 else 1
def readLE (L : List ByteArray) : Ev := if readLC L = 0 then evK L 6 else zeroEv
def readC (s : ByteArray) : Nat := readLC (pieces 124 s)
def readE (s : ByteArray) : Ev := readLE (pieces 124 s)
theorem badK_hit {L : List ByteArray} : ∀ {n k : Nat}, (∀ j, k ≤ j → j < k + n → putC (fAt j) (lAt L (j + 1)) = 0) → badK L k n = badE (evK L 6)
  | 0, k, _ => rfl
  | n + 1, k, h => by
    unfold badK
    rw [if_neg (by rw [h k (Nat.le_refl _) (by omega)]; simp)]
    exact badK_hit fun j h1 h2 => h j (by omega) (by omega)
theorem badK_miss {L : List ByteArray} {j : Nat} (hj : putC (fAt j) (lAt L (j + 1)) ≠ 0) : ∀ {n k : Nat}, k ≤ j → j < k + n → (∀ i, k ≤ i → i < j → putC (fAt i) (lAt L (i + 1)) = 0) → badK L k n = putC (fAt j) (lAt L (j + 1))
  | 0, k, h1, h2, _ => by omega
  | n + 1, k, h1, h2, h => by
    unfold badK
    by_cases e : k = j
    · subst e; rw [if_pos hj]
    · rw [if_neg (by rw [h k (Nat.le_refl _) (by omega)]; simp)]
      exact badK_miss hj (by omega) (by omega) fun i a b => h i (by omega) b
end Evt
end Go.Proofs.YtghkalamlcfnnaaGreatDoor
