/- General laws: texts joined; what a call leaves alone. -/
import Derived.Test.YtkhkhbeolhhomaaGreatDoorNumPlain
import Derived.IntWalk
import Derived.Maps.AppendAt
namespace Go.Proofs.YtkhkhbeolhhomaaGreatDoor
open Go Go.RowKit Lmd
namespace Tp
open Rul Day Cand
theorem mk_cat (a b : List UInt8) : mk a ++ mk b = mk (a ++ b) := cat a b
theorem mk_self (s : ByteArray) : s = mk s.data.toList := str_mk s
theorem own_later {w w' : World} {base : Nat} {e : TypeId} {v : Value} {n : Nat} {xs : List Value} (h : w.ownsRow base e 1 v n xs) (hb : Below w.heap.size w w') : w'.ownsRow base e 1 v n xs := by
  refine h.kept (row := none) ⟨hb.os, hb.tape, hb.output, hb.size, fun k hk _ => hb.block k hk⟩ ?_
  cases hv : v.ownBlock with
  | none => exact .inl rfl
  | some k => exact .inr (by simp)
theorem ownsRow_slice {w : World} {base : Nat} {e : TypeId} {v : Value} {n : Nat} {xs : List Value} (h : w.ownsRow base e 1 v n xs) : ∃ a c, v = .slice a n c := by
  rcases h.2 with ⟨rfl, rfl⟩ | ⟨g, cap, cur, rfl, _⟩
  · exact ⟨_, _, rfl⟩
  · exact ⟨_, _, rfl⟩
theorem below_drew {B : Nat} {a w : World} (h : Below B a w) : Below B a w.drew := below_draw h 1
theorem drew_cell {W : World} {p : Addr} {v : Value} (h : W.cell? p = some v) : W.drew.cell? p = some v := h
theorem own_ge {w : World} {base : Nat} {e : TypeId} {v : Value} {n : Nat} {xs : List Value} (h : w.ownsRow base e 1 v n xs) {j : Nat} (ej : v.ownBlock = some j) : base ≤ j := by
  rcases h.2 with ⟨rfl, _⟩ | ⟨g, cap, cur, rfl, h2, _⟩
  · simp [Value.ownBlock] at ej
  · obtain rfl : g = j := by simpa [Value.ownBlock] using ej
    exact h2
/-- nothing else is touched -/
structure Far (S : Nat → Prop) (w w' : World) : Prop where
  os : w'.os = w.os
  tape : w'.tape = w.tape
  output : w'.output = w.output
  size : w.heap.size ≤ w'.heap.size
  block : ∀ k, k < w.heap.size → ¬ S k → w'.heap[k]? = w.heap[k]?
theorem Far.refl (S : Nat → Prop) (w : World) : Far S w w := ⟨rfl, rfl, rfl, Nat.le_refl _, fun _ _ _ => rfl⟩
theorem Far.trans {S : Nat → Prop} {a b c : World} (h : Far S a b) (k : Far S b c) : Far S a c :=
  ⟨k.os.trans h.os, k.tape.trans h.tape, k.output.trans h.output, Nat.le_trans h.size k.size, fun j hj hs => (k.block j (Nat.lt_of_lt_of_le hj h.size) hs).trans (h.block j hj hs)⟩
theorem Far.below {S : Nat → Prop} {w w' : World} {B : Nat} (h : Far S w w') (hS : ∀ k, S k → B ≤ k) (hB : B ≤ w.heap.size) : Below B w w' :=
  ⟨h.os, h.tape, h.output, h.size, fun k hk => h.block k (by omega) (fun hs => by have := hS k hs; omega)⟩
theorem Far.set {S : Nat → Prop} {w w' : World} (h : Far S w w') {p : Addr} (hp : S p.block) (v : Value) : Far S w (w'.setCell p v) :=
  ⟨h.os, h.tape, h.output, by simpa [World.setCell] using h.size, fun k hk hs => by
    rw [Below.heap_setCell _ _ _ _ (fun e => hs (by rw [e]; exact hp))]; exact h.block k hk hs⟩
theorem Far.drew {S : Nat → Prop} {w w' : World} (h : Far S w.drew w') : Far S w w' := ⟨h.os, h.tape, h.output, h.size, h.block⟩
theorem Far.of_below {S : Nat → Prop} {w w' : World} (h : Below w.heap.size w w') : Far S w w' := ⟨h.os, h.tape, h.output, h.size, fun k hk _ => h.block k hk⟩
/-- more is touched -/
theorem Far.mono {S T : Nat → Prop} {w w' : World} (h : Far S w w') (hS : ∀ k, S k → T k) : Far T w w' := ⟨h.os, h.tape, h.output, h.size, fun k hk ht => h.block k hk fun hs => ht (hS k hs)⟩
end Tp
end Go.Proofs.YtkhkhbeolhhomaaGreatDoor
