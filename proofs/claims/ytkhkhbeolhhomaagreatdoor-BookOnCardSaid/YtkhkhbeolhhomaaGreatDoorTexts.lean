/- Slices of texts that are only read; the reference's SameTexts. -/
import Derived.Test.YtkhkhbeolhhomaaGreatDoorRuleText
import Derived.Deep.QuietTactic
import Derived.BigQuiet
import Derived.Laws.AppendOwnNone
import Derived.OwnWalk
namespace Go.Proofs.YtkhkhbeolhhomaaGreatDoor
open Go Go.RowKit Lmd
namespace Tx
open Rul

/-- a slice of texts -/
def Rd (w : World) (v : Value) (xs : List ByteArray) : Prop :=
  (xs = [] ∧ ∃ a c, v = .slice a 0 c) ∨ ∃ b off c, v = .slice (some ⟨b, off, none⟩) xs.length c ∧ ∀ (j : Nat) x, xs[j]? = some x → w.cell? ⟨b, off + j, none⟩ = some (.string x)
theorem Rd.shape {w : World} {v : Value} {xs : List ByteArray} (h : Rd w v xs) : ∃ a c, v = .slice a xs.length c := by
  rcases h with ⟨rfl, a, c, rfl⟩ | ⟨b, off, c, rfl, _⟩
  · exact ⟨a, c, rfl⟩
  · exact ⟨_, c, rfl⟩
theorem Rd.at {w : World} {v : Value} {xs : List ByteArray} (h : Rd w v xs) (hx : xs ≠ []) : ∃ b off c, v = .slice (some ⟨b, off, none⟩) xs.length c ∧ ∀ (j : Nat) x, xs[j]? = some x → w.cell? ⟨b, off + j, none⟩ = some (.string x) :=
  h.resolve_left (fun h => hx h.1)
theorem Rd.below {w w' : World} {v : Value} {xs : List ByteArray} (h : Rd w v xs) (hb : Below w.heap.size w w') : Rd w' v xs := by
  rcases h with h | ⟨b, off, c, rfl, hc⟩
  · exact .inl h
  · exact .inr ⟨b, off, c, rfl, fun j x hx => cell_later hb (hc j x hx)⟩
theorem rd_own {w : World} {base : Nat} {v : Value} {n : Nat} {xs : List ByteArray} (h : w.ownsRow base 9 1 v n (cellsS xs)) (hn : n = xs.length) : Rd w v xs := by
  rcases reads_ownS h hn with ⟨h1, h2⟩ | ⟨g, cap, h1, _, _, h2⟩
  · exact .inl ⟨h1, none, 0, h2⟩
  · exact .inr ⟨g, 0, cap, h1, h2⟩
theorem cellsS_app (xs ys : List ByteArray) : cellsS (xs ++ ys) = cellsS xs ++ cellsS ys := by simp [cellsS]
/-- a row of texts behind a row of texts -/
theorem wpList_append_tx {w : World} {ops : Array Oper} {rest : List Oper} {o : Oper} {a : Act} {Q : Exit → Act → World → Prop} (hgd : o.guard = none) (s x : Operand)
    (ho : o.op = .call { callee := .builtin .append, args := #[s, x], argTypes := #[30, 30] })
    (base : Nat) (i : TypeInfo) (hi : Tryz.prog.info? 9 = some i) (hz0 : i.zero = some (.string ⟨#[]⟩)) (hz1 : i.size = 1) (hz2 : i.bytes = 16)
    (v : Value) (xs : List ByteArray) (hs : a.eval s = v) (hown : w.ownsRow base 9 1 v xs.length (cellsS xs)) (u : Value) (ys : List ByteArray) (b : Nat) (hx : a.eval x = u) (hsrc : w.ownsRow b 9 1 u ys.length (cellsS ys))
    (hb : xs.length + ys.length ≤ 3000000) (hbase : base ≤ w.heap.size)
    (h : ∀ v' w', w'.ownsRow base 9 1 v' (xs ++ ys).length (cellsS (xs ++ ys)) → w.grownBy w' v.ownBlock → wpList Tryz.prog ops Q rest (a.put o.dst v') w') : wpList Tryz.prog ops Q (o :: rest) a w := by
  rcases hsrc.2 with ⟨rfl, h0⟩ | ⟨g, cap, cur, rfl, _⟩
  · have hy : ys = [] := List.length_eq_zero_iff.1 h0
    subst hy
    refine wpList_append_own_none hgd s x 30 ho base 9 i 1 Tryz.underlying30 hi v xs.length (cellsS xs) hs hown hx ?_
    refine h v w ?_ (World.grownBy.refl _ _)
    simpa using hown
  · refine wpList_append_own _ hgd s x 30 ho base 9 i _ 1 16 Tryz.underlying30 hi hz0 hz1 hz2 rfl (by omega) v xs.length (cellsS xs) hs hown ⟨g, 0, none⟩ ys.length cap (cellsS ys) hx (by rw [cellsS_len, Nat.mul_one])
      (hsrc.cells (g := g) rfl) (fun z hz => by simp only [cellsS, List.mem_map] at hz; obtain ⟨y, _, rfl⟩ := hz; rfl) (by simp only [maxLen]; omega) (by omega) hbase ?_
    intro v' w' h1 h2 _
    refine h v' w' ?_ h2
    rw [List.length_append, cellsS_app]; exact h1
end Tx
end Go.Proofs.YtkhkhbeolhhomaaGreatDoor
