/- The laws' helpers for events: LongEvent, OwnEvent. -/
import Derived.Test.YtghkalamlcfnnaaGreatDoorQEvLists
import Derived.Laws.AppendOwnNone
namespace Go.Proofs.YtghkalamlcfnnaaGreatDoor
open Go Go.RowKit Go.Shelf Lmd
attribute [local go_sem] Oper.semAt_some
namespace Evt
open Rul Day Cand Er

theorem frozen11 {w : World} {b : Nat} {a0 a1 a2 a3 a4 a5 a6 a7 a8 a9 a10 : Value} {t : TypeId} (h : w.heap[b]? = some (.cells #[a0, a1, a2, a3, a4, a5, a6, a7, a8, a9, a10] t (0, 0))) :
    w.frozen? ⟨b, 0, none⟩ = false ∧ w.frozen? ⟨b, 1, none⟩ = false ∧ w.frozen? ⟨b, 2, none⟩ = false ∧ w.frozen? ⟨b, 3, none⟩ = false ∧ w.frozen? ⟨b, 4, none⟩ = false ∧ w.frozen? ⟨b, 5, none⟩ = false ∧ w.frozen? ⟨b, 6, none⟩ = false ∧ w.frozen? ⟨b, 7, none⟩ = false ∧ w.frozen? ⟨b, 8, none⟩ = false ∧ w.frozen? ⟨b, 9, none⟩ = false ∧ w.frozen? ⟨b, 10, none⟩ = false := by
  simp [World.frozen?, h]
/-- a slice whose cells lie from a block on, if it has a row -/
def From (B : Nat) (v : Value) : Prop := ∀ g, v.ownBlock = some g → B ≤ g
theorem reads_far {w : World} {v : Value} {xs : List Int} {B b i : Nat} {u : Value} (h : Ints.Reads w v xs) (hf : From B v) (hb : b < B) : Ints.Reads (w.setCell ⟨b, i, none⟩ u) v xs := by
  rcases h with h | ⟨g, off, c, rfl, hc⟩
  · exact .inl h
  · have hne : g ≠ b := by have := hf g rfl; omega
    refine .inr ⟨g, off, c, rfl, fun j hj => ?_⟩
    have := hc j hj
    simp only [World.cell?] at this ⊢
    rw [row_far (p := ⟨b, i, none⟩) hne]; exact this
theorem mreads_far {w : World} {v : Value} {xs : List (Int × Int)} {B b i : Nat} {u : Value} (h : MReads w v xs) (hf : From B v) (hb : b < B) : MReads (w.setCell ⟨b, i, none⟩ u) v xs := by
  rcases h with h | ⟨g, off, c, rfl, hc⟩
  · exact .inl h
  · have hne : g ≠ b := by have := hf g rfl; omega
    refine .inr ⟨g, off, c, rfl, fun j hj => ?_⟩
    have := hc j hj
    simp only [World.cell?] at this ⊢
    rw [row_far (p := ⟨b, i, none⟩) hne]; exact this
theorem own_from {w : World} {base size : Nat} {e : TypeId} {v : Value} {n : Nat} {xs : List Value} (h : w.ownsRow base e size v n xs) : From base v := fun _ hg => own_ge h hg
theorem From.mono {B B' : Nat} {v : Value} (h : From B v) (hb : B' ≤ B) : From B' v := fun g hg => Nat.le_trans hb (h g hg)
theorem cellsM_one {xs : List (Int × Int)} (u : Value) (h : u ∈ cellsM xs) : u.oneCell' = true := by
  simp only [cellsM, List.mem_flatMap] at h
  obtain ⟨m, _, h⟩ := h
  simp at h
  rcases h with rfl | rfl <;> rfl
theorem cellsM_get : ∀ {xs : List (Int × Int)} {j : Nat} {u : Value}, (cellsM xs)[j]? = some u → ∃ k, k < xs.length ∧ ((j = k * 2 ∧ u = .int .i64 (ml xs k).1) ∨ (j = k * 2 + 1 ∧ u = .int .i64 (ml xs k).2)) := by
  intro xs j u h
  have hl : j < xs.length * 2 := by rw [← cellsM_len]; exact (List.getElem?_eq_some_iff.1 h).1
  have hk : j / 2 < xs.length := by omega
  obtain ⟨h1, h2⟩ := cellsM_at hk
  by_cases e : j % 2 = 0
  · have e2 : j / 2 * 2 = j := by omega
    rw [e2, h] at h1
    exact ⟨j / 2, hk, .inl ⟨e2.symm, Option.some.inj h1⟩⟩
  · have e2 : j / 2 * 2 + 1 = j := by omega
    rw [e2, h] at h2
    exact ⟨j / 2, hk, .inr ⟨e2.symm, Option.some.inj h2⟩⟩

end Evt
end Go.Proofs.YtghkalamlcfnnaaGreatDoor
