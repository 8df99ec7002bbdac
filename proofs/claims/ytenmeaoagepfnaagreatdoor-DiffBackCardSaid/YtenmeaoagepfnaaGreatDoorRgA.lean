/- Range over a function whose rounds begin with a block of their own (a variable that has an address). Printed by gen_rga.py. -/
import Derived.Test.YtenmeaoagepfnaaGreatDoorA3
namespace Lmd.Rga
open Go Go.RowKit Lmd.Rng Lmd.Rge
variable {n : Nat} {P : Program}

theorem range_law {α : Type} {g : Operand} {ps : Array Tmp} {assign body : Code} {Q : Exit → Act → World → Prop} {a : Act} {w : World}
    (h1 : 1 ≤ n) {gf : Nat} {lb : Array Value} (hg : a.eval g = .func (.func gf) #[] lb) (eg : ∀ args w, (callFunc gf args).run P w = .ok (.enter gf args) w)
    {encs : α → Array Value} {E : Nat → Prop} {R : (Nat → Prop) → Prop} {S Sp : List α → Prop} {N : Nat} {w0 : World} (hseq : Seq P gf lb encs E R S Sp N w0)
    (hb0 : Below w0.heap.size w0 w) (hps : ∀ x, (encs x).size = ps.size) (hE : ∀ b, E b → b < w.heap.size) (O : Nat → Prop) (hO : ∀ b, O b → b < w.heap.size) (hR : R O)
    (I : Nat → List α → World → Prop) (Ix : Code → Nat → List α → World → Prop) (hI : Stable E w.heap.size I) (hIx : ∀ c, Stable E w.heap.size (Ix c)) (h0 : ∀ W', Below w.heap.size w W' → I W'.heap.size [] W') (a₁ : α → World → Act) (WA : α → World → World) (hWA : ∀ x W, Below W.heap.size W (WA x W))
    (hassign : ∀ (l : Nat) (x : α) (V W : World) (K : Act → World → Prop), WA x V = W → K (a₁ x V) W →
      assign.wpIn (Fence.wide.inRound l) (n - 1 - 1) P (Exit.then K (fun _ _ _ => False)) { tmps := (ps.zip (encs x)).foldl (fun t (p, v) => t.setIfInBounds p v) a.tmps, defers := [] } V)
    (hbody : ∀ (hi l : Nat) (pre : List α) (x : α) (V W : World), w.heap.size + 2 ≤ hi → I hi pre V → I hi pre W → (∀ k o, V.heap.size ≤ k → (WA x V).heap[k]? = some o → W.heap[k]? = some o) → (WA x V).heap.size = W.heap.size → pre.length < N → body.wpIn (Fence.wide.inRound l) (n - 1 - 1) P (Post w.heap.size O I Ix hi (pre ++ [x]) W) (a₁ x V) W)
    (hdone : ∀ (D hi : Nat) (xs : List α) (W : World), w.heap.size ≤ D → D < hi → S xs → I hi xs W → W.heap[D]? = some (.deferred (some [])) → Q .normal { a with defers := { target := .collected D, args := #[] } :: a.defers } W)
    (hstop : ∀ (D hi : Nat) (c : Code) (pre : List α) (W : World), w.heap.size ≤ D → D < hi → Sp pre → Ix c hi pre W → W.heap[D]? = some (.deferred (some [])) → c.wpIn Fence.wide n P Q { a with defers := { target := .collected D, args := #[] } :: a.defers } W) :
    (Code.rangeFunc g ps assign body).wpIn Fence.wide n P Q a w := by
  refine wpIn_rangeFunc ?_
  intro fn hfn
  rw [show Fence.wide.round = none from rfl]
  obtain ⟨rec, hrec⟩ : ∃ rec : LoopState → Option Code → Loop, rec = fun st pe => { state := st, pending := pe, fn, tmps := a.tmps, params := ps, assign, body, defers := w.heap.size } := ⟨_, rfl⟩
  obtain ⟨W1, hW1⟩ : ∃ W1, (w.alloc (.deferred (some []))).alloc (.loop (rec .ready none)) = W1 := ⟨_, rfl⟩
  have hz : W1.heap.size = w.heap.size + 2 := by rw [← hW1]; simp
  have hL1 : W1.heap[w.heap.size + 1]? = some (.loop (rec .ready none)) := by
    rw [← hW1]; have := World.alloc_heap_new (w.alloc (.deferred (some []))) (.loop (rec .ready none)); rwa [World.size_alloc] at this
  have hK1 : W1.heap[w.heap.size]? = some (.deferred (some [])) := by
    rw [← hW1]; exact (Below.heap_alloc _ _ _ (by simp)).trans (World.alloc_heap_new w _)
  have hw1 : Below w.heap.size w W1 := by rw [← hW1]; exact ((Below.refl _ w).alloc (Nat.le_refl _) _).alloc (by simp) _
  have hb1 : Below w0.heap.size w0 W1 := hb0.trans (hw1.mono hb0.size)
  have hlt2 : ∀ {W : World} {b : Nat} {o : Obj}, W.heap[b]? = some o → b < W.heap.size := fun h => (Array.getElem?_eq_some_iff.1 h).1
  refine ⟨w.heap.size + 1, [{ target := .collected w.heap.size, args := #[] }], W1, { target := .fn (.func gf) lb, args := #[.func (.yield (w.heap.size + 1)) #[] #[]] }, W1, gf,
    #[.func (.yield (w.heap.size + 1)) #[] #[]] ++ lb, W1, ?_, ?_, ?_, ?_, fun _ => h1, ?_⟩
  · rw [← hW1, hrec]; exact run_enterLoop_outer _ _ _ _ _
  · simp only [resolve, hg]
    simp [go_sem]
  · intro f' hf'; trivial
  · simp [invoke, go_sem, eg]
  · -- the iterator's contract, at the caller's invariant with the two facts of book-keeping beside it
    have hgr : ∀ {A B : World} {row : Option Nat} {k : Nat} {o : Obj}, A.grownBy B row → (∀ r, row = some r → W1.heap.size ≤ r ∨ r < w.heap.size) → w.heap.size ≤ k → k < W1.heap.size → A.heap[k]? = some o → B.heap[k]? = some o :=
      fun hg' hr hk0 hk hA => (hg'.block _ (hlt2 hA) (fun e => by have := hr _ e.symm; omega)).trans hA
    refine (callsIn_wide.2 (hseq O (w.heap.size + 1)
      (fun hi pre W => I hi pre W ∧ W.heap[w.heap.size + 1]? = some (.loop (rec .ready none)) ∧ W.heap[w.heap.size]? = some (.deferred (some [])))
      (fun hi pre W => ∃ c, Ix c hi pre W ∧ W.heap[w.heap.size + 1]? = some (.loop (rec .done (some c))) ∧ W.heap[w.heap.size]? = some (.deferred (some [])))
      W1 hb1 hR (fun b hb => by have := hO b hb; omega) (by omega)
      (fun hi s A B row hB hs hg' hr => ⟨hI hi s A B row (by omega) hs.1 hg' (fun r e => (hr r e).imp (fun h => ⟨by have := h.1; omega, h.2⟩) id), hgr hg' (fun r e => (hr r e).imp (fun h => h.1) (hE r)) (by omega) (by omega) hs.2.1, hgr hg' (fun r e => (hr r e).imp (fun h => h.1) (hE r)) (by omega) (by omega) hs.2.2⟩)
      (fun hi s A B row hB hs hg' hr => by
        obtain ⟨c, hc, hl, hk⟩ := hs
        exact ⟨c, hIx c hi s A B row (by omega) hc hg' (fun r e => (hr r e).imp (fun h => ⟨by have := h.1; omega, h.2⟩) id), hgr hg' (fun r e => (hr r e).imp (fun h => h.1) (hE r)) (by omega) (by omega) hl, hgr hg' (fun r e => (hr r e).imp (fun h => h.1) (hE r)) (by omega) (by omega) hk⟩)
      ?_ (fun W' hW' => ⟨h0 W' (hw1.trans (hW'.mono (by omega))), by rw [hW'.block _ (by omega)]; exact hL1, by rw [hW'.block _ (by omega)]; exact hK1⟩))).mono ?_
    · -- one round
      rintro hi pre x V hhi ⟨hi0, hl0, hk0⟩ hlen
      have hhi' : w.heap.size + 2 ≤ hi := by omega
      have hlt0 : w.heap.size + 1 < V.heap.size := hlt2 hl0
      obtain ⟨W, hW⟩ : ∃ W, WA x V = W := ⟨_, rfl⟩
      have hA := hWA x V
      rw [hW] at hA
      have hl := (hA.block _ hlt0).trans hl0
      have hk := (hA.block w.heap.size (by omega)).trans hk0
      have hi' : I hi pre W := hI.below (by omega) hi0 hA
      have hlt : w.heap.size + 1 < W.heap.size := hlt2 hl
      have hy := run_yield (P := P) (args := encs x) hl0 (by rw [hrec]; exact hps x)
      rw [hrec] at hy
      refine ⟨fn, _, assign, body, hy, roundIn_any (roundIn_of_wpIn hfn (hassign _ x V W _ hW ⟨_, run_beginRound hl (by rw [hrec]), ?_⟩))⟩
      have hl2 : (W.putObj (w.heap.size + 1) (.loop { rec .ready none with state := .busy })).heap[w.heap.size + 1]? = some (.loop { rec .ready none with state := .busy }) := World.putObj_heap_same hlt
      have hk2 : (W.putObj (w.heap.size + 1) (.loop { rec .ready none with state := .busy })).heap[w.heap.size]? = some (.deferred (some [])) := (World.putObj_heap_other (by omega)).trans hk
      refine wpIn_mono (hbody hi _ pre x V _ hhi' hi0 (hI.putObj _ (by omega) hi' (.inl ⟨by omega, by omega⟩)) (fun k o hk h => by rw [World.putObj_heap_other (by omega), ← hW]; exact h) (by rw [hW]; simp) hlen) ?_
      have fin : ∀ (jump : Option Code) (W3 : World), Rest w.heap.size (W.putObj (w.heap.size + 1) (.loop { rec .ready none with state := .busy })) W3 →
          (Instr.endRound (w.heap.size + 1) jump).run P W3 = .ok (.bool jump.isNone) (W3.putObj (w.heap.size + 1) (.loop (rec (if jump.isNone then .ready else .done) jump))) ∧
          W3.heap[w.heap.size + 1]? = some (.loop { rec .ready none with state := .busy }) ∧
          (W3.putObj (w.heap.size + 1) (.loop (rec (if jump.isNone then .ready else .done) jump))).heap[w.heap.size + 1]? = some (.loop (rec (if jump.isNone then .ready else .done) jump)) ∧
          (W3.putObj (w.heap.size + 1) (.loop (rec (if jump.isNone then .ready else .done) jump))).heap[w.heap.size]? = some (.deferred (some [])) := fun jump W3 hk3 => by
        have hl3 := hk3 _ _ (by omega) hl2 rfl
        have := run_endRound (P := P) jump hl3
        rw [hrec] at this ⊢
        exact ⟨this, by rw [hrec] at hl3; exact hl3, World.putObj_heap_same (hlt2 hl3), (World.putObj_heap_other (by omega)).trans (hk3 _ _ (Nat.le_refl _) hk2 rfl)⟩
      have far : ∀ (jump : Option Code) (W3 : World), Rest w.heap.size (W.putObj (w.heap.size + 1) (.loop { rec .ready none with state := .busy })) W3 → Rest W1.heap.size W (W3.putObj (w.heap.size + 1) (.loop (rec (if jump.isNone then .ready else .done) jump))) :=
        fun jump W3 hk3 b o hB hb ho => by
          rw [World.putObj_heap_other (by omega)]
          exact hk3 b o (by omega) (by rw [World.putObj_heap_other (by omega)]; exact hb) ho
      rintro e a3 W3 hp
      cases e with
      | normal =>
        obtain ⟨hk3, hi3⟩ := hp
        obtain ⟨hr, hl3, hl4, hk4⟩ := fin none W3 (hk3.rest _)
        refine ⟨_, _, hr, .inl ⟨rfl, ⟨hI.putObj _ (by omega) hi3 (.inl ⟨by omega, by omega⟩), hl4, hk4⟩, (Stay.of_below hA).trans ⟨hk3.os, hk3.tape, hk3.output, by simpa using hk3.size, fun b o hb ho => ?_⟩⟩⟩
        by_cases e : b = w.heap.size + 1
        · subst e
          rw [hl] at hb
          cases hb
          exact hl4
        · rw [World.putObj_heap_other e]
          exact hk3.same b o (by rw [World.putObj_heap_other e]; exact hb) ho
      | ret =>
        obtain ⟨hk3, hi3⟩ := hp
        obtain ⟨hr, hl3, hl4, hk4⟩ := fin (some .ret) W3 hk3
        exact ⟨_, _, hr, .inr ⟨rfl, ⟨.ret, (hIx _).putObj _ (by omega) hi3 (.inl ⟨by omega, by omega⟩), hl4, hk4⟩, ((Stay.of_below (O := O) (hi := hi) hA).rest _).trans (far (some .ret) W3 hk3)⟩⟩
      | exit id =>
        obtain ⟨hk3, hi3⟩ := hp
        obtain ⟨hr, hl3, hl4, hk4⟩ := fin (some (.exit id)) W3 hk3
        exact ⟨_, _, hr, .inr ⟨rfl, ⟨.exit id, (hIx _).putObj _ (by omega) hi3 (.inl ⟨by omega, by omega⟩), hl4, hk4⟩, ((Stay.of_below (O := O) (hi := hi) hA).rest _).trans (far (some (.exit id)) W3 hk3)⟩⟩
      | goto t =>
        obtain ⟨hk3, hi3⟩ := hp
        obtain ⟨hr, hl3, hl4, hk4⟩ := fin (some (.goto t)) W3 hk3
        exact ⟨_, _, hr, .inr ⟨rfl, ⟨.goto t, (hIx _).putObj _ (by omega) hi3 (.inl ⟨by omega, by omega⟩), hl4, hk4⟩, ((Stay.of_below (O := O) (hi := hi) hA).rest _).trans (far (some (.goto t)) W3 hk3)⟩⟩
      | panic ch => exact hp.elim
      | outgrown => exact hp.elim
    · -- behind the iterator
      rintro e W2 ⟨⟨v, rfl⟩, hi, hhi, (⟨xs, hS, hi2, hl, hk⟩ | ⟨pre, hSp, c, hi2, hl, hk⟩)⟩
      · exact ⟨none, _, by have := run_endLoop (P := P) hl (by rw [hrec]; simp); rw [hrec] at this; exact this, hdone _ hi xs _ (Nat.le_refl _) (by omega) hS (hI.putObj _ (by omega) hi2 (.inl ⟨by omega, by omega⟩)) ((World.putObj_heap_other (by omega)).trans hk)⟩
      · exact ⟨some c, _, by have := run_endLoop (P := P) hl (by rw [hrec]; simp); rw [hrec] at this; exact this, hstop _ hi c pre _ (Nat.le_refl _) (by omega) hSp ((hIx c).putObj _ (by omega) hi2 (.inl ⟨by omega, by omega⟩)) ((World.putObj_heap_other (by omega)).trans hk)⟩
end Lmd.Rga
