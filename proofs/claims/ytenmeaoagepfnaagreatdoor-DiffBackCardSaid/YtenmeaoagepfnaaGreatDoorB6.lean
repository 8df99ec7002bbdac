/- EvNl, BkMore, EvSize: texts joined. -/
import Derived.Test.YtenmeaoagepfnaaGreatDoorEvPutL
import Derived.Test.YtenmeaoagepfnaaGreatDoorA4
import Derived.Test.YtenmeaoagepfnaaGreatDoorA16
import Derived.Test.YtenmeaoagepfnaaGreatDoorEvSet
section
/- An event's text has no line's end, in plain Lean. -/
namespace Go.Proofs.YtenmeaoagepfnaaGreatDoor
open Go Go.RowKit Go.Shelf Lmd
namespace Evt
open Rul Day Cand Er

def NlL (l : List UInt8) : Prop := ∀ c ∈ l, c ≠ 10
theorem nlow_app {a b : List UInt8} (h : NlL a) (k : NlL b) : NlL (a ++ b) := fun c hc => (List.mem_append.1 hc).elim (h c) (k c)
theorem nlow_free {l : List UInt8} (h : NlL l) : (10 : UInt8) ∉ l := fun hc => h _ hc rfl
theorem nlow_of {l : List UInt8} (h : (10 : UInt8) ∉ l) : NlL l := fun _ hc e => h (e ▸ hc)
theorem nlow_join {sep : List UInt8} (hs : NlL sep) : ∀ {xs : List (List UInt8)}, (∀ x ∈ xs, NlL x) → NlL (Lib.join xs sep)
  | [], _ => fun _ hc => by simp [Lib.join] at hc
  | x :: r, h => by
    rw [Lib.join_cons]
    refine nlow_app (h x (by simp)) fun c hc => ?_
    unfold Lib.joinTail at hc
    obtain ⟨l, hl, hcl⟩ := List.mem_flatten.1 hc
    obtain ⟨y, hy, rfl⟩ := List.mem_map.1 hl
    exact nlow_app hs (h y (by simp [hy])) c hcl
theorem ndayL_low (n : Int) : NlL (dayL n) := nlow_of (dayL_free (by decide))
theorem nitoa_low {n : Int} (h : 0 ≤ n) : NlL (Lib.itoa n) := nlow_of (itoa_free h (by decide))
theorem nrule_low {r : Ru} (h : bad r = 0) : NlL (textL r) := by
  obtain ⟨h1, h2, h3, h4, h5⟩ := bad_parts h
  obtain ⟨⟨e1, e2⟩, ⟨c1, c2⟩, u1, u2⟩ := bound_parts h2
  have hfq : NlL r.fq.data.toList := by
    rcases freqs_mem h1 with e | e | e | e | e <;> rw [e] <;> exact nlow_of (by decide)
  by_cases ho : r.fq.toList = onceW
  · unfold textL; rw [if_pos ho]; exact hfq
  · rw [text_words r ho]
    refine nlow_join (nlow_of (by decide)) fun y hy => ?_
    simp only [List.mem_cons, List.mem_append] at hy
    rcases hy with rfl | rfl | (hy | hy) | hy
    · exact hfq
    · exact nitoa_low (by omega)
    · unfold dW at hy
      split at hy
      · simp at hy
      · simp at hy; subst hy
        unfold nms
        refine nlow_join (nlow_of (by decide)) fun x hx => ?_
        obtain ⟨nm, hnm, rfl⟩ := List.mem_map.1 hx
        obtain ⟨k, hk, rfl⟩ := List.mem_map.1 hnm
        obtain ⟨k0, k6⟩ := days_ok h3 k hk
        have : k = 0 ∨ k = 1 ∨ k = 2 ∨ k = 3 ∨ k = 4 ∨ k = 5 ∨ k = 6 := by omega
        rcases this with rfl | rfl | rfl | rfl | rfl | rfl | rfl <;> exact nlow_of (by decide)
    · unfold cW at hy
      split at hy
      · simp at hy
        rcases hy with rfl | rfl
        · exact nlow_of (by decide)
        · exact nitoa_low (by omega)
      · simp at hy
    · unfold uW at hy
      split at hy
      · rename_i hu
        simp at hy
        rcases hy with rfl | rfl
        · exact nlow_of (by decide)
        · have hd : dayL r.un = dayT r.un := by unfold dayL; rw [if_pos ⟨by omega, by omega⟩]
          rw [← hd]; exact ndayL_low _
      · simp at hy
theorem nparts_low {e : Ev} (h : badE e = 0) : ∀ y ∈ (partsE e 6).map (·.data.toList), (10 : UInt8) ∉ y := by
  obtain ⟨h1, h2, h3, h4, h5, h6⟩ := badE_zero h
  intro y hy
  refine nlow_free ?_
  obtain ⟨z, hz, rfl⟩ := List.mem_map.1 hy
  simp only [partsE, List.mem_cons] at hz
  rcases hz with rfl | hz
  · unfold nameB at h1
    rw [Bool.and_eq_true, Bool.and_eq_true, List.all_eq_true] at h1
    intro c hc e
    have := h1.2 c hc
    rw [e] at this
    exact absurd this (by decide)
  · obtain ⟨f, hf, rfl⟩ := List.mem_map.1 hz
    have hf' : f ∈ fieldL := hf
    simp only [fieldL, List.mem_cons, List.not_mem_nil, or_false] at hf'
    rcases hf' with rfl | rfl | rfl | rfl | rfl | rfl
    · rw [getT]
      unfold titleB at h2
      rw [Bool.and_eq_true, List.all_eq_true] at h2
      intro c hc e
      have := h2.2 c hc
      rw [e] at this
      exact absurd this (by decide)
    · rw [getS]; exact ndayL_low _
    · rw [getL']; exact nitoa_low (by omega)
    · rw [getR, if_pos h5]; exact nrule_low h5
    · rw [getK]
      unfold skipsL
      refine nlow_join (nlow_of (by decide)) fun x hx => ?_
      obtain ⟨a, ha, rfl⟩ := List.mem_map.1 hx
      obtain ⟨b, _, rfl⟩ := List.mem_map.1 ha
      exact ndayL_low _
    · rw [getM]
      unfold movesL
      refine nlow_join (nlow_of (by decide)) fun x hx => ?_
      obtain ⟨a, ha, rfl⟩ := List.mem_map.1 hx
      obtain ⟨b, _, rfl⟩ := List.mem_map.1 ha
      exact nlow_app (nlow_app (ndayL_low _) (nlow_of (by decide))) (ndayL_low _)
theorem text_nl {e : Ev} (h : badE e = 0) : (10 : UInt8) ∉ textE e := nlow_free (by
  unfold textE
  exact nlow_join (nlow_of (by decide)) fun y hy => nlow_of (nparts_low h y hy))
end Evt
end Go.Proofs.YtenmeaoagepfnaaGreatDoor
end

section
/- Calendars, in plain Lean: two with the same events are one; in another order of putting. -/
namespace Go.Proofs.YtenmeaoagepfnaaGreatDoor
open Go Go.RowKit Lmd
namespace Bk
open Evt

theorem asc_once {L : List Ev} (h : Asc L) : L.Nodup := h.imp fun {a b} (hl : key a < key b) (e : a = b) => lt_irrefl (key b) (by rw [e] at hl; exact hl)
theorem asc_ext {a b : List Ev} (ha : Asc a) (hb : Asc b) (h : ∀ x, x ∈ a ↔ x ∈ b) : a = b :=
  List.Perm.eq_of_pairwise (le := fun x y : Ev => key x < key y) (fun _ _ _ _ h1 h2 => absurd (List.lt_trans h1 h2) (lt_irrefl _)) ha hb ((List.perm_ext_iff_of_nodup (asc_once ha) (asc_once hb)).2 h)
/-- an event put ahead of those behind it -/
theorem drop_put {L : List Ev} (h : Asc L) {k : Nat} (hk : k < L.length) : withE L[k] (L.drop (k + 1)) = L.drop k := by
  have hd : L.drop k = L[k] :: L.drop (k + 1) := List.drop_eq_getElem_cons hk
  have ha : Asc (L[k] :: L.drop (k + 1)) := by rw [← hd]; exact List.Pairwise.sublist (List.drop_sublist _ _) h
  have h1 := List.pairwise_cons.1 ha
  have hno : hasK (key L[k]) (L.drop (k + 1)) = false := hasK_false.2 fun x hx e => lt_irrefl _ (e ▸ h1.1 x hx)
  rw [hd]
  refine asc_ext (asc_withE h1.2) ha fun x => ?_
  rw [mem_withE, List.mem_cons]
  constructor
  · rintro (rfl | ⟨hx, _⟩)
    · exact .inl rfl
    · exact .inr hx
  · rintro (rfl | hx)
    · exact .inl rfl
    · exact .inr ⟨hx, hasK_false.1 hno x hx⟩
end Bk
end Go.Proofs.YtenmeaoagepfnaaGreatDoor
end

section
/- An event behind Set: its size, that it is right. -/
namespace Go.Proofs.YtenmeaoagepfnaaGreatDoor
open Go Go.RowKit Go.Shelf Lmd
attribute [local go_sem] Oper.semAt_some
namespace Evt
open Rul Day Cand Er Tp

theorem setE_size {e : Ev} (hz : Size e) (f : ByteArray) {s : ByteArray} (hs : s.size ≤ 30000) : Size (setE e f s) := by
  unfold setE
  split
  · exact ev_put_size hz f hs
  · exact zero_size
theorem setE_good {e : Ev} {f s : ByteArray} (h : setC e f s = 0) : badE (setE e f s) = 0 := by
  have h2 : setE e f s = putE e f s := by unfold setE; rw [if_pos h]
  rw [h2]
  unfold setC at h
  split at h
  · omega
  · exact h
end Evt
end Go.Proofs.YtenmeaoagepfnaaGreatDoor
end
