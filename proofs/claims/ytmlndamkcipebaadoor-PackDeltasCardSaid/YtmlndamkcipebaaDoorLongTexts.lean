/- longTexts: are texts too many, or too long? -/
import Derived.Test.YtmlndamkcipebaaDoorTexts
import Derived.Test.YtmlndamkcipebaaDoorFar
namespace Go.Proofs.YtmlndamkcipebaaDoor
open Go Go.RowKit Lmd
namespace Pk
open Rul Day Tp Cand

/-- texts within a statement's bounds -/
def Short (X : List ByteArray) : Prop := X.length ≤ 20 ∧ ∀ x ∈ X, x.size ≤ 150
def longB (X : List ByteArray) : Bool := decide (20 < X.length) || X.any (fun x => decide (150 < x.size))
theorem short_of {X : List ByteArray} (h : longB X = false) : Short X := by
  unfold longB at h
  rw [Bool.or_eq_false_iff] at h
  obtain ⟨h1, h2⟩ := h
  rw [List.any_eq_false] at h2
  refine ⟨by simpa using h1, fun x hx => ?_⟩
  have := h2 x hx
  simpa using this
theorem long_some {X : List ByteArray} {k : Nat} {x : ByteArray} (hk : X[k]? = some x) (h : 150 < x.size) : longB X = true := by
  unfold longB
  rw [Bool.or_eq_true, List.any_eq_true]
  exact .inr ⟨x, List.mem_of_getElem? hk, decide_eq_true h⟩
theorem long_none {X : List ByteArray} (h1 : X.length ≤ 20) (h2 : ∀ x ∈ X, x.size ≤ 150) : longB X = false := by
  unfold longB
  rw [Bool.or_eq_false_iff, List.any_eq_false]
  exact ⟨decide_eq_false (by omega), fun x hx => by have := h2 x hx; simp; omega⟩
set_option maxRecDepth 100000 in
theorem longTexts_any (X : List ByteArray) (lv : Value) (w : World) (hr : Tx.Rd w lv X) (hxl : X.length ≤ 9223372036854775807) :
    Calls Tryd.prog 29 #[lv] w fun e w' => e = .returned (.bool (longB X)) ∧ w' = w := by
  obtain ⟨a0, c0, rfl⟩ := hr.shape
  have HR := Lib.hid hr
  clear hr
  go_enter Tryd.func29, Tryd.ntmps29
  by_cases hl : (20 : Int) < (X.length : Int)
  · have hb : longB X = true := by unfold longB; rw [decide_eq_true (show 20 < X.length by omega)]; rfl
    have HB := Lib.hid hb
    clear hb
    go_wp2_with fail
    go_ret
    exact ⟨by rw [HB.out]; rfl, by first | rfl | trivial⟩
  · go_wp2_with fail
    go_loopw [3] (fun i wr => ∃ k : Nat, i = .int .i64 k ∧ k ≤ X.length ∧ (∀ x ∈ X.take k, x.size ≤ 150) ∧ wr = w) (fun i _ => X.length - (intOf i).toNat)
    case atStart => exact ⟨0, rfl, Nat.zero_le _, by simp, rfl⟩
    case round =>
      obtain ⟨k, rfl, hk, hx, rfl⟩ := hrel
      by_cases hlt : k < X.length
      · obtain ⟨b0, o0, c1, e1, hc⟩ := HR.out.at (by intro h; rw [h] at hlt; exact absurd hlt (Nat.not_lt_zero _))
        obtain ⟨rfl, rfl⟩ : a0 = some ⟨b0, o0, none⟩ ∧ c0 = c1 := by cases e1; exact ⟨rfl, rfl⟩
        obtain ⟨x, hxk⟩ : ∃ x, X[k]? = some x := ⟨_, List.getElem?_eq_getElem hlt⟩
        have k1 := hc k x hxk
        have hi1 : (k : Int) < (X.length : Int) := by omega
        have HX := Lib.hid hx
        have HXK := Lib.hid hxk
        clear e1 hc hx hxk
        by_cases h2 : (150 : Int) < (x.size : Int)
        · have HB := Lib.hid (long_some HXK.out (by omega))
          go_wp2_with fail
          go_ret
          exact ⟨by rw [HB.out]; rfl, by first | rfl | trivial⟩
        · go_wp2_with fail
          go_roundw
          case rel =>
            refine ⟨k + 1, by go_num, by omega, ?_, by first | rfl | trivial⟩
            intro y hy
            obtain ⟨h3, h4⟩ := List.getElem?_eq_some_iff.1 HXK.out
            rw [List.take_succ_eq_append_getElem h3, h4, List.mem_append] at hy
            rcases hy with hy | hy
            · exact HX.out y hy
            · rw [List.mem_singleton] at hy; subst hy; omega
          case measure => simp [intOf]; omega
      · have hi1 : ¬ (k : Int) < (X.length : Int) := by omega
        have HX := Lib.hid hx
        have HK := Lib.hid (show k = X.length by omega)
        clear hx
        go_wp2_with fail
        go_ret
        refine ⟨?_, by first | rfl | trivial⟩
        have h := HX.out
        rw [HK.out, List.take_length] at h
        rw [long_none (by omega) h]; rfl
end Pk
end Go.Proofs.YtmlndamkcipebaaDoor
