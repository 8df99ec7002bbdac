/- The reference's SameTexts, of any two. -/
import Derived.Test.YtkhkhbeolhhomaaGreatDoorTexts
namespace Go.Proofs.YtkhkhbeolhhomaaGreatDoor
open Go Go.RowKit Lmd
namespace Tx
open Rul
/-- are the first k texts of two lists alike -/
def alikeTo (xs ys : List ByteArray) (k : Nat) : Prop := ∀ j, j < k → xs[j]? = ys[j]?
theorem alike_eq {xs ys : List ByteArray} (hl : xs.length = ys.length) (h : alikeTo xs ys xs.length) : xs = ys := by
  apply List.ext_getElem?
  intro i
  by_cases hi : i < xs.length
  · exact h i hi
  · rw [List.getElem?_eq_none (by omega), List.getElem?_eq_none (by omega)]
theorem ba_ne {a b : ByteArray} (h : a ≠ b) : (a.toList == b.toList) = false := by
  rw [beq_eq_false_iff_ne]
  intro e
  rw [ByteArray.toList_eq, ByteArray.toList_eq] at e
  exact h (by rw [str_mk a, str_mk b, e])
set_option maxRecDepth 100000 in
set_option maxHeartbeats 800000 in
theorem sameTexts_any (w : World) (va vb : Value) (xs ys : List ByteArray) (ha : Rd w va xs) (hb : Rd w vb ys) (hx : xs.length ≤ 1000000) (hy : ys.length ≤ 1000000) :
    Calls Tryz.prog 46 #[va, vb] w fun e w' => e = .returned (.bool (decide (xs = ys))) ∧ ∃ q, w' = w.drewN q := by
  obtain ⟨a1, c1, rfl⟩ := ha.shape
  obtain ⟨a2, c2, rfl⟩ := hb.shape
  by_cases hl : xs.length = ys.length
  · by_cases hx0 : xs = []
    · subst hx0
      obtain rfl : ys = [] := List.length_eq_zero_iff.1 hl.symm
      clear ha hb
      go_enter Tryz.func46, Tryz.ntmps46
      go_wp2
      refine wp_loop_rounds 1 ?_
      rw [rounds_succ]
      go_wp2
      go_ret
      exact ⟨rfl, 0, rfl⟩
    · obtain ⟨b1, o1, c1', e1, hc1⟩ := ha.at hx0
      obtain ⟨b2, o2, c2', e2, hc2⟩ := hb.at (by rintro rfl; apply hx0; exact List.length_eq_zero_iff.1 hl)
      obtain ⟨rfl, rfl⟩ : a1 = some ⟨b1, o1, none⟩ ∧ c1 = c1' := by cases e1; exact ⟨rfl, rfl⟩
      obtain ⟨rfl, rfl⟩ : a2 = some ⟨b2, o2, none⟩ ∧ c2 = c2' := by cases e2; exact ⟨rfl, rfl⟩
      clear ha hb e1 e2
      have HC1 := Lib.hid hc1
      have HC2 := Lib.hid hc2
      have HL := Lib.hid hl
      have hq : ((xs.length : Int) != (ys.length : Int)) = false := by rw [hl]; simp
      have hle : ys.length ≤ xs.length := by omega
      have hge : xs.length ≤ ys.length := by omega
      clear hc1 hc2 hl hx0
      go_enter Tryz.func46, Tryz.ntmps46
      go_wp2
      go_loopw [5] (fun i wr => ∃ (k q : Nat), k ≤ xs.length ∧ i = .int .i64 k ∧ wr = w.drewN q ∧ alikeTo xs ys k) (fun i _ => xs.length - (intOf i).toNat)
      case atStart => exact ⟨0, 0, Nat.zero_le _, rfl, rfl, fun _ h => by omega⟩
      case round =>
        obtain ⟨k, q, hk, rfl, rfl, hs⟩ := hrel
        have HS := Lib.hid hs
        clear hs
        by_cases hlt : k < xs.length
        · obtain ⟨x, hxk⟩ : ∃ x, xs[k]? = some x := ⟨_, List.getElem?_eq_getElem hlt⟩
          obtain ⟨y, hyk⟩ : ∃ y, ys[k]? = some y := ⟨_, List.getElem?_eq_getElem (by omega)⟩
          have c1 := HC1.out k x hxk
          have c2 := HC2.out k y hyk
          have hlt2 : k < ys.length := by omega
          have hi1 : (k : Int) < (xs.length : Int) := by omega
          have hi2 : (k : Int) < (ys.length : Int) := by omega
          by_cases he : x = y
          · have hne : (x.toList == y.toList) = true := by rw [he]; simp
            have hxy : xs[k]? = ys[k]? := by rw [hxk, hyk, he]
            have HE := Lib.hid hxy
            clear he hxk hyk hxy
            go_wp2
            go_quiet (fail)
            go_wp2
            go_roundw
            case rel => exact ⟨k + 1, _, by omega, by go_num, rfl, fun j hj => by
              by_cases e : j = k
              · subst e; exact HE.out
              · exact HS.out j (by omega)⟩
            case measure => simp [intOf]; omega
          · have hne : (x.toList == y.toList) = false := ba_ne he
            have hxy : xs ≠ ys := by
              intro e
              rw [e, hyk] at hxk
              exact he (Option.some.inj hxk).symm
            have HE := Lib.hid hxy
            clear he hxk hyk hxy
            go_wp2
            go_quiet (fail)
            go_wp2
            go_ret
            exact ⟨Ints.ret_bool' (decide_eq_false HE.out).symm, _, Ints.drewN_add _ _ _⟩
        · obtain rfl : k = xs.length := by omega
          go_wp2
          go_ret
          exact ⟨Ints.ret_bool' (decide_eq_true (alike_eq HL.out HS.out)).symm, _, rfl⟩
  · have hd : decide (xs = ys) = false := decide_eq_false (fun h => hl (by rw [h]))
    have hq : ((xs.length : Int) != (ys.length : Int)) = true := by rw [bne_iff_ne]; omega
    have HD := Lib.hid hd
    clear ha hb hd hl
    go_enter Tryz.func46, Tryz.ntmps46
    go_wp2
    go_ret
    exact ⟨Ints.ret_bool' HD.out.symm, 0, rfl⟩
end Tx
end Go.Proofs.YtkhkhbeolhhomaaGreatDoor
