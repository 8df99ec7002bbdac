/- The reference's SameInts. -/
import Derived.Test.YtkhkhbeolhhomaaGreatDoorInts
namespace Go.Proofs.YtkhkhbeolhhomaaGreatDoor
open Go.RowKit
namespace Ints
set_option maxHeartbeats 1000000 in
theorem sameInts_any (w : World) (va vb : Value) (xs ys : List Int) (ha : Reads w va xs) (hb : Reads w vb ys) (hm : xs.length ≤ 9000000000000000000) (hm2 : ys.length ≤ 9000000000000000000) :
    Calls Tryz.prog 26 #[va, vb] w fun e w' => e = .returned (.bool (decide (xs = ys))) ∧ ∃ q, w' = w.drewN q := by
  obtain ⟨a, ca, rfl⟩ := ha.shape
  obtain ⟨b, cb, rfl⟩ := hb.shape
  by_cases hl : xs.length = ys.length
  · by_cases hx : xs = []
    · subst hx
      obtain rfl : ys = [] := List.length_eq_zero_iff.1 hl.symm
      clear ha hb
      go_enter Tryz.func26, Tryz.ntmps26
      go_wp2
      refine wp_loop_rounds 1 ?_
      rw [rounds_succ]
      go_wp2
      go_ret
      exact ⟨rfl, 0, rfl⟩
    · obtain ⟨_, b1, o1, rfl, hc1⟩ := ha.at hx
      obtain ⟨_, b2, o2, rfl, hc2⟩ := hb.at (by rintro rfl; apply hx; exact List.length_eq_zero_iff.1 hl)
      clear ha hb
      have HC1 := Lib.hid hc1
      have HC2 := Lib.hid hc2
      have HL := Lib.hid hl
      have HX := Lib.hid hx
      have hq : ((xs.length : Int) != (ys.length : Int)) = false := by rw [hl]; simp
      have hle : ys.length ≤ xs.length := by omega
      have hge : xs.length ≤ ys.length := by omega
      clear hc1 hc2 hl hx
      go_enter Tryz.func26, Tryz.ntmps26
      go_wp2
      go_loopw [5] (fun i wr => ∃ (k q : Nat), k ≤ xs.length ∧ i = .int .i64 k ∧ wr = w.drewN q ∧ ∀ j, j < k → el xs j = el ys j) (fun i _ => xs.length - (intOf i).toNat)
      case atStart => exact ⟨0, 0, Nat.zero_le _, rfl, rfl, fun _ h => by omega⟩
      case round =>
        obtain ⟨k, q, hk, rfl, rfl, hs⟩ := hrel
        have HS := Lib.hid hs
        clear hs
        by_cases hlt : k < xs.length
        · have c1 := HC1.out k hlt
          have c2 := HC2.out k (by omega)
          have hlt2 : k < ys.length := by omega
          have hi1 : (k : Int) < (xs.length : Int) := by omega
          have hi2 : (k : Int) < (ys.length : Int) := by omega
          by_cases he : el xs k = el ys k
          · have hne : (el xs k != el ys k) = false := by rw [he]; simp
            have HE := Lib.hid he
            clear he
            go_wp2
            go_quiet (fail)
            go_wp2
            go_roundw
            case rel => exact ⟨k + 1, _, by omega, by go_num, rfl, fun j hj => by
              by_cases e : j = k
              · subst e; exact HE.out
              · exact HS.out j (by omega)⟩
            case measure => simp [intOf]; omega
          · have hne : (el xs k != el ys k) = true := by rw [bne_iff_ne]; exact he
            have HE := Lib.hid he
            clear he
            go_wp2
            go_quiet (fail)
            go_wp2
            go_ret
            exact ⟨ret_bool' (decide_eq_false (fun e => HE.out (by rw [e]))).symm, _, drewN_add _ _ _⟩
        · obtain rfl : k = xs.length := by omega
          go_wp2
          go_ret
          exact ⟨ret_bool' (decide_eq_true (eq_of_getD xs ys HL.out HS.out)).symm, _, rfl⟩
  · have hq : ((xs.length : Int) != (ys.length : Int)) = true := by rw [bne_iff_ne]; omega
    have hd : decide (xs = ys) = false := decide_eq_false (fun e => hl (by rw [e]))
    have HD := Lib.hid hd
    clear ha hb hl hd
    go_enter Tryz.func26, Tryz.ntmps26
    go_wp2
    go_ret
    exact ⟨ret_bool' HD.out.symm, 0, rfl⟩
end Ints
end Go.Proofs.YtkhkhbeolhhomaaGreatDoor
