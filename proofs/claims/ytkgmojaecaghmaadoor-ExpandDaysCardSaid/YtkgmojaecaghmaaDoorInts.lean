/- Slices of numbers that are only read; the reference's SameInts. -/
import Derived.Test.YtkgmojaecaghmaaDoorRows
import Derived.WalkKit
import Derived.WalkSpells
import Derived.WalkLawsBesides
import Derived.Lib.Hide
import Derived.Deep.QuietTactic
import Derived.BigQuiet
namespace Go.Proofs.YtkgmojaecaghmaaDoor
open Go.RowKit
namespace Ints

/-- an element, behind a name that the walk does not open -/
def el (xs : List Int) (i : Nat) : Int := xs[i]?.getD 0
theorem el_lt {xs : List Int} {i : Nat} (h : i < xs.length) : el xs i = xs[i] := by simp [el, h]
/-- a slice value that reads as a list of numbers -/
def Reads (w : World) (v : Value) (xs : List Int) : Prop :=
  (xs = [] ∧ ∃ a cap, v = .slice a 0 cap) ∨ ∃ b off cap, v = .slice (some ⟨b, off, none⟩) xs.length cap ∧ ∀ i, i < xs.length → w.cell? ⟨b, off + i, none⟩ = some (.int .i64 (el xs i))

theorem Reads.shape {w : World} {v : Value} {xs : List Int} (h : Reads w v xs) : ∃ a cap, v = .slice a xs.length cap := by
  rcases h with ⟨rfl, a, cap, rfl⟩ | ⟨b, off, cap, rfl, _⟩
  · exact ⟨a, cap, rfl⟩
  · exact ⟨_, cap, rfl⟩
theorem Reads.at {w : World} {a : Option Addr} {n cap : Nat} {xs : List Int} (h : Reads w (.slice a n cap) xs) (hx : xs ≠ []) : n = xs.length ∧ ∃ b off, a = some ⟨b, off, none⟩ ∧ ∀ i, i < xs.length → w.cell? ⟨b, off + i, none⟩ = some (.int .i64 (el xs i)) := by
  rcases h with ⟨rfl, _⟩ | ⟨b, off, cap', e, hc⟩
  · exact absurd rfl hx
  · cases e; exact ⟨rfl, b, off, rfl, hc⟩
theorem Reads.below {w w' : World} {v : Value} {xs : List Int} (h : Reads w v xs) (hb : Below w.heap.size w w') : Reads w' v xs := by
  rcases h with h | ⟨b, off, cap, rfl, hc⟩
  · exact Or.inl h
  · exact Or.inr ⟨b, off, cap, rfl, fun i hi => cell_later hb (hc i hi)⟩

theorem eq_of_getD : ∀ (xs ys : List Int), xs.length = ys.length → (∀ i, i < xs.length → el xs i = el ys i) → xs = ys
  | [], [], _, _ => rfl
  | [], _ :: _, h, _ => by cases h
  | _ :: _, [], h, _ => by cases h
  | x :: xs, y :: ys, h, hc => by
    have h0 := hc 0 (by simp)
    have ht := eq_of_getD xs ys (by simpa using h) (fun i hi => by have := hc (i + 1) (by simpa using hi); simpa [el] using this)
    simp [el] at h0
    rw [h0, ht]

theorem drewN_add (w : World) (a b : Nat) : (w.drewN a).drewN b = w.drewN (a + b) := by simp [World.drewN, Nat.add_assoc]
theorem ret_bool' {a b : Bool} (h : a = b) : Ending.returned (.bool a) = .returned (.bool b) := by rw [h]

set_option maxHeartbeats 1000000 in
theorem sameInts_any (w : World) (va vb : Value) (xs ys : List Int) (ha : Reads w va xs) (hb : Reads w vb ys) (hm : xs.length ≤ 9000000000000000000) (hm2 : ys.length ≤ 9000000000000000000) :
    Calls Tryd.prog 17 #[va, vb] w fun e w' => e = .returned (.bool (decide (xs = ys))) ∧ ∃ q, w' = w.drewN q := by
  obtain ⟨a, ca, rfl⟩ := ha.shape
  obtain ⟨b, cb, rfl⟩ := hb.shape
  by_cases hl : xs.length = ys.length
  · by_cases hx : xs = []
    · subst hx
      obtain rfl : ys = [] := List.length_eq_zero_iff.1 hl.symm
      clear ha hb
      go_enter Tryd.func17, Tryd.ntmps17
      go_wp2
      refine wp_loop_rounds 1 ?_
      rw [rounds_succ]
      go_wp2
      go_ret
      exact ⟨rfl, 0, rfl⟩
    · obtain ⟨_, b1, o1, rfl, hc1⟩ := ha.at hx
      obtain ⟨_, b2, o2, rfl, hc2⟩ := hb.at (by rintro rfl; apply hx; exact List.length_eq_zero_iff.1 hl)
      clear ha hb
      have HC1 := Lib.hid hc1
      have HC2 := Lib.hid hc2
      have HL := Lib.hid hl
      have HX := Lib.hid hx
      have hq : ((xs.length : Int) != (ys.length : Int)) = false := by rw [hl]; simp
      have hle : ys.length ≤ xs.length := by omega
      have hge : xs.length ≤ ys.length := by omega
      clear hc1 hc2 hl hx
      go_enter Tryd.func17, Tryd.ntmps17
      go_wp2
      go_loopw [5] (fun i wr => ∃ (k q : Nat), k ≤ xs.length ∧ i = .int .i64 k ∧ wr = w.drewN q ∧ ∀ j, j < k → el xs j = el ys j) (fun i _ => xs.length - (intOf i).toNat)
      case atStart => exact ⟨0, 0, Nat.zero_le _, rfl, rfl, fun _ h => by omega⟩
      case round =>
        obtain ⟨k, q, hk, rfl, rfl, hs⟩ := hrel
        have HS := Lib.hid hs
        clear hs
        by_cases hlt : k < xs.length
        · have c1 := HC1.out k hlt
          have c2 := HC2.out k (by omega)
          have hlt2 : k < ys.length := by omega
          have hi1 : (k : Int) < (xs.length : Int) := by omega
          have hi2 : (k : Int) < (ys.length : Int) := by omega
          by_cases he : el xs k = el ys k
          · have hne : (el xs k != el ys k) = false := by rw [he]; simp
            have HE := Lib.hid he
            clear he
            go_wp2
            go_quiet (fail)
            go_wp2
            go_roundw
            case rel => exact ⟨k + 1, _, by omega, by go_num, rfl, fun j hj => by
              by_cases e : j = k
              · subst e; exact HE.out
              · exact HS.out j (by omega)⟩
            case measure => simp [intOf]; omega
          · have hne : (el xs k != el ys k) = true := by rw [bne_iff_ne]; exact he
            have HE := Lib.hid he
            clear he
            go_wp2
            go_quiet (fail)
            go_wp2
            go_ret
            exact ⟨ret_bool' (decide_eq_false (fun e => HE.out (by rw [e]))).symm, _, drewN_add _ _ _⟩
        · obtain rfl : k = xs.length := by omega
          go_wp2
          go_ret
          exact ⟨ret_bool' (decide_eq_true (eq_of_getD xs ys HL.out HS.out)).symm, _, rfl⟩
  · have hq : ((xs.length : Int) != (ys.length : Int)) = true := by rw [bne_iff_ne]; omega
    have hd : decide (xs = ys) = false := decide_eq_false (fun e => hl (by rw [e]))
    have HD := Lib.hid hd
    clear ha hb hl hd
    go_enter Tryd.func17, Tryd.ntmps17
    go_wp2
    go_ret
    exact ⟨ret_bool' HD.out.symm, 0, rfl⟩
end Ints
end Go.Proofs.YtkgmojaecaghmaaDoor
