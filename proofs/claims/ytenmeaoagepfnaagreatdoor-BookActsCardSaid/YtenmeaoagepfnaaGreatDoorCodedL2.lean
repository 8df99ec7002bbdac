/- package lammastidelaw2: coded. -/
import Derived.Test.YtenmeaoagepfnaaGreatDoorCode
import Derived.Test.YtenmeaoagepfnaaGreatDoorRuleText
namespace Go.Proofs.YtenmeaoagepfnaaGreatDoor
open Go Go.RowKit Lmd
namespace Cd2
open Rul Day Er

theorem coded_any (e : Nat → Addr) (c : Nat) (hc : c ≤ 11) (w : World) (he : Errs w e) :
    Calls Tryz.prog 16 #[errV e c, .int .i64 (c : Int)] w fun e' w' => e' = .returned (.bool true) ∧ Below w.heap.size w w' := by
  cases c with
  | zero =>
    have hn := code_nil w
    have HN := Lib.hid hn
    clear hn he hc
    simp only [errV]
    go_enter Tryz.func16, Tryz.ntmps16
    go_wp2_with fail
    (with_reducible refine HN.out.mono ?_)
    rintro e1 w1 ⟨rfl, rfl⟩
    go_wp2_with fail
    go_ret
    exact ⟨rfl, Below.refl _ _⟩
  | succ k =>
    have H := Lib.hid (code_sent e k (by omega) w he)
    clear he hc
    simp only [errV]
    have hk : ((k + 1 : Nat) : Int) = (k : Int) + 1 := by omega
    rw [hk]
    clear hk
    go_enter Tryz.func16, Tryz.ntmps16
    go_wp2_with fail
    (with_reducible refine H.out.mono ?_)
    rintro e1 w1 ⟨rfl, hb⟩
    have HB := Lib.hid hb
    clear hb
    go_wp2_with fail
    go_ret
    exact ⟨rfl, HB.out⟩
end Cd2
end Go.Proofs.YtenmeaoagepfnaaGreatDoor
