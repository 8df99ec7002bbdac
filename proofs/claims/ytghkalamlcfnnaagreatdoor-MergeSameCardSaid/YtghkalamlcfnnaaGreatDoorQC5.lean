/- DfLaw, Differed, BkLong1: texts joined. -/
import Derived.Test.YtghkalamlcfnnaaGreatDoorQC4
import Derived.Test.YtghkalamlcfnnaaGreatDoorQC3
import Derived.Test.YtghkalamlcfnnaaGreatDoorQBkSm
import Derived.Test.YtghkalamlcfnnaaGreatDoorQA13
import Derived.Deep.CutRange
import Derived.BigQuiet
section
namespace Go.Proofs.YtghkalamlcfnnaaGreatDoor
open Go Go.RowKit Go.Shelf Lmd
namespace Df
open Evt Bk Tp Rul Day Cand Er
theorem book_fine {w : World} {B b m : Nat} {L : List Ev} (h : Book w B b m L) : Good L := ⟨h.asc, h.good, h.few⟩
theorem same_self (w : World) (B B' : Nat) (p p' : Option Addr) (L : List Ev) (er : Nat → Addr) (hT : Tb w er) (h : BookO w B p L) (h' : BookO w B' p' L) :
    Calls Tryz.prog 18 #[.pointer p, .pointer p'] w fun r w' => r = .returned (.bool true) ∧ Below w.heap.size w w' := by
  have h0 := same_or w B B' p p' L L er hT h h'
  rw [decide_eq_true rfl] at h0
  exact h0
end Df
end Go.Proofs.YtghkalamlcfnnaaGreatDoor
end
section
namespace Go.Proofs.YtghkalamlcfnnaaGreatDoor
open Go Go.RowKit Go.Shelf Lmd
attribute [local go_sem] Oper.semAt_some
namespace Df
open Evt Bk Tp Rul Day Cand Er
end Df
end Go.Proofs.YtghkalamlcfnnaaGreatDoor
end
section
namespace Go.Proofs.YtghkalamlcfnnaaGreatDoor
open Go Go.RowKit Go.Shelf Lmd
attribute [local go_sem] Oper.semAt_some
namespace Bk
open Evt Tp Rul Day Cand Er
set_option maxRecDepth 100000 in
set_option maxHeartbeats 4000000 in
theorem longE_any (xs : List EvV) (v : Value) (w : World) (hr : EReads w v xs) (hf : ∀ x ∈ xs, Fin64 x.e) :
    Calls Tryz.prog 9 #[v] w fun r w' => ∃ c : Int, r = .returned (.int .i64 c) ∧ 0 ≤ c ∧ c ≤ 1 ∧ (c ≤ 0 → xs.length ≤ 70 ∧ ∀ x ∈ xs, ¬ LongP x.e) ∧ Below w.heap.size w w' := by
  obtain ⟨a, cap, rfl⟩ := hr.shape
  obtain ⟨n, hn⟩ : ∃ n, xs.length = n := ⟨_, rfl⟩
  rw [hn] at hr ⊢
  by_cases hbig : (70 : Int) < (n : Int)
  · clear hr hf
    go_enter Tryz.func9, Tryz.ntmps9
    go_wp2
    go_ret
    exact ⟨1, rfl, by omega, by omega, fun h => by omega, Below.refl _ _⟩
  have hle : n ≤ 70 := by omega
  have HR := Lib.hid hr
  have HN := Lib.hid hn
  have HF := Lib.hid hf
  clear hr hn hf
  go_enter Tryz.func9, Tryz.ntmps9
  go_wp2_with fail
  go_loopw [3, 4] (fun z i wr => ∃ (k : Nat) (zz : Int), k ≤ n ∧ i = .int .i64 (k : Int) ∧ z = .int .i64 zz ∧ Below w.heap.size w wr ∧ ∀ j, j < k → ¬ LongP (el xs j).e) (fun _ i _ => n - (intOf i).toNat)
  case atStart => exact ⟨0, 0, Nat.zero_le _, rfl, rfl, Below.refl _ _, fun _ h => absurd h (Nat.not_lt_zero _)⟩
  case round =>
    obtain ⟨k, zz, hk, rfl, rfl, hbr, hs⟩ := hrel
    have HS := Lib.hid hs
    have hrr := HR.out.below hbr
    have HBR := Lib.hid hbr
    clear hs hbr
    by_cases hlt : k < n
    · obtain ⟨-, b, o, ha, hc⟩ := hrr.at (by intro h; have := HN.out; rw [h] at this; simp at this; omega)
      subst ha
      obtain ⟨⟨c0, c1', c2, c3, c4, c5, c6, c7, c8, c9, c10⟩, hrv⟩ := hc k (by rw [HN.out]; exact hlt)
      have hfx := HF.out _ (el_mem (xs := xs) (i := k) (by rw [HN.out]; exact hlt))
      obtain ⟨x, hx⟩ : ∃ x, el xs k = x := ⟨_, rfl⟩
      rw [hx] at c0 c1' c2 c3 c4 c5 c6 c7 c8 c9 c10 hrv hfx
      obtain ⟨e, vd, vs, vm⟩ := x
      dsimp only at c0 c1' c2 c3 c4 c5 c6 c7 c8 c9 c10 hrv hfx
      obtain ⟨a6, c6', rfl⟩ := hrv.d.shape
      obtain ⟨a9, c9', rfl⟩ := hrv.s.shape
      obtain ⟨a10, c10', rfl⟩ := hrv.m.shape
      obtain ⟨la, hla⟩ : ∃ la : Int, (if LongP e then (1 : Int) else 0) = la := ⟨_, rfl⟩
      have hlo := fun W' (h : Below wr.heap.size wr W') => longEvent_any e _ _ _ W' (hrv.below h) hfx
      rw [hla] at hlo
      have HLA := Lib.hid hla
      have HLO := Lib.hid hlo
      have HX := Lib.hid hx
      have HF9 := Lib.hid (And.intro hfx.sk (And.intro hfx.mv hfx.ti))
      clear hla hlo hc hrr hx hrv hfx
      go_upto_region 7 with fail
      go_cut [3] from 8 (fun z wc => (∃ zz : Int, z = .int .i64 zz) ∧ Below wr.heap.size wr wc)
      case first =>
        go_quiet (fail)
        go_wp2_with fail
        go_meet
        exact ⟨⟨_, rfl⟩, below_draw (Below.refl _ _) _⟩
      case rest =>
        obtain ⟨⟨z2, rfl⟩, hbc⟩ := hcut
        obtain ⟨d0, d1, d2, d3, d4, d5, d6, d7, d8, d9, d10⟩ : At11 wc b (o + k * 11) ⟨e, .slice a6 e.ru.ds.length c6', .slice a9 e.sk.length c9', .slice a10 e.mv.length c10'⟩ := At11.below ⟨c0, c1', c2, c3, c4, c5, c6, c7, c8, c9, c10⟩ hbc
        dsimp only at d0 d1 d2 d3 d4 d5 d6 d7 d8 d9 d10
        have HLO2 := Lib.hid (HLO.out wc hbc)
        have HBC := Lib.hid (HBR.out.trans (hbc.mono HBR.out.size))
        clear hbc c0 c1' c2 c3 c4 c5 c6 c7 c8 c9 c10
        go_upto_region 8 with fail
        go_cut [45] from 36 (fun s wd => s = .bool (decide (0 < la) || decide (1500 < z2)) ∧ Below wc.heap.size wc wd)
        case first =>
          go_wp2_with fail
          (with_reducible refine HLO2.out.mono ?_)
          rintro e1 w1 ⟨rfl, hb1⟩
          by_cases h0 : 0 < la
          · go_wp2_with fail
            go_meet
            exact ⟨by rw [decide_eq_true (show 0 < la by omega), Bool.true_or], hb1⟩
          · by_cases h1 : (1500 : Int) < z2
            · go_wp2_with fail
              go_meet
              exact ⟨by rw [decide_eq_true (show (1500 : Int) < z2 by omega), Bool.or_true], hb1⟩
            · go_wp2_with fail
              go_meet
              exact ⟨by rw [decide_eq_false (show ¬ 0 < la by omega), decide_eq_false (show ¬ (1500 : Int) < z2 by omega), Bool.or_self], hb1⟩
        case rest =>
          obtain ⟨rfl, hbd⟩ := hcut
          have HBD := Lib.hid (HBC.out.trans (hbd.mono HBC.out.size))
          clear hbd d0 d1 d2 d3 d4 d5 d6 d7 d8 d9 d10
          obtain ⟨q, hq⟩ : ∃ q, (decide (0 < la) || decide ((1500 : Int) < z2)) = q := ⟨_, rfl⟩
          rw [hq]
          cases q with
          | true =>
            clear hq
            go_wp2
            go_ret
            exact ⟨1, rfl, by omega, by omega, fun h => by omega, HBD.out⟩
          | false =>
            have hla : ¬ 0 < la := by
              intro h
              rw [decide_eq_true h, Bool.true_or] at hq
              cases hq
            have HNL := Lib.hid (show ¬ LongP e by
              intro h
              have := HLA.out
              rw [if_pos h] at this
              omega)
            clear hq hla
            go_wp2
            go_roundw
            case rel => exact ⟨k + 1, z2, by omega, by go_num, rfl, HBD.out, fun j hj => by
              by_cases ej : j = k
              · subst ej; rw [HX.out]; exact HNL.out
              · exact HS.out j (by omega)⟩
            case measure => simp [intOf]; omega
    · obtain rfl : k = n := by omega
      go_wp2
      go_ret
      exact ⟨0, rfl, by omega, by omega, fun _ => ⟨hle, fun x hx => by
        obtain ⟨j, hj, rfl⟩ := mem_elV.1 hx
        exact HS.out j (by rw [← HN.out]; exact hj)⟩, HBR.out⟩
end Bk
end Go.Proofs.YtghkalamlcfnnaaGreatDoor
end
