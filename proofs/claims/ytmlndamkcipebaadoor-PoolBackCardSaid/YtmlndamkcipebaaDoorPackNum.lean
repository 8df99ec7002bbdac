/- pack.number: a number at the beginning of a text, up to a sign. -/
import Derived.Test.YtmlndamkcipebaaDoorLength
namespace Go.Proofs.YtmlndamkcipebaaDoor
open Go Go.RowKit Lmd
namespace Tp
open Rul Day

set_option maxRecDepth 100000 in
set_option maxHeartbeats 2000000 in
theorem packNumber_any (c : UInt8) (s : ByteArray) (m : Int) (w : World) (hs : s.size ≤ 2000000) (hE : ELib w) (htab : Lib.TabIs Tryd.prog w "internal/strconv.uint64pow10" .u64 Lib.pow10Tab) (hm : w.cell? ⟨13, 0, none⟩ = some (.int .i64 m)) :
    Calls Tryd.prog 107 #[.string s, .string ⟨#[c]⟩] w (LenPost c s.data.toList w) := by
  have hcl := cut_len s.data.toList c
  have hcut := Tryd.strings_Cut s ⟨#[c]⟩ m w (by omega) hm
  have e0 : (⟨#[c]⟩ : ByteArray).data.toList = [c] := rfl
  rw [e0] at hcut
  unfold LenPost lenOk lenN lenR
  obtain ⟨D, hD⟩ : ∃ D, (Lib.cut s.data.toList [c]).1 = D := ⟨_, rfl⟩
  obtain ⟨R, hR⟩ : ∃ R, (Lib.cut s.data.toList [c]).2.1 = R := ⟨_, rfl⟩
  obtain ⟨F, hF⟩ : ∃ F, (Lib.cut s.data.toList [c]).2.2 = F := ⟨_, rfl⟩
  rw [hD, hR, hF] at hcut ⊢
  rw [hD] at hcl
  have hsl : s.data.toList.length = s.size := by simp
  have hds : (mk D).size = D.length := by simp [ByteArray.size]
  have hat := fun W (h : Below w.heap.size w W) => atoi_any (mk D) W (by omega) (hE.below h)
  have HCUT := Lib.hid hcut
  have HAT := Lib.hid hat
  have HT := Lib.hid htab
  have hD9 : D.length ≤ 2000000 := by omega
  clear hcut hat htab hE hm hD hR hF e0 hcl hsl hds
  obtain ⟨q, hq⟩ : ∃ q, numOk D = q := ⟨_, rfl⟩
  obtain ⟨x, hx⟩ : ∃ x, numIs D = x := ⟨_, rfl⟩
  rw [hq, hx]
  have HQ := Lib.hid hq
  have HX := Lib.hid hx
  clear hq hx
  cases F with
  | false =>
    go_enter Tryd.func107, Tryd.ntmps107
    go_wp2_with fail
    refine HCUT.out.mono ?_
    rintro e1 w1 ⟨rfl, k, rfl⟩
    have hat := HAT.out (w.drewN k) (below_draw (Below.refl _ w) k)
    have HA := Lib.hid hat
    clear hat
    go_wp2_with fail
    refine HA.out.mono ?_
    rintro e2 w2 ⟨n, er, rfl, _, hb2⟩
    have HB := Lib.hid ((below_draw (Below.refl _ w) k).trans hb2)
    clear hb2
    go_wp2
    go_ret3
    exact ⟨n, rfl, (fun h => by cases h), HB.out⟩
  | true =>
    go_enter Tryd.func107, Tryd.ntmps107
    go_wp2_with fail
    refine HCUT.out.mono ?_
    rintro e1 w1 ⟨rfl, k, rfl⟩
    have HBK := Lib.hid (below_draw (Below.refl w.heap.size w) k)
    have hat := HAT.out (w.drewN k) HBK.out
    have HA := Lib.hid hat
    clear hat
    go_wp2_with fail
    refine HA.out.mono ?_
    rintro e2 w2 ⟨n, er, rfl, hor, hb2⟩
    have HB := Lib.hid (HBK.out.trans hb2)
    clear hb2 HA HAT HCUT
    rcases hor with ⟨v, hv, rfl, rfl⟩ | ⟨hno, N, rfl⟩
    · have hv2 : Lib.atoiAll D = .ok n := hv
      have hq : q = (decide (D.length ≤ 9) && decide (0 ≤ n) && decide (Lib.itoa n = D)) := by rw [← HQ.out]; unfold numOk; rw [hv2]
      have hx : x = n := by rw [← HX.out]; unfold numIs; rw [hv2]
      subst hx
      have hv9 := atoi_le hv2
      have HQ2 := Lib.hid hq
      have hsz : (mk D).size = D.length := by simp [ByteArray.size]
      have HSZ := Lib.hid hsz
      clear hv hv2 hq HQ HX hsz
      by_cases h9 : D.length ≤ 9
      · by_cases h0 : 0 ≤ x
        · by_cases hi : Lib.itoa x = D
          · obtain rfl : q = true := by rw [HQ2.out, decide_eq_true h9, decide_eq_true h0, decide_eq_true hi]; rfl
            have hit := itoa_b x (by omega) hv9 w2 (Frame.tab_below (g := 12) (by kernel_rfl) HB.out HT.out)
            rw [hi] at hit
            have HIT := Lib.hid hit
            clear hit hi HQ2
            go_wp2_with fail
            refine HIT.out.mono ?_
            rintro e3 w3 ⟨rfl, hb3⟩
            have HB3 := Lib.hid (HB.out.trans (hb3.mono HB.out.size))
            clear hb3
            go_wp2
            go_ret3
            exact ⟨_, rfl, fun _ => rfl, HB3.out⟩
          · obtain rfl : q = false := by rw [HQ2.out, decide_eq_false hi, Bool.and_false]
            have hit := itoa_b x (by omega) hv9 w2 (Frame.tab_below (g := 12) (by kernel_rfl) HB.out HT.out)
            have HIT := Lib.hid hit
            have hq : (Lib.itoa x == D) = false := beq_false_of_ne hi
            clear hit HQ2 hi
            go_wp2_with fail
            refine HIT.out.mono ?_
            rintro e3 w3 ⟨rfl, hb3⟩
            have HB3 := Lib.hid (HB.out.trans (hb3.mono HB.out.size))
            clear hb3
            go_wp2
            go_ret3
            first | exact HB3.out | exact ⟨⟨_, rfl⟩, HB3.out⟩ | exact ⟨_, rfl, (fun h => by cases h), HB3.out⟩
        · obtain rfl : q = false := by rw [HQ2.out, decide_eq_false h0, Bool.and_false]; rfl
          clear HQ2
          go_wp2
          go_ret3
          first | exact HB.out | exact ⟨⟨_, rfl⟩, HB.out⟩ | exact ⟨_, rfl, (fun h => by cases h), HB.out⟩
      · obtain rfl : q = false := by rw [HQ2.out, decide_eq_false h9]; rfl
        clear HQ2
        go_wp2
        go_ret3
        first | exact HB.out | exact ⟨⟨_, rfl⟩, HB.out⟩ | exact ⟨_, rfl, (fun h => by cases h), HB.out⟩
    · obtain rfl : q = false := HQ.out.symm.trans hno
      clear hno HQ HX
      go_wp2
      go_ret3
      first | exact HB.out | exact ⟨⟨_, rfl⟩, HB.out⟩ | exact ⟨_, rfl, (fun h => by cases h), HB.out⟩
end Tp
end Go.Proofs.YtmlndamkcipebaaDoor
