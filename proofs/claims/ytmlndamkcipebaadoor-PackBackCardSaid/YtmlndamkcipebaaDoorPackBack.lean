/- The walk of the law PackBack. -/
import Derived.Test.YtmlndamkcipebaaDoorPoolOf
import Derived.Test.YtmlndamkcipebaaDoorPack
import Derived.Test.YtmlndamkcipebaaDoorUnpack
import Derived.Deep.RegionHeld3
namespace Go.Proofs.YtmlndamkcipebaaDoor
open Go Go.RowKit Lmd
namespace Pk
open Rul Day Tp Cand Pl Rp

theorem PEnv_of {w : World} {e : Nat → Addr} {m : Int} (h : LEnv w e m) : PEnv w e m := ⟨EP_of h.el, h.lib, h.tab, h.ml⟩
set_option maxRecDepth 100000 in
set_option maxHeartbeats 2000000 in
theorem packBack_any (X : List ByteArray) (lv : Value) (e : Nat → Addr) (m0 : Int) (w : World) (h : LEnv w e m0) (hr : Tx.Rd w lv X) (hxl : X.length ≤ 9223372036854775807) :
    Calls Tryd.prog 8 #[lv] w fun e' w' => e' = .returned (.bool true) ∧ Below w.heap.size w w' := by
  obtain ⟨a0, c0, rfl⟩ := hr.shape
  have hp := packed_any e m0 w (PEnv_of h)
  have HP := Lib.hid hp
  have HE := Lib.hid h
  have HR := Lib.hid hr
  clear hp h hr
  go_enter Tryd.func8, Tryd.ntmps8
  go_wp2_with fail
  (with_reducible refine HP.out.mono ?_)
  rintro e1 w1 ⟨rfl, hb1⟩
  have HB1 := Lib.hid hb1
  have hlt := longTexts_any X _ w1 (HR.out.below hb1) hxl
  have HLT := Lib.hid hlt
  clear hb1 hlt HP
  go_wp2_with fail
  (with_reducible refine HLT.out.mono ?_)
  rintro e2 w2 ⟨rfl, rfl⟩
  clear HLT
  cases hlb : longB X with
  | true =>
    clear hlb
    go_wp2_with fail
    go_ret
    exact ⟨rfl, HB1.out⟩
  | false =>
    have hsh := short_of hlb
    have hx20 := hsh.1
    have hpo := poolOf_any X _ e w2 (HE.out.below HB1.out).el (HR.out.below HB1.out) hsh
    unfold PoPost at hpo
    obtain ⟨L, hL⟩ : ∃ L, X.map (·.data.toList) = L := ⟨_, rfl⟩
    have hLl : L.length = X.length := by rw [← hL]; simp
    rw [hL] at hpo
    have hfit := putAll_fit L
    have hLs : ∀ s ∈ L, s.length ≤ 150 := by
      intro s hs
      rw [← hL] at hs
      obtain ⟨x, hx, rfl⟩ := List.mem_map.1 hs
      have := hsh.2 x hx
      simpa using this
    obtain ⟨xs, hxs⟩ : ∃ xs, putAll L = xs := ⟨_, rfl⟩
    rw [hxs] at hpo hfit
    have hx150 : ∀ s ∈ xs, s.length ≤ 150 := fun s hs => hLs s (hfit.1 s hs)
    have hxn : xs.length ≤ 20 := by omega
    have HX150 := Lib.hid hx150
    have HL := Lib.hid hL
    have HLL := Lib.hid hLl
    have HLS := Lib.hid hLs
    have HPO := Lib.hid hpo
    clear hlb hsh hpo hL hLl hfit hLs hxs hx150
    go_wp2_with fail
    (with_reducible refine HPO.out.mono ?_)
    rintro e3 w3 ⟨p, v, m, p2, v2, rfl, hpl, _, hb3⟩
    have hb3' := HB1.out.trans (hb3.mono HB1.out.size)
    have hpk := pack_any w3 w2.heap.size p m v xs hpl (HE.out.below hb3').tab
    have hua := unp_all xs hpl.once hpl.few hpl.small
    have hpl2 := packL_le xs 150 (by omega) HX150.out xs.length
    have hl2 : (packL xs xs.length).length ≤ 10000 := by
      have : (150 + 31) * xs.length ≤ (150 + 31) * 20 := Nat.mul_le_mul_left _ hxn
      omega
    obtain ⟨T, hT⟩ : ∃ T, packL xs xs.length = T := ⟨_, rfl⟩
    rw [hT] at hpk hua hl2
    have HT := Lib.hid hT
    have HPK := Lib.hid hpk
    have HUA := Lib.hid hua
    have HPL := Lib.hid hpl
    have HB3 := Lib.hid hb3'
    clear hpl hb3 hb3' hpk hua hpl2 hT HPO
    go_wp2_with fail
    (with_reducible refine HPK.out.mono ?_)
    rintro e4 w4 ⟨rfl, hb4⟩
    have hb4' := HB3.out.trans (hb4.mono HB3.out.size)
    have hun := unpack_any T e m0 w4 (by omega) (HE.out.below hb4')
    unfold UnpPost at hun
    have hTb : ¬ 1048576 < T.length := by omega
    simp only [if_neg hTb, HUA.out] at hun
    simp only [if_true] at hun
    have HUN := Lib.hid hun
    have HPL4 := Lib.hid (HPL.out.below hb4)
    have HB4 := Lib.hid hb4'
    clear hb4 hb4' hun hTb HPK HPL
    go_wp2_with fail
    (with_reducible refine HUN.out.mono ?_)
    rintro e5 w5 ⟨p3, v3, m3, rfl, hi5, hb5⟩
    have HPL5 := Lib.hid (HPL4.out.below hb5)
    have HB5 := Lib.hid (HB4.out.trans (hb5.mono HB4.out.size))
    have HI5 := Lib.hid hi5
    clear hi5 hb5 HUN HPL4
    go_wp2_with fail
    go_loopw [8] (fun iv wr => ∃ k : Nat, iv = .int .i64 k ∧ k ≤ X.length ∧ Below w5.heap.size w5 wr) (fun iv _ => X.length - (intOf iv).toNat)
    case atStart => exact ⟨0, rfl, Nat.zero_le _, Below.refl _ _⟩
    case round =>
      obtain ⟨k, rfl, hk, hlow⟩ := hrel
      have hall : Below w.heap.size w wr := HB5.out.trans (hlow.mono HB5.out.size)
      by_cases hlt : k < X.length
      · obtain ⟨b0, o0, c1, e1, hc⟩ := HR.out.at (by intro h; rw [h] at hlt; exact absurd hlt (Nat.not_lt_zero _))
        obtain ⟨rfl, rfl⟩ : a0 = some ⟨b0, o0, none⟩ ∧ c0 = c1 := by cases e1; exact ⟨rfl, rfl⟩
        obtain ⟨s, hs⟩ : ∃ s, L[k]? = some s := ⟨_, List.getElem?_eq_getElem (by have := HLL.out; omega)⟩
        have hXk : X[k]? = some (mk s) := by
          have hj := hs
          rw [← HL.out, List.getElem?_map] at hj
          cases hx : X[k]? with
          | none => rw [hx] at hj; cases hj
          | some x => rw [hx] at hj; cases hj; rw [← mk_self x]
        have hcl : ∀ (W : World), Below w.heap.size w W → W.cell? ⟨b0, o0 + k, none⟩ = some (.string (mk s)) := fun W hb => cell_later hb (hc k _ hXk)
        have k1 := hcl wr hall
        have hi1 : (k : Int) < (X.length : Int) := by omega
        have hsz : s.length ≤ 150 := HLS.out s (List.mem_of_getElem? hs)
        have hd1 : ∀ W, Below wr.heap.size wr W → Calls Tryd.prog 30 #[.string (mk s), .string (mk s)] W fun e w' => e = .returned (.string (mk (deltaL s s))) ∧ Below W.heap.size W w' := fun W hW => delta_any s s W (by omega) (by omega) (HE.out.below (hall.trans (hW.mono hall.size))).tab
        have hd2 : ∀ W, Below wr.heap.size wr W → Calls Tryd.prog 30 #[.string (mk []), .string (mk s)] W fun e w' => e = .returned (.string (mk (deltaL [] s))) ∧ Below W.heap.size W w' := fun W hW => delta_any [] s W (by simp) (by omega) (HE.out.below (hall.trans (hW.mono hall.size))).tab
        have hdl1 := deltaL_le s s (by omega)
        have hap1 := apply_delta s s (by omega) (by omega)
        have hdl2 := deltaL_le [] s (by omega)
        have hap2 := apply_delta [] s (by simp) (by omega)
        obtain ⟨d, hd⟩ : ∃ d, deltaL s s = d := ⟨_, rfl⟩
        obtain ⟨f, hf⟩ : ∃ f, deltaL [] s = f := ⟨_, rfl⟩
        rw [hd] at hd1 hdl1 hap1
        rw [hf] at hd2 hdl2 hap2
        have ha1 : ∀ W, Below wr.heap.size wr W → Calls Tryd.prog 18 #[.string (mk s), .string (mk d)] W fun e w' => e = .returned (.tuple #[.string (mk s), .nilIface]) ∧ Below W.heap.size W w' := fun W hW => by
          have h6 := HE.out.below (hall.trans (hW.mono hall.size))
          have hap := apply_any s d e m0 W (by omega) (by omega) (EP_of h6.el) h6.lib h6.tab h6.ml
          unfold ApPost at hap
          rw [hap1] at hap
          exact hap
        have ha2 : ∀ W, Below wr.heap.size wr W → Calls Tryd.prog 18 #[.string (mk []), .string (mk f)] W fun e w' => e = .returned (.tuple #[.string (mk s), .nilIface]) ∧ Below W.heap.size W w' := fun W hW => by
          have h6 := HE.out.below (hall.trans (hW.mono hall.size))
          have hap := apply_any [] f e m0 W (by simp) (by omega) (EP_of h6.el) h6.lib h6.tab h6.ml
          unfold ApPost at hap
          rw [hap2] at hap
          exact hap
        have HCL := Lib.hid hcl
        have HD1 := Lib.hid hd1
        have HD2 := Lib.hid hd2
        have HA1 := Lib.hid ha1
        have HA2 := Lib.hid ha2
        have HLOW := Lib.hid hlow
        have HALL := Lib.hid hall
        have hb0 := below_drew' (Below.refl wr.heap.size wr)
        clear e1 hc hs hXk hcl hd1 hd2 hap1 hap2 ha1 ha2 hd hf hlow hall
        go_upto_region 13 with fail
        go_region_held3 (fun W => Below wr.heap.size wr W ∧ W.cell? ⟨b0, o0 + k, none⟩ = some (.string (mk s)))
          (first
            | (refine ⟨?_, ?_⟩ <;> assumption)
            | (go_split_ands
               refine ⟨Below.trans ‹Below wr.heap.size wr _› (Below.mono hbq (Below.size ‹Below wr.heap.size wr _›)), cell_later hbq (by assumption)⟩))
          (first
            | ((with_reducible refine (HD1.out _ ?_).mono ?_); (go_split_ands; assumption); rintro e1 wq ⟨rfl, hbq⟩)
            | ((with_reducible refine (HA1.out _ ?_).mono ?_); (go_split_ands; assumption); rintro e1 wq ⟨rfl, hbq⟩))
        have hq1 : Below wr.heap.size wr wq := by go_split_ands; assumption
        have k2 := HCL.out wq (HALL.out.trans (hq1.mono HALL.out.size))
        have hd2 := HD2.out wq hq1
        have HDD := Lib.hid hd2
        have HQ1 := Lib.hid hq1
        clear hq1 hb0 hd2
        go_wp2_with fail
        (with_reducible refine HDD.out.mono ?_)
        rintro e7 w7 ⟨rfl, hb7⟩
        have hq7 := HQ1.out.trans (hb7.mono HQ1.out.size)
        have ha7 := HA2.out w7 hq7
        have HAA := Lib.hid ha7
        have HQ7 := Lib.hid hq7
        clear hb7 hq7 ha7 k2 HDD
        go_wp2_with fail
        (with_reducible refine HAA.out.mono ?_)
        rintro e8 w8 ⟨rfl, hb8⟩
        have hq8 := HQ7.out.trans (hb8.mono HQ7.out.size)
        have hall8 := HALL.out.trans (hq8.mono HALL.out.size)
        have k3 := HCL.out w8 hall8
        have HQ8 := Lib.hid (HLOW.out.trans (hq8.mono HLOW.out.size))
        clear hb8 hq8 hall8 HAA
        go_wp2_with fail
        go_roundw
        case rel => exact ⟨k + 1, by go_num, by omega, HQ8.out⟩
        case measure => simp [intOf]; omega
      · have hi1 : ¬ (k : Int) < (X.length : Int) := by omega
        have ht1 := text_any wr w4.heap.size p3 m3 v3 xs (HI5.out.below hlow) (HE.out.below hall).tab
        have HT1 := Lib.hid ht1
        have HLOW := Lib.hid hlow
        clear ht1 hlow hall
        go_wp2_with fail
        (with_reducible refine HT1.out.mono ?_)
        rintro e6 w6 ⟨rfl, hb6⟩
        have hl6 := HLOW.out.trans (hb6.mono HLOW.out.size)
        have ht2 := text_any w6 w2.heap.size p m v xs (HPL5.out.below hl6) (HE.out.below (HB5.out.trans (hl6.mono HB5.out.size))).tab
        have HT2 := Lib.hid ht2
        have HL6 := Lib.hid hl6
        clear hb6 hl6 ht2 HT1
        go_wp2_with fail
        (with_reducible refine HT2.out.mono ?_)
        rintro e7 w7 ⟨rfl, hb7⟩
        have hl7 := HL6.out.trans (hb7.mono HL6.out.size)
        have ht3 := pack_any w7 w4.heap.size p3 m3 v3 xs (HI5.out.below hl7) (HE.out.below (HB5.out.trans (hl7.mono HB5.out.size))).tab
        have HT3 := Lib.hid ht3
        have HL7 := Lib.hid hl7
        clear hb7 hl7 ht3 HT2
        go_wp2_with fail
        (with_reducible refine HT3.out.mono ?_)
        rintro e8 w8 ⟨rfl, hb8⟩
        have hl8 := HL7.out.trans (hb8.mono HL7.out.size)
        have ht4 := pack_any w8 w2.heap.size p m v xs (HPL5.out.below hl8) (HE.out.below (HB5.out.trans (hl8.mono HB5.out.size))).tab
        have HT4 := Lib.hid ht4
        have HL8 := Lib.hid hl8
        clear hb8 hl8 ht4 HT3
        go_wp2_with fail
        (with_reducible refine HT4.out.mono ?_)
        rintro e9 w9 ⟨rfl, hb9⟩
        have HL9 := Lib.hid (HB5.out.trans ((HL8.out.trans (hb9.mono HL8.out.size)).mono HB5.out.size))
        clear hb9 HT4
        go_wp2_with fail
        go_ret
        exact ⟨rfl, HL9.out⟩
end Pk
end Go.Proofs.YtmlndamkcipebaaDoor
