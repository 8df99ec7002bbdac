/- The walk of the law PackDeltas. -/
import Derived.Test.YtmlndamkcipebaaDoorPoolOf
import Derived.Test.YtmlndamkcipebaaDoorPack
import Derived.Test.YtmlndamkcipebaaDoorRefUnpack
import Derived.Deep.RegionHeld3
namespace Go.Proofs.YtmlndamkcipebaaDoor
open Go Go.RowKit Lmd
namespace Pk
open Rul Day Tp Cand Pl Rp Rf

/-- what the law PackDeltas stands on -/
structure DEnv (w : World) (e : Nat → Addr) (m : Int) : Prop where
  pe : PEnv w e m
  eq : EQ w e
theorem DEnv.below {w w' : World} {e : Nat → Addr} {m : Int} (h : DEnv w e m) (hb : Below w.heap.size w w') : DEnv w' e m := ⟨h.pe.below hb, h.eq.below hb⟩
set_option maxRecDepth 100000 in
set_option maxHeartbeats 2000000 in
theorem packDeltas_any (X : List ByteArray) (lv : Value) (e : Nat → Addr) (m0 : Int) (w : World) (h : DEnv w e m0) (hr : Tx.Rd w lv X) (hxl : X.length ≤ 9223372036854775807) :
    Calls Tryd.prog 7 #[lv] w fun e' w' => e' = .returned (.bool true) ∧ Below w.heap.size w w' := by
  obtain ⟨a0, c0, rfl⟩ := hr.shape
  have hp := packed_any e m0 w h.pe
  have HP := Lib.hid hp
  have HE := Lib.hid h
  have HR := Lib.hid hr
  clear hp h hr
  go_enter Tryd.func7, Tryd.ntmps7
  go_wp2_with fail
  (with_reducible refine HP.out.mono ?_)
  rintro e1 w1 ⟨rfl, hb1⟩
  have HB1 := Lib.hid hb1
  have hlt := longTexts_any X _ w1 (HR.out.below hb1) hxl
  have HLT := Lib.hid hlt
  clear hb1 hlt HP
  go_wp2_with fail
  (with_reducible refine HLT.out.mono ?_)
  rintro e2 w2 ⟨rfl, rfl⟩
  clear HLT
  cases hlb : longB X with
  | true =>
    clear hlb
    go_wp2_with fail
    go_ret
    exact ⟨rfl, HB1.out⟩
  | false =>
    have hsh := short_of hlb
    have hx20 := hsh.1
    obtain ⟨L, hL⟩ : ∃ L, X.map (·.data.toList) = L := ⟨_, rfl⟩
    have hLl : L.length = X.length := by rw [← hL]; simp
    have hLs : ∀ s ∈ L, s.length ≤ 150 := by
      intro s hs
      rw [← hL] at hs
      obtain ⟨x, hx, rfl⟩ := List.mem_map.1 hs
      have := hsh.2 x hx
      simpa using this
    have HSH := Lib.hid hsh
    have HL := Lib.hid hL
    have HLL := Lib.hid hLl
    have HLS := Lib.hid hLs
    clear hlb hsh hL hLl hLs
    go_wp2_with fail
    go_loopw [4] (fun iv wr => ∃ k : Nat, iv = .int .i64 k ∧ k ≤ X.length ∧ Below w2.heap.size w2 wr) (fun iv _ => X.length - (intOf iv).toNat)
    case atStart => exact ⟨0, rfl, Nat.zero_le _, Below.refl _ _⟩
    case round =>
      obtain ⟨k, rfl, hk, hlow⟩ := hrel
      have hall : Below w.heap.size w wr := HB1.out.trans (hlow.mono HB1.out.size)
      by_cases hlt : k + 1 < X.length
      · obtain ⟨b0, o0, c1, e1, hc⟩ := HR.out.at (by intro h; rw [h] at hlt; exact absurd hlt (Nat.not_lt_zero _))
        obtain ⟨rfl, rfl⟩ : a0 = some ⟨b0, o0, none⟩ ∧ c0 = c1 := by cases e1; exact ⟨rfl, rfl⟩
        obtain ⟨a, ha⟩ : ∃ s, L[k]? = some s := ⟨_, List.getElem?_eq_getElem (by have := HLL.out; omega)⟩
        obtain ⟨b, hb⟩ : ∃ s, L[k + 1]? = some s := ⟨_, List.getElem?_eq_getElem (by have := HLL.out; omega)⟩
        have hX : ∀ (j : Nat) (t : List UInt8), L[j]? = some t → X[j]? = some (mk t) := by
          intro j t hj
          rw [← HL.out, List.getElem?_map] at hj
          cases hx : X[j]? with
          | none => rw [hx] at hj; cases hj
          | some x => rw [hx] at hj; cases hj; rw [← mk_self x]
        have k1 := cell_later hall (hc k _ (hX k a ha))
        have k2 := cell_later hall (hc (k + 1) _ (hX (k + 1) b hb))
        obtain ⟨k', hk'⟩ : ∃ k' : Nat, k' = k + 1 := ⟨_, rfl⟩
        rw [← hk'] at k2
        have hw1 : IntKind.i64.wrap ((k : Int) + 1) = (k' : Int) := by
          rw [show (k : Int) + 1 = (k' : Int) by omega]; exact IntWalk.i64_in _ (by omega)
        have hi1 : (k' : Int) < (X.length : Int) := by omega
        have hi2 : (k : Int) < (X.length : Int) := by omega
        have hal : a.length ≤ 150 := HLS.out a (List.mem_of_getElem? ha)
        have hbl : b.length ≤ 150 := HLS.out b (List.mem_of_getElem? hb)
        have hd1 := delta_any a b wr (by omega) (by omega) (HE.out.below hall).pe.tab
        have hdl1 := deltaL_le a b (by omega)
        have hdm := delta_most a b
        have hap1 := apply_delta a b (by omega) (by omega)
        obtain ⟨d, hd⟩ : ∃ d, deltaL a b = d := ⟨_, rfl⟩
        rw [hd] at hd1 hdl1 hap1 hdm
        have hrp := fun W => applyOf_any a d W (by omega) (by omega)
        unfold RApPost at hrp
        rw [hap1] at hrp
        have HD1 := Lib.hid hd1
        have HRP := Lib.hid hrp
        have HDM := Lib.hid hdm
        have HLOW := Lib.hid hlow
        have HALL := Lib.hid hall
        have HK := Lib.hid hk'
        clear e1 hc ha hb hX hd1 hdm hap1 hd hrp hlow hall hk'
        go_wp2_with fail
        (with_reducible refine HD1.out.mono ?_)
        rintro e6 w6 ⟨rfl, hb6⟩
        have hq6 := HLOW.out.trans (hb6.mono HLOW.out.size)
        have HQ6 := Lib.hid hq6
        clear hb6 hq6 HD1
        go_wp2_with fail
        (with_reducible refine (HRP.out _).mono ?_)
        rintro e7 w7 ⟨rfl, hb7⟩
        have HQ7 := Lib.hid (HQ6.out.trans (hb7.mono HQ6.out.size))
        clear hb7
        by_cases hbe : b = []
        · subst hbe
          have hd0 : d = [] := by
            have h := HDM.out
            rw [if_pos rfl] at h
            exact List.length_eq_zero_iff.1 (by omega)
          subst hd0
          have he : (mk []).toList = [] := toListMk _
          have he2 : (mk []).size = 0 := rfl
          clear k1 k2
          go_wp2_with fail
          exact ⟨⟨k', rfl, by have := HK.out; omega, HQ7.out⟩, by have := HK.out; simp [intOf]; omega⟩
        · have hde := Ref.decimal_any b.length (by omega) w7
          have hdz : (⟨(Lib.decDigits b.length).toArray⟩ : ByteArray) = mk (Lib.itoa (b.length : Int)) := by rw [Lib.itoa_nonneg]
          rw [hdz] at hde
          have hil := Lib.itoa_length_le (b.length : Int) (by omega) (by omega)
          have hdm : d.length ≤ (Lib.itoa (b.length : Int)).length + b.length + 3 := by have h := HDM.out; rw [if_neg hbe] at h; exact h
          obtain ⟨I, hI⟩ : ∃ I, Lib.itoa (b.length : Int) = I := ⟨_, rfl⟩
          rw [hI] at hde hil hdm
          have he3 : b.isEmpty = false := by simpa using hbe
          have he4 : ((mk b).toList == []) = false := by rw [toListMk]; simpa using hbe
          have HDE := Lib.hid hde
          have hdm2 : ¬ (I.length : Int) + (b.length : Int) + 3 < (d.length : Int) := by omega
          clear hde hdz hI hdm hbe k1 k2
          go_wp2_with fail
          (with_reducible refine HDE.out.mono ?_)
          rintro e8 w8 ⟨rfl, hb8⟩
          have HQ8 := Lib.hid (HQ7.out.trans (hb8.mono HQ7.out.size))
          clear hb8 HDE
          go_wp2_with fail
          exact ⟨⟨k', rfl, by have := HK.out; omega, HQ8.out⟩, by have := HK.out; simp [intOf]; omega⟩
      · have hw1 : IntKind.i64.wrap ((k : Int) + 1) = (k : Int) + 1 := IntWalk.i64_in _ (by omega)
        have hi1 : ¬ (k : Int) + 1 < (X.length : Int) := by omega
        have hpo := poolOf_any X _ e wr (HE.out.below hall).eq (HR.out.below hall) HSH.out
        unfold PoPost at hpo
        have hfit := putAll_fit L
        rw [HL.out] at hpo
        obtain ⟨xs, hxs⟩ : ∃ xs, putAll L = xs := ⟨_, rfl⟩
        rw [hxs] at hpo hfit
        have hx150 : ∀ s ∈ xs, s.length ≤ 150 := fun s hs => HLS.out s (hfit.1 s hs)
        have hxn : xs.length ≤ 20 := by have := HLL.out; omega
        have HX150 := Lib.hid hx150
        have HPO := Lib.hid hpo
        have HALL := Lib.hid hall
        clear hpo hfit hxs hx150 hlow hall
        go_wp2_with fail
        (with_reducible refine HPO.out.mono ?_)
        rintro e3 w3 ⟨p, v, m, p2, v2, rfl, hpl, hrl, hb3⟩
        have hb3' := HALL.out.trans (hb3.mono HALL.out.size)
        have hpk := pack_any w3 wr.heap.size p m v xs hpl (HE.out.below hb3').pe.tab
        have hua := unp_all xs hpl.once hpl.few hpl.small
        have hpl2 := packL_le xs 150 (by omega) HX150.out xs.length
        have hpe := packL_ents xs xs.length (Nat.le_refl _)
        rw [List.take_length] at hpe
        have hl2 : (packL xs xs.length).length ≤ 10000 := by
          have : (150 + 31) * xs.length ≤ (150 + 31) * 20 := Nat.mul_le_mul_left _ hxn
          omega
        have hel := entsL_le xs hpl.small
        obtain ⟨T, hT⟩ : ∃ T, packL xs xs.length = T := ⟨_, rfl⟩
        rw [hT] at hpk hua hl2 hpe
        obtain ⟨E, hE⟩ : ∃ E, entsL xs = E := ⟨_, rfl⟩
        rw [hE] at hpe hel
        have HEE := Lib.hid hE
        have HPK := Lib.hid hpk
        have HUA := Lib.hid hua
        have HRL := Lib.hid hrl
        have HB3 := Lib.hid hb3'
        clear hpl hrl hb3 hb3' hpk hua hpl2 hT hE HPO
        go_wp2_with fail
        (with_reducible refine HPK.out.mono ?_)
        rintro e4 w4 ⟨rfl, hb4⟩
        have hb4' := HB3.out.trans (hb4.mono HB3.out.size)
        have hun := fun W => unpackOf_any T W (by omega)
        unfold RUnpPost at hun
        have hTb : ¬ 1048576 < T.length := by omega
        simp only [if_neg hTb, HUA.out] at hun
        simp only [if_true] at hun
        have HUN := Lib.hid hun
        have HRL4 := Lib.hid (HRL.out.below hb4)
        have HB4 := Lib.hid hb4'
        clear hb4 hb4' hun hTb HPK HRL
        go_wp2_with fail
        (with_reducible refine (HUN.out _).mono ?_)
        rintro e5 w5 ⟨p3, v3, rfl, hi5, hb5⟩
        obtain ⟨W6, hW6⟩ : ∃ W6, w5.alloc (.cells #[.int .i64 0, .int .i64 (-1)] 61) = W6 := ⟨_, rfl⟩
        have hb6 : Below w5.heap.size w5 W6 := by rw [← hW6]; exact (Below.refl _ w5).alloc (Nat.le_refl _) _
        have hx6 := heap_new w5 (.cells #[.int .i64 0, .int .i64 (-1)] 61)
        rw [hW6] at hx6
        obtain ⟨q0, q1, _⟩ := cells2 hx6
        have HW6 := Lib.hid hW6
        have HI6 := Lib.hid (hi5.below hb6)
        have HRL6 := Lib.hid ((HRL4.out.below hb5).below hb6)
        have hb5' := HB4.out.trans (hb5.mono HB4.out.size)
        have HB6 := Lib.hid (hb5'.trans (hb6.mono hb5'.size))
        clear hW6 hx6 hi5 hb5 hb5' hb6 HUN HRL4
        obtain ⟨a2, c2, rfl⟩ := ownsRow_slice HRL6.out.own
        have k2 : W6.cell? ⟨p2, 0, none⟩ = some (.slice a2 xs.length c2) := cell_of HRL6.out.row rfl
        have hta : ∀ W, Below W6.heap.size W6 W → Calls Tryd.prog 36 #[.pointer (some ⟨p3, 0, none⟩)] W fun e w' => e = .returned (.string (mk E)) ∧ Below W.heap.size W w' := fun W hW => by
          have h := rtext_any W w4.heap.size p3 v3 xs (HI6.out.below hW)
          rw [HEE.out] at h
          exact h
        have htb : ∀ W, Below W6.heap.size W6 W → Calls Tryd.prog 36 #[.pointer (some ⟨p2, 0, none⟩)] W fun e w' => e = .returned (.string (mk E)) ∧ Below W.heap.size W w' := fun W hW => by
          have h := rtext_any W wr.heap.size p2 _ xs (HRL6.out.below hW)
          rw [HEE.out] at h
          exact h
        have hw3 : IntKind.i64.wrap ((E.length : Int) + (xs.length : Int)) = (E.length : Int) + (xs.length : Int) := IntWalk.i64_in _ (by omega)
        have hle : (T.length : Int) ≤ (E.length : Int) + (xs.length : Int) := by omega
        have HTA := Lib.hid hta
        have HTB := Lib.hid htb
        have hb0 := below_drew' (Below.refl W6.heap.size W6)
        clear hta htb
        go_wp2_with fail
        rw [HW6.out]
        go_region_held3 (fun W => Below W6.heap.size W6 W ∧ W.cell? ⟨w5.heap.size, 0, none⟩ = some (.int .i64 0) ∧ W.cell? ⟨p2, 0, none⟩ = some (.slice a2 xs.length c2))
          (first
            | (refine ⟨?_, ?_, ?_⟩ <;> assumption)
            | (go_split_ands
               refine ⟨Below.trans ‹Below W6.heap.size W6 _› (Below.mono hbq (Below.size ‹Below W6.heap.size W6 _›)), cell_later hbq (by assumption), cell_later hbq (by assumption)⟩))
          (first
            | ((with_reducible refine (HTA.out _ ?_).mono ?_); (go_split_ands; assumption); rintro e1 wq ⟨rfl, hbq⟩)
            | ((with_reducible refine (HTB.out _ ?_).mono ?_); (go_split_ands; assumption); rintro e1 wq ⟨rfl, hbq⟩))
        have hfin : Below w.heap.size w wq := HB6.out.trans (Below.mono (by go_split_ands; assumption) HB6.out.size)
        go_wp2
        go_ret
        exact ⟨rfl, hfin⟩
end Pk
end Go.Proofs.YtmlndamkcipebaaDoor
