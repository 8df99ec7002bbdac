/- The walk of the law PoolTexts. -/
import Derived.Test.YtmlndamkcipebaaGreatDoorPoolCopy
import Derived.Test.YtmlndamkcipebaaGreatDoorPoolTwo
import Derived.Test.YtmlndamkcipebaaGreatDoorRefPool2
import Derived.Test.YtmlndamkcipebaaGreatDoorRefReadPool
import Derived.Test.YtmlndamkcipebaaGreatDoorCodedL2
import Derived.Test.YtmlndamkcipebaaGreatDoorFaultedL2
import Derived.Test.YtmlndamkcipebaaGreatDoorUnpack
import Derived.Test.YtmlndamkcipebaaGreatDoorTexts
import Derived.Deep.RegionHeld3
import Derived.Deep.CutRange
namespace Go.Proofs.YtmlndamkcipebaaGreatDoor
open Go Go.RowKit Lmd
namespace Rp
open Rul Day Cand Tp Pl Pk Cd2

theorem find_num (w : World) (base p m : Nat) (v : Value) (xs : List (List UInt8)) (s : List UInt8) (h : Pl.Is w base p v m xs) (hs0 : s.length ≤ 9223372036854775807) :
    Calls Tryz.prog 16 #[.pointer (some ⟨p, 0, none⟩), .string (mk s)] w fun er w' => er = .returned (.tuple #[.int .i64 ((if s ∈ xs then xs.idxOf s else 0 : Nat) : Int), .bool (decide (s ∈ xs))]) ∧ w' = w := by
  obtain ⟨D, hown, htl⟩ := h.map
  have k1 : w.cell? ⟨p, 1, none⟩ = some (.map (some m)) := cell_of h.row rfl
  have hkey := hkeyS (s := s) (by simpa [maxLen] using hs0)
  have hhas := htl.has s
  have hnum : D.atKey (ky s) (.lit (.int .i64 0)) = .lit (.int .i64 ((if s ∈ xs then xs.idxOf s else 0 : Nat) : Int)) := by
    by_cases hm : s ∈ xs
    · rw [htl.num s hm, if_pos hm]
    · rw [Maps.atKey_of_not_has (by rw [hhas, decide_eq_false hm]), if_neg hm]; rfl
  obtain ⟨q, hq⟩ : ∃ q, decide (s ∈ xs) = q := ⟨_, rfl⟩
  obtain ⟨N, hN⟩ : ∃ N, (if s ∈ xs then xs.idxOf s else 0 : Nat) = N := ⟨_, rfl⟩
  rw [hN] at hnum ⊢
  rw [hq] at hhas ⊢
  obtain ⟨S, hS⟩ : ∃ S, mk s = S := ⟨_, rfl⟩
  rw [hS] at hkey ⊢
  have HNUM := Lib.hid hnum
  clear hS h htl hq hN hnum
  go_enter Tryz.func16, Tryz.ntmps16
  go_wp2_with (at_lookup; refine wpList_lookup_own_ok_int _ rfl _ _ 68 rfl 9 3 .i64 lawS Tryz.underlying68 Tryz.underlying3 (zeroI _) m xs.length D rfl hown _ (ky s) rfl hkey ?_; intro c hat hwc; rw [HNUM.out] at hat; have hat2 := Lib.hid hat; clear hat)
  go_ret2
  have e1 := hat2.out
  injection e1 with e2
  injection e2 with e3 e4
  exact ⟨by rw [← e4]; rfl, rfl⟩
theorem putC_le (xs : List (List UInt8)) (s : List UInt8) : putC xs s ≤ 7 := by
  unfold putC
  split
  · omega
  · split
    · omega
    · split <;> omega
theorem freshC_le7 (xs : List (List UInt8)) (s : List UInt8) : freshC xs s ≤ 7 := by
  unfold freshC
  split
  · omega
  · exact putC_le _ _
theorem takeX_le (l : List UInt8) : (takeX l).1 ≤ 7 := by
  unfold takeX
  split
  · split
    · simp
    · split <;> simp
  · simp
theorem rdT_le7 : ∀ (k : Nat) (xs : List (List UInt8)) (l : List UInt8), (Pl.readT k xs l).1 ≤ 7
  | 0, xs, l => by simp [Pl.readT]
  | k + 1, xs, l => by
    simp only [Pl.readT]
    split
    · simp
    · split
      · exact takeX_le _
      · split
        · exact freshC_le7 _ _
        · exact rdT_le7 k _ _
theorem rdF_le (l : List UInt8) : (Pl.readF [] l).1 ≤ 7 := rdT_le7 _ _ _
/-- what the law PoolTexts stands on -/
structure QEnv (w : World) (e : Nat → Addr) (m : Int) : Prop where
  le : LEnv w e m
  es : Er.Errs w e
theorem QEnv.below {w w' : World} {e : Nat → Addr} {m : Int} (h : QEnv w e m) (hb : Below w.heap.size w w') : QEnv w' e m := ⟨h.le.below hb, h.es.below hb⟩
theorem poAt_put {L : List (List UInt8)} {w w3 wr : World} {p m q k : Nat} {v v2 v3 : Value} (hat : PoAt L w p m q k v v2 wr)
    (hf3 : Far (fun k => k = p ∨ k = m ∨ some k = v.ownBlock) wr w3) (hv3 : v3.ownBlock = v.ownBlock ∨ ∃ k, v3.ownBlock = some k ∧ wr.heap.size ≤ k) : RIs w3 w.heap.size q v2 (putAll (L.take k)) ∧ Apart v3 v2 := by
  refine ⟨?_, ?_⟩
  · refine hat.rl.far hf3 ?_ ?_
    · rintro (e | e | e)
      · exact rows_ne hat.pl.row hat.rl.row e.symm
      · obtain ⟨D, hD, _⟩ := hat.pl.map
        exact row_ne_map hat.rl.row hD e
      · exact own_ne_ref hat.pl.own hat.rl.row e.symm
    · intro g hg
      rintro (e | e | e)
      · subst e; exact own_ne_pool hat.rl.own hat.pl.row hg
      · subst e
        obtain ⟨D, hD, _⟩ := hat.pl.map
        exact own_ne_map hat.rl.own hD hg
      · exact hat.ap g e.symm hg
  · intro g hg hg2
    rcases hv3 with e | ⟨j, e, hj⟩
    · exact hat.ap g (by rw [← e]; exact hg) hg2
    · rw [e] at hg
      obtain rfl : j = g := Option.some.inj hg
      have := (hat.rl.own.lt j hg2).2
      omega
theorem poAt_next {L : List (List UInt8)} {w w3 w4 : World} {p m q k : Nat} {v3 v2 v4 : Value} {s : List UInt8} (hs : L[k]? = some s)
    (hi3 : Pl.Is w3 w.heap.size p v3 m (putL (putAll (L.take k)) s)) (hr3 : RIs w3 w.heap.size q v2 (putAll (L.take k))) (hap3 : Apart v3 v2) (hb3 : Below w.heap.size w w3)
    (hr4 : RIs w4 w.heap.size q v4 (putL (putAll (L.take k)) s)) (hf4 : Far (fun k => k = q ∨ some k = v2.ownBlock) w3 w4) (hv4 : v4.ownBlock = v2.ownBlock ∨ ∃ k, v4.ownBlock = some k ∧ w3.heap.size ≤ k) : PoAt L w p m q (k + 1) v3 v4 w4 := by
  have hts : putAll (L.take (k + 1)) = putL (putAll (L.take k)) s := by
    obtain ⟨h1, h2⟩ := List.getElem?_eq_some_iff.1 hs
    rw [List.take_succ_eq_append_getElem h1, h2, putAll_snoc]
  have hi4 : Pl.Is w4 w.heap.size p v3 m (putL (putAll (L.take k)) s) := by
    refine Is.far hi3 hf4 ?_ ?_ ?_
    · rintro (e | e)
      · exact rows_ne hi3.row hr3.row e
      · exact own_ne_pool hr3.own hi3.row e.symm
    · obtain ⟨D, hD, _⟩ := hi3.map
      rintro (e | e)
      · exact row_ne_map hr3.row hD e.symm
      · exact own_ne_map hr3.own hD e.symm
    · intro g hg
      rintro (e | e)
      · subst e; exact own_ne_ref hi3.own hr3.row hg
      · exact hap3 g hg e.symm
  have hap4 : Apart v3 v4 := by
    intro g hg hg2
    rcases hv4 with e | ⟨j, e, hj⟩
    · exact hap3 g hg (by rw [← e]; exact hg2)
    · rw [e] at hg2
      obtain rfl : j = g := Option.some.inj hg2
      have := (hi3.own.lt j hg).2
      omega
  have hb4 : Below w.heap.size w w4 := hb3.trans (hf4.below (fun k hk => by
    rcases hk with rfl | hk
    · exact hr3.ge
    · exact own_ge hr3.own hk.symm) hb3.size)
  exact ⟨by rw [hts]; exact hi4, by rw [hts]; exact hr4, hb4, hap4, (List.getElem?_eq_some_iff.1 hs).1⟩
theorem poAt_below {L : List (List UInt8)} {w wr w' : World} {p m q k : Nat} {v v2 : Value} (hat : PoAt L w p m q k v v2 wr) (hb : Below wr.heap.size wr w') : PoAt L w p m q k v v2 w' :=
  ⟨hat.pl.below hb, hat.rl.below hb, hat.low.trans (hb.mono hat.low.size), hat.ap, hat.le⟩
set_option maxRecDepth 100000 in
set_option maxHeartbeats 4000000 in
theorem poolTexts_any (X : List ByteArray) (lv : Value) (s : ByteArray) (n : Int) (e : Nat → Addr) (m0 : Int) (w : World) (h : QEnv w e m0) (hr : Tx.Rd w lv X) (hxl : X.length ≤ 9223372036854775807) (hxs : ∀ x ∈ X, x.size ≤ 9223372036854775807) :
    Calls Tryz.prog 3 #[lv, .string s, .int .i64 n] w fun e' w' => e' = .returned (.bool true) ∧ Below w.heap.size w w' := by
  obtain ⟨a0, c0, rfl⟩ := hr.shape
  obtain ⟨S, rfl⟩ : ∃ S, s = mk S := ⟨_, mk_self s⟩
  have z3 : (mk S).size = S.length := rfl
  have hp := pooled_any e w h.le.el
  have HP := Lib.hid hp
  have HE := Lib.hid h
  have HR := Lib.hid hr
  have HXS := Lib.hid hxs
  clear hp h hr hxs
  go_enter Tryz.func3, Tryz.ntmps3
  go_wp2_with fail
  (with_reducible refine HP.out.mono ?_)
  rintro e1 w1 ⟨rfl, hb1⟩
  have HB1 := Lib.hid hb1
  clear hb1 HP
  by_cases hl6 : 60 < X.length
  · have hl3 : (60 : Int) < (X.length : Int) := by omega
    clear hl6
    go_wp2_with fail
    go_ret
    exact ⟨rfl, HB1.out⟩
  by_cases hS : 3000 < S.length
  · have hl3 : ¬ (60 : Int) < (X.length : Int) := by omega
    have hl2 : (3000 : Int) < (S.length : Int) := by omega
    clear hl6 hS
    go_wp2_with fail
    go_ret
    exact ⟨rfl, HB1.out⟩
  have hl3 : ¬ (60 : Int) < (X.length : Int) := by omega
  have hl2 : ¬ (3000 : Int) < (S.length : Int) := by omega
  have hn := new_any w1
  have HN := Lib.hid hn
  obtain ⟨L, hL⟩ : ∃ L, X.map (·.data.toList) = L := ⟨_, rfl⟩
  have hLl : L.length = X.length := by rw [← hL]; simp
  have HL := Lib.hid hL
  have HLL := Lib.hid hLl
  clear hn hL hLl
  go_wp2_with fail
  (with_reducible refine HN.out.mono ?_)
  rintro e2 w2 ⟨p, v, m, rfl, his, hb2⟩
  obtain ⟨W2, hW2⟩ : ∃ W2, w2.alloc (.cells #[.slice none 0 0] 28) = W2 := ⟨_, rfl⟩
  have hb3 : Below w2.heap.size w2 W2 := by rw [← hW2]; exact (Below.refl _ w2).alloc (Nat.le_refl _) _
  have hx2 := heap_new w2 (.cells #[.slice none 0 0] 28)
  rw [hW2] at hx2
  have hq2 : w1.heap.size ≤ w2.heap.size := hb2.size
  have hat0 : PoAt L w1 p m w2.heap.size 0 v (.slice none 0 0) W2 := ⟨his.below hb3, ⟨hx2, ⟨rfl, .inl ⟨rfl, rfl⟩⟩, hq2, by simp [putAll], by simp [putAll]⟩, hb2.trans (hb3.mono hb2.size), fun g _ => by simp [Value.ownBlock], Nat.zero_le _⟩
  have HAT0 := Lib.hid hat0
  have HW2 := Lib.hid hW2
  obtain ⟨q, hq⟩ : ∃ q, w2.heap.size = q := ⟨_, rfl⟩
  clear his hb2 hb3 hx2 hat0 hW2 HN hq2
  go_wp2_with fail
  rw [HW2.out]
  rw [hq] at HAT0
  clear hq
  go_loopw [10] (fun i wr => ∃ (k : Nat) (v' v2 : Value), i = .int .i64 k ∧ PoAt L w1 p m q k v' v2 wr) (fun i _ => L.length - (intOf i).toNat)
  case atStart => exact ⟨0, v, _, rfl, HAT0.out⟩
  case round =>
    obtain ⟨k, v', v2, rfl, hat⟩ := hrel
    have hkl := hat.le
    have hll := HLL.out
    by_cases hlt : k < X.length
    · obtain ⟨b0, o0, c1, e1, hc⟩ := HR.out.at (by intro h; rw [h] at hlt; exact absurd hlt (Nat.not_lt_zero _))
      obtain ⟨rfl, rfl⟩ : a0 = some ⟨b0, o0, none⟩ ∧ c0 = c1 := by cases e1; exact ⟨rfl, rfl⟩
      obtain ⟨t, ht⟩ : ∃ t, L[k]? = some t := ⟨_, List.getElem?_eq_getElem (by omega)⟩
      have hXk : X[k]? = some (mk t) := by
        have hj := ht
        rw [← HL.out, List.getElem?_map] at hj
        cases hx : X[k]? with
        | none => rw [hx] at hj; cases hj
        | some x => rw [hx] at hj; cases hj; rw [← mk_self x]
      have htz : (mk t).size = t.length := rfl
      have htm : t.length ≤ 9223372036854775807 := HXS.out _ (List.mem_of_getElem? hXk)
      have hcl : ∀ (W : World), Below w1.heap.size w1 W → W.cell? ⟨b0, o0 + k, none⟩ = some (.string (mk t)) := fun W hb => cell_later (HB1.out.trans (hb.mono HB1.out.size)) (hc k _ hXk)
      have k1 := hcl wr hat.low
      have hi1 : (k : Int) < (X.length : Int) := by omega
      have HAT := Lib.hid hat
      have HCL := Lib.hid hcl
      have HT := Lib.hid ht
      clear e1 hc hat ht hXk hcl
      by_cases hlong : 300 < t.length ∧ t.length ≠ 10001
      · obtain ⟨q1, q2⟩ := hlong
        have q3 : (300 : Int) < (t.length : Int) := by omega
        have q4 : ((t.length : Int) != 10001) = true := by rw [bne_iff_ne]; omega
        clear q1 q2
        go_wp2_with fail
        go_ret
        exact ⟨rfl, HB1.out.trans (HAT.out.low.mono HB1.out.size)⟩
      go_upto_region 11 with fail
      go_cut [62] from 49 to 62 (fun s62 wc => s62 = .bool false ∧ wc = wr)
      case first =>
        by_cases hq1 : 300 < t.length
        · have hq2 : (300 : Int) < (t.length : Int) := by omega
          have hq3 : ((t.length : Int) != 10001) = false := by
            have : t.length = 10001 := by omega
            rw [this]; rfl
          clear hlong hq1
          go_wp2_with fail
          go_meet
          exact ⟨rfl, rfl⟩
        · have hq2 : ¬ (300 : Int) < (t.length : Int) := by omega
          clear hlong hq1
          go_wp2_with fail
          go_meet
          exact ⟨rfl, rfl⟩
      case rest =>
        obtain ⟨rfl, rfl⟩ := hcut
        have hpt := put_any wc w1.heap.size p m v' _ t e HAT.out.pl ((HE.out.below HB1.out).below HAT.out.low).le.el.q (by omega)
        have HPT := Lib.hid hpt
        clear hpt hlong
        go_wp2_with fail
        (with_reducible refine HPT.out.mono ?_)
        rintro e3 w3 ⟨v3, rfl, hi3, hf3, hv3⟩
        have hb3 := far_pool HAT.out.pl hf3 HAT.out.low (Nat.le_refl _)
        have k3 := HCL.out w3 hb3
        obtain ⟨hr3, hap3⟩ := poAt_put HAT.out hf3 hv3
        have hrp := rput_any w3 w1.heap.size q v2 _ t hr3 (by omega)
        have hcle := putC_le (putAll (L.take k)) t
        obtain ⟨c5, hc5⟩ : ∃ c5, putC (putAll (L.take k)) t = c5 := ⟨_, rfl⟩
        obtain ⟨n5, hn5⟩ : ∃ n5, putN (putAll (L.take k)) t = n5 := ⟨_, rfl⟩
        unfold RPutPost at hrp
        rw [hc5, hn5] at hrp
        rw [hc5] at hcle
        simp only [hc5, hn5]
        have HI3 := Lib.hid hi3
        have HR3 := Lib.hid hr3
        have HB3 := Lib.hid hb3
        have HAP3 := Lib.hid hap3
        have HRP := Lib.hid hrp
        clear hi3 hf3 hv3 hb3 hr3 hap3 hrp HPT hc5 hn5
        go_wp2_with fail
        (with_reducible refine HRP.out.mono ?_)
        rintro e4 w4 ⟨v4, rfl, hr4, hf4, hv4⟩
        have HAT4 := Lib.hid (poAt_next HT.out HI3.out HR3.out HAP3.out HB3.out hr4 hf4 hv4)
        have hcd := coded_any e c5 (by omega) w4 ((HE.out.below HB1.out).below HAT4.out.low).es
        have HCD := Lib.hid hcd
        clear hr4 hf4 hv4 HRP hcd
        go_wp2_with fail
        (with_reducible refine HCD.out.mono ?_)
        rintro e5 w5 ⟨rfl, hb5⟩
        have HAT5 := Lib.hid (poAt_below HAT4.out hb5)
        clear hb5 HCD
        go_wp2_with fail
        go_roundw
        case rel => exact ⟨k + 1, v3, v4, by go_num, HAT5.out⟩
        case measure => simp [intOf]; omega
    · have hk : k = X.length := by omega
      have hi1 : ¬ (k : Int) < (X.length : Int) := by omega
      have htk : L.take k = L := List.take_of_length_le (by omega)
      have h1 := hat.pl
      have h2 := hat.rl
      rw [htk] at h1 h2
      obtain ⟨xs, hxs⟩ : ∃ xs, putAll L = xs := ⟨_, rfl⟩
      rw [hxs] at h1 h2
      have hcp := copy_any wr _ p m v' xs h1
      have HI := Lib.hid h1
      have HRI := Lib.hid h2
      have HLOW := Lib.hid hat.low
      have HCP := Lib.hid hcp
      clear h1 h2 hat hcp hxs htk hk hkl hll hlt
      go_wp2_with fail
      (with_reducible refine HCP.out.mono ?_)
      rintro e3 w3 ⟨p3, v3, m3, rfl, hi3, hb3⟩
      have HI3 := Lib.hid hi3
      have HIP := Lib.hid (HI.out.below hb3)
      have HRP := Lib.hid (HRI.out.below hb3)
      have HLOW3 := Lib.hid (HLOW.out.trans (hb3.mono HLOW.out.size))
      clear hi3 hb3 HCP HI HRI HLOW
      obtain ⟨a2, c2, rfl⟩ := ownsRow_slice HRP.out.own
      have k2 : w3.cell? ⟨q, 0, none⟩ = some (.slice a2 xs.length c2) := cell_of HRP.out.row rfl
      have hta : ∀ W, Below w3.heap.size w3 W → Calls Tryz.prog 12 #[.pointer (some ⟨p, 0, none⟩)] W fun e w' => e = .returned (.string (mk (entsL xs))) ∧ Below W.heap.size W w' := fun W hW => text_any W _ p m v' xs (HIP.out.below hW) ((HE.out.below HB1.out).below (HLOW3.out.trans (hW.mono HLOW3.out.size))).le.tab
      have htc : ∀ W, Below w3.heap.size w3 W → Calls Tryz.prog 12 #[.pointer (some ⟨p3, 0, none⟩)] W fun e w' => e = .returned (.string (mk (entsL xs))) ∧ Below W.heap.size W w' := fun W hW => text_any W _ p3 m3 v3 xs (HI3.out.below hW) ((HE.out.below HB1.out).below (HLOW3.out.trans (hW.mono HLOW3.out.size))).le.tab
      have htb : ∀ W, Below w3.heap.size w3 W → Calls Tryz.prog 13 #[.pointer (some ⟨q, 0, none⟩)] W fun e w' => e = .returned (.string (mk (entsL xs))) ∧ Below W.heap.size W w' := fun W hW => rtext_any W _ q _ xs (HRP.out.below hW)
      have hlen : ∀ W, Below w3.heap.size w3 W → Calls Tryz.prog 14 #[.pointer (some ⟨p, 0, none⟩)] W fun e w' => e = .returned (.int .i64 (xs.length : Nat)) ∧ Below W.heap.size W w' := fun W hW => (len_any W _ p m v' xs (HIP.out.below hW)).mono fun e w' ⟨h1, h2⟩ => ⟨h1, by rw [h2]; exact Below.refl _ _⟩
      obtain ⟨E, hE⟩ : ∃ E, entsL xs = E := ⟨_, rfl⟩
      simp only [hE] at hta htb htc
      have HTA := Lib.hid hta
      have HTB := Lib.hid htb
      have HTC := Lib.hid htc
      have HLEN := Lib.hid hlen
      have hb0 := below_drew (Below.refl w3.heap.size w3)
      clear hta htb htc hlen hE
      go_upto_region 18 with fail
      go_cut [117] from 92 to 117 (fun s117 wd => s117 = .bool false ∧ Below w3.heap.size w3 wd)
      case first =>
        go_region_held3 (fun W => Below w3.heap.size w3 W ∧ W.cell? ⟨q, 0, none⟩ = some (.slice a2 xs.length c2))
          (first
            | (refine ⟨?_, ?_⟩ <;> assumption)
            | (go_split_ands
               refine ⟨Below.trans ‹Below w3.heap.size w3 _› (Below.mono hbq (Below.size ‹Below w3.heap.size w3 _›)), cell_later hbq (by assumption)⟩))
          (first
            | ((with_reducible refine (HTA.out _ ?_).mono ?_); (go_split_ands; assumption); rintro e1 wq ⟨rfl, hbq⟩)
            | ((with_reducible refine (HTC.out _ ?_).mono ?_); (go_split_ands; assumption); rintro e1 wq ⟨rfl, hbq⟩)
            | ((with_reducible refine (HTB.out _ ?_).mono ?_); (go_split_ands; assumption); rintro e1 wq ⟨rfl, hbq⟩)
            | ((with_reducible refine (HLEN.out _ ?_).mono ?_); (go_split_ands; assumption); rintro e1 wq ⟨rfl, hbq⟩))
        have hfin : Below w3.heap.size w3 wq := by go_split_ands; assumption
        have HFIN := Lib.hid hfin
        clear hfin
        go_wp2
        go_meet
        exact ⟨rfl, HFIN.out⟩
      case rest =>
        obtain ⟨rfl, hbc⟩ := hcut
        have HIP5 := Lib.hid (HIP.out.below hbc)
        have HRP5 := Lib.hid (HRP.out.below hbc)
        have HLOW5 := Lib.hid (HLOW3.out.trans (hbc.mono HLOW3.out.size))
        clear hbc k2 hb0 HTA HTB HTC HLEN HIP HRP HLOW3 HI3
        have hxf := HIP5.out.few
        have hcase : (0 ≤ n ∧ n < (xs.length : Int)) ∨ (n < 0) ∨ (0 ≤ n ∧ (xs.length : Int) ≤ n) := by omega
        have he5 := (HE.out.below HB1.out).below HLOW5.out
        have HE5 := Lib.hid he5
        clear he5
        rcases hcase with ⟨hA1, hA2⟩ | hA1 | ⟨hA1, hA2⟩
        · obtain ⟨j, rfl⟩ : ∃ j : Nat, n = (j : Int) := ⟨n.toNat, by omega⟩
          obtain ⟨t, ht⟩ : ∃ t, xs[j]? = some t := ⟨_, List.getElem?_eq_getElem (by omega)⟩
          have hg := get_any wc _ p m v' xs j t HIP5.out ht
          have hce : ∃ g, a2 = some ⟨g, 0, none⟩ ∧ wc.cell? ⟨g, j, none⟩ = some (.string (mk t)) := by
            rcases reads_ownS HRP5.out.own (by simp) with ⟨h1, _⟩ | ⟨g, cap, h1, _, _, h2⟩
            · have h : xs = [] := by simpa using h1
              rw [h] at ht; simp at ht
            · have h3 := h2 j (mk t) (by rw [List.getElem?_map, ht]; rfl)
              rw [Nat.zero_add] at h3
              have hl : (xs.map mk).length = xs.length := by simp
              rw [hl] at h1
              exact ⟨g, by cases h1; rfl, h3⟩
          obtain ⟨g, rfl, hce⟩ := hce
          have HCE := Lib.hid hce
          have HG := Lib.hid hg
          have n1 : ¬ (j : Int) < 0 := by omega
          have n2 : ¬ (xs.length : Int) ≤ (j : Int) := by omega
          clear hg hce ht hA1
          go_wp2_with fail
          (with_reducible refine HG.out.mono ?_)
          rintro e6 w7 ⟨rfl, hb7⟩
          have hr7 := HRP5.out.below hb7
          have k7 : w7.cell? ⟨q, 0, none⟩ = some (.slice (some ⟨g, 0, none⟩) xs.length c2) := cell_of hr7.row rfl
          have k8 := cell_later hb7 HCE.out
          have HIP7 := Lib.hid (HIP5.out.below hb7)
          have HRP7 := Lib.hid hr7
          have HLOW7 := Lib.hid (HLOW5.out.trans (hb7.mono HLOW5.out.size))
          have HE7 := Lib.hid (HE5.out.below hb7)
          clear hr7 hb7 HG

          have hfi := find_num w7 _ p m v' xs S HIP7.out (by omega)
          have hrf := rfind_any w7 _ q _ xs S HRP7.out
          unfold findI at hrf
          by_cases hm : S ∈ xs
          all_goals
            simp only [hm, if_true, if_false, decide_true, decide_false] at hfi hrf
            have HFI := Lib.hid hfi
            have HRF := Lib.hid hrf
            clear hfi hrf hm
            go_wp2_with fail
            (with_reducible refine HFI.out.mono ?_)
            rintro e8 w8 ⟨rfl, rfl⟩
            go_wp2_with fail
            (with_reducible refine HRF.out.mono ?_)
            rintro e9 w9 ⟨rfl, q9, rfl⟩
            obtain ⟨W, hW⟩ : ∃ W, w8.drewN q9 = W := ⟨_, rfl⟩
            have hb9 : Below w8.heap.size w8 W := by rw [← hW]; exact below_draw (Below.refl _ w8) q9
            have he9 := HE7.out.below hb9
            have HLOW9 := Lib.hid (HLOW7.out.trans (hb9.mono HLOW7.out.size))
            have hrd := Pl.read_any S e m0 W (by omega) he9.le.el he9.le.lib he9.le.tab he9.le.ml
            have hrp := fun W => readPool_any S W (by omega)
            unfold Pl.ReadPost at hrd
            unfold RRpPost at hrp
            have hSb : ¬ 1048576 < S.length := by omega
            simp only [if_neg hSb] at hrd hrp
            have hrl := rdF_le S
            obtain ⟨Y, hY⟩ : ∃ Y, Pl.readF [] S = Y := ⟨_, rfl⟩
            simp only [hY] at hrd hrp hrl
            obtain ⟨c9, ys⟩ := Y
            simp only at hrd hrp hrl
            have HE9 := Lib.hid he9
            have HW := Lib.hid hW
            clear hW hb9 he9 hSb hY HFI HRF
            go_wp2_with fail
            rw [HW.out]
            cases c9 with
            | zero =>
              simp only [if_true] at hrd hrp
              have HRD := Lib.hid hrd
              have HRP := Lib.hid hrp
              clear hrd hrp hrl
              (with_reducible refine HRD.out.mono ?_)
              rintro e10 w10 ⟨p4, v4, m4, rfl, hi4, hb10⟩
              have HI4 := Lib.hid hi4
              have HLOW10 := Lib.hid (HLOW9.out.trans (hb10.mono HLOW9.out.size))
              have HE10 := Lib.hid (HE9.out.below hb10)
              clear hi4 hb10 HRD
              go_wp2_with fail
              (with_reducible refine (HRP.out _).mono ?_)
              rintro e11 w11 ⟨p5, v5, rfl, hi5, hb11⟩
              have HI5 := Lib.hid hi5
              have HI4' := Lib.hid (HI4.out.below hb11)
              have HLOW11 := Lib.hid (HLOW10.out.trans (hb11.mono HLOW10.out.size))
              have HE11 := Lib.hid (HE10.out.below hb11)
              clear hi5 hb11 HRP
              go_wp2_with fail
              obtain ⟨W6, hW6⟩ : ∃ W6, w11.alloc (.cells #[.int .i64 0, .int .i64 (-1)] 46) = W6 := ⟨_, rfl⟩
              have hb12 : Below w11.heap.size w11 W6 := by rw [← hW6]; exact (Below.refl _ w11).alloc (Nat.le_refl _) _
              have ht := text_any W6 _ p4 m4 v4 ys (HI4'.out.below hb12) (HE11.out.below hb12).le.tab
              have HI6 := Lib.hid (HI5.out.below hb12)
              have HLOW12 := Lib.hid (HLOW11.out.trans (hb12.mono HLOW11.out.size))
              have HT := Lib.hid ht
              rw [hW6]
              clear hW6 hb12 ht
              (with_reducible refine HT.out.mono ?_)
              rintro e13 w13 ⟨rfl, hb13⟩
              have hrt := rtext_any w13 _ p5 v5 ys (HI6.out.below hb13)
              have HRT := Lib.hid hrt
              have HLOW13 := Lib.hid (HLOW12.out.trans (hb13.mono HLOW12.out.size))
              clear hrt hb13 HT
              go_wp2_with fail
              (with_reducible refine HRT.out.mono ?_)
              rintro e14 w14 ⟨rfl, hb14⟩
              have HLOW14 := Lib.hid (HLOW13.out.trans (hb14.mono HLOW13.out.size))
              clear hb14 HRT
              go_wp2_with fail
              go_ret
              exact ⟨rfl, HB1.out.trans (HLOW14.out.mono HB1.out.size)⟩
            | succ k9 =>
              simp only [if_neg (Nat.succ_ne_zero k9)] at hrd hrp
              have HRD := Lib.hid hrd
              have HRP := Lib.hid hrp
              clear hrd hrp
              (with_reducible refine HRD.out.mono ?_)
              rintro e10 w10 ⟨f, rfl, hx10, hf10, hb10⟩
              have HX10 := Lib.hid hx10
              have HLOW10 := Lib.hid (HLOW9.out.trans (hb10.mono HLOW9.out.size))
              have HE10 := Lib.hid (HE9.out.below hb10)
              clear hx10 hf10 hb10 HRD
              go_wp2_with fail
              (with_reducible refine (HRP.out _).mono ?_)
              rintro e11 w11 ⟨rfl, hb11⟩
              have HX11 := Lib.hid (row_below' HX10.out hb11)
              have HLOW11 := Lib.hid (HLOW10.out.trans (hb11.mono HLOW10.out.size))
              have HE11 := Lib.hid (HE10.out.below hb11)
              clear hb11 HRP
              go_wp2_with fail
              obtain ⟨W6, hW6⟩ : ∃ W6, w11.alloc (.cells #[.int .i64 ((k9 : Int) + 1), .int .i64 (ys.length : Int)] 46) = W6 := ⟨_, rfl⟩
              have hb12 : Below w11.heap.size w11 W6 := by rw [← hW6]; exact (Below.refl _ w11).alloc (Nat.le_refl _) _
              have hfa := faulted_at e k9 (by omega) f (ys.length : Int) W6 (HE11.out.below hb12).es (row_below' HX11.out hb12)
              have hk2 : ((k9 + 1 : Nat) : Int) = (k9 : Int) + 1 := by omega
              rw [hk2] at hfa
              have HFA := Lib.hid hfa
              have HLOW12 := Lib.hid (HLOW11.out.trans (hb12.mono HLOW11.out.size))
              rw [hW6]
              clear hW6 hb12 hfa hk2
              (with_reducible refine HFA.out.mono ?_)
              rintro e13 w13 ⟨rfl, hb13⟩
              have HLOW13 := Lib.hid (HLOW12.out.trans (hb13.mono HLOW12.out.size))
              clear hb13 HFA
              go_wp2_with fail
              go_ret
              exact ⟨rfl, HB1.out.trans (HLOW13.out.mono HB1.out.size)⟩
        · have hg := get_no wc _ p m v' xs n e HIP5.out HE5.out.le.el (by omega)
          have hz : mk [] = ⟨#[]⟩ := rfl
          rw [hz] at hg
          have HG := Lib.hid hg
          have n1 : n < 0 := hA1
          clear hg hz
          go_wp2_with fail
          (with_reducible refine HG.out.mono ?_)
          rintro e6 w6 ⟨rfl, hb6⟩
          have hr6 := HRP5.out.below hb6
          have k6 : w6.cell? ⟨q, 0, none⟩ = some (.slice a2 xs.length c2) := cell_of hr6.row rfl
          have hcd := coded_any e 5 (by omega) w6 (HE5.out.below hb6).es
          have h5 : ((5 : Nat) : Int) = 5 := rfl
          rw [h5] at hcd
          have HCD := Lib.hid hcd
          have HIP6 := Lib.hid (HIP5.out.below hb6)
          have HRP6 := Lib.hid hr6
          have HLOW6 := Lib.hid (HLOW5.out.trans (hb6.mono HLOW5.out.size))
          have HE6 := Lib.hid (HE5.out.below hb6)
          clear hr6 hb6 HG hcd h5
          go_wp2_with fail
          (with_reducible refine HCD.out.mono ?_)
          rintro e7 w7 ⟨rfl, hb7⟩
          have HIP7 := Lib.hid (HIP6.out.below hb7)
          have HRP7 := Lib.hid (HRP6.out.below hb7)
          have HLOW7 := Lib.hid (HLOW6.out.trans (hb7.mono HLOW6.out.size))
          have HE7 := Lib.hid (HE6.out.below hb7)
          clear hb7 HCD

          have hfi := find_num w7 _ p m v' xs S HIP7.out (by omega)
          have hrf := rfind_any w7 _ q _ xs S HRP7.out
          unfold findI at hrf
          by_cases hm : S ∈ xs
          all_goals
            simp only [hm, if_true, if_false, decide_true, decide_false] at hfi hrf
            have HFI := Lib.hid hfi
            have HRF := Lib.hid hrf
            clear hfi hrf hm
            go_wp2_with fail
            (with_reducible refine HFI.out.mono ?_)
            rintro e8 w8 ⟨rfl, rfl⟩
            go_wp2_with fail
            (with_reducible refine HRF.out.mono ?_)
            rintro e9 w9 ⟨rfl, q9, rfl⟩
            obtain ⟨W, hW⟩ : ∃ W, w8.drewN q9 = W := ⟨_, rfl⟩
            have hb9 : Below w8.heap.size w8 W := by rw [← hW]; exact below_draw (Below.refl _ w8) q9
            have he9 := HE7.out.below hb9
            have HLOW9 := Lib.hid (HLOW7.out.trans (hb9.mono HLOW7.out.size))
            have hrd := Pl.read_any S e m0 W (by omega) he9.le.el he9.le.lib he9.le.tab he9.le.ml
            have hrp := fun W => readPool_any S W (by omega)
            unfold Pl.ReadPost at hrd
            unfold RRpPost at hrp
            have hSb : ¬ 1048576 < S.length := by omega
            simp only [if_neg hSb] at hrd hrp
            have hrl := rdF_le S
            obtain ⟨Y, hY⟩ : ∃ Y, Pl.readF [] S = Y := ⟨_, rfl⟩
            simp only [hY] at hrd hrp hrl
            obtain ⟨c9, ys⟩ := Y
            simp only at hrd hrp hrl
            have HE9 := Lib.hid he9
            have HW := Lib.hid hW
            clear hW hb9 he9 hSb hY HFI HRF
            go_wp2_with fail
            rw [HW.out]
            cases c9 with
            | zero =>
              simp only [if_true] at hrd hrp
              have HRD := Lib.hid hrd
              have HRP := Lib.hid hrp
              clear hrd hrp hrl
              (with_reducible refine HRD.out.mono ?_)
              rintro e10 w10 ⟨p4, v4, m4, rfl, hi4, hb10⟩
              have HI4 := Lib.hid hi4
              have HLOW10 := Lib.hid (HLOW9.out.trans (hb10.mono HLOW9.out.size))
              have HE10 := Lib.hid (HE9.out.below hb10)
              clear hi4 hb10 HRD
              go_wp2_with fail
              (with_reducible refine (HRP.out _).mono ?_)
              rintro e11 w11 ⟨p5, v5, rfl, hi5, hb11⟩
              have HI5 := Lib.hid hi5
              have HI4' := Lib.hid (HI4.out.below hb11)
              have HLOW11 := Lib.hid (HLOW10.out.trans (hb11.mono HLOW10.out.size))
              have HE11 := Lib.hid (HE10.out.below hb11)
              clear hi5 hb11 HRP
              go_wp2_with fail
              obtain ⟨W6, hW6⟩ : ∃ W6, w11.alloc (.cells #[.int .i64 0, .int .i64 (-1)] 46) = W6 := ⟨_, rfl⟩
              have hb12 : Below w11.heap.size w11 W6 := by rw [← hW6]; exact (Below.refl _ w11).alloc (Nat.le_refl _) _
              have ht := text_any W6 _ p4 m4 v4 ys (HI4'.out.below hb12) (HE11.out.below hb12).le.tab
              have HI6 := Lib.hid (HI5.out.below hb12)
              have HLOW12 := Lib.hid (HLOW11.out.trans (hb12.mono HLOW11.out.size))
              have HT := Lib.hid ht
              rw [hW6]
              clear hW6 hb12 ht
              (with_reducible refine HT.out.mono ?_)
              rintro e13 w13 ⟨rfl, hb13⟩
              have hrt := rtext_any w13 _ p5 v5 ys (HI6.out.below hb13)
              have HRT := Lib.hid hrt
              have HLOW13 := Lib.hid (HLOW12.out.trans (hb13.mono HLOW12.out.size))
              clear hrt hb13 HT
              go_wp2_with fail
              (with_reducible refine HRT.out.mono ?_)
              rintro e14 w14 ⟨rfl, hb14⟩
              have HLOW14 := Lib.hid (HLOW13.out.trans (hb14.mono HLOW13.out.size))
              clear hb14 HRT
              go_wp2_with fail
              go_ret
              exact ⟨rfl, HB1.out.trans (HLOW14.out.mono HB1.out.size)⟩
            | succ k9 =>
              simp only [if_neg (Nat.succ_ne_zero k9)] at hrd hrp
              have HRD := Lib.hid hrd
              have HRP := Lib.hid hrp
              clear hrd hrp
              (with_reducible refine HRD.out.mono ?_)
              rintro e10 w10 ⟨f, rfl, hx10, hf10, hb10⟩
              have HX10 := Lib.hid hx10
              have HLOW10 := Lib.hid (HLOW9.out.trans (hb10.mono HLOW9.out.size))
              have HE10 := Lib.hid (HE9.out.below hb10)
              clear hx10 hf10 hb10 HRD
              go_wp2_with fail
              (with_reducible refine (HRP.out _).mono ?_)
              rintro e11 w11 ⟨rfl, hb11⟩
              have HX11 := Lib.hid (row_below' HX10.out hb11)
              have HLOW11 := Lib.hid (HLOW10.out.trans (hb11.mono HLOW10.out.size))
              have HE11 := Lib.hid (HE10.out.below hb11)
              clear hb11 HRP
              go_wp2_with fail
              obtain ⟨W6, hW6⟩ : ∃ W6, w11.alloc (.cells #[.int .i64 ((k9 : Int) + 1), .int .i64 (ys.length : Int)] 46) = W6 := ⟨_, rfl⟩
              have hb12 : Below w11.heap.size w11 W6 := by rw [← hW6]; exact (Below.refl _ w11).alloc (Nat.le_refl _) _
              have hfa := faulted_at e k9 (by omega) f (ys.length : Int) W6 (HE11.out.below hb12).es (row_below' HX11.out hb12)
              have hk2 : ((k9 + 1 : Nat) : Int) = (k9 : Int) + 1 := by omega
              rw [hk2] at hfa
              have HFA := Lib.hid hfa
              have HLOW12 := Lib.hid (HLOW11.out.trans (hb12.mono HLOW11.out.size))
              rw [hW6]
              clear hW6 hb12 hfa hk2
              (with_reducible refine HFA.out.mono ?_)
              rintro e13 w13 ⟨rfl, hb13⟩
              have HLOW13 := Lib.hid (HLOW12.out.trans (hb13.mono HLOW12.out.size))
              clear hb13 HFA
              go_wp2_with fail
              go_ret
              exact ⟨rfl, HB1.out.trans (HLOW13.out.mono HB1.out.size)⟩
        · have hg := get_no wc _ p m v' xs n e HIP5.out HE5.out.le.el (by omega)
          have hz : mk [] = ⟨#[]⟩ := rfl
          rw [hz] at hg
          have HG := Lib.hid hg
          have n1 : ¬ n < 0 := by omega
          have n2 : (xs.length : Int) ≤ n := hA2
          clear hg hz
          go_wp2_with fail
          (with_reducible refine HG.out.mono ?_)
          rintro e6 w6 ⟨rfl, hb6⟩
          have hr6 := HRP5.out.below hb6
          have k6 : w6.cell? ⟨q, 0, none⟩ = some (.slice a2 xs.length c2) := cell_of hr6.row rfl
          have hcd := coded_any e 5 (by omega) w6 (HE5.out.below hb6).es
          have h5 : ((5 : Nat) : Int) = 5 := rfl
          rw [h5] at hcd
          have HCD := Lib.hid hcd
          have HIP6 := Lib.hid (HIP5.out.below hb6)
          have HRP6 := Lib.hid hr6
          have HLOW6 := Lib.hid (HLOW5.out.trans (hb6.mono HLOW5.out.size))
          have HE6 := Lib.hid (HE5.out.below hb6)
          clear hr6 hb6 HG hcd h5
          go_wp2_with fail
          (with_reducible refine HCD.out.mono ?_)
          rintro e7 w7 ⟨rfl, hb7⟩
          have HIP7 := Lib.hid (HIP6.out.below hb7)
          have HRP7 := Lib.hid (HRP6.out.below hb7)
          have HLOW7 := Lib.hid (HLOW6.out.trans (hb7.mono HLOW6.out.size))
          have HE7 := Lib.hid (HE6.out.below hb7)
          clear hb7 HCD

          have hfi := find_num w7 _ p m v' xs S HIP7.out (by omega)
          have hrf := rfind_any w7 _ q _ xs S HRP7.out
          unfold findI at hrf
          by_cases hm : S ∈ xs
          all_goals
            simp only [hm, if_true, if_false, decide_true, decide_false] at hfi hrf
            have HFI := Lib.hid hfi
            have HRF := Lib.hid hrf
            clear hfi hrf hm
            go_wp2_with fail
            (with_reducible refine HFI.out.mono ?_)
            rintro e8 w8 ⟨rfl, rfl⟩
            go_wp2_with fail
            (with_reducible refine HRF.out.mono ?_)
            rintro e9 w9 ⟨rfl, q9, rfl⟩
            obtain ⟨W, hW⟩ : ∃ W, w8.drewN q9 = W := ⟨_, rfl⟩
            have hb9 : Below w8.heap.size w8 W := by rw [← hW]; exact below_draw (Below.refl _ w8) q9
            have he9 := HE7.out.below hb9
            have HLOW9 := Lib.hid (HLOW7.out.trans (hb9.mono HLOW7.out.size))
            have hrd := Pl.read_any S e m0 W (by omega) he9.le.el he9.le.lib he9.le.tab he9.le.ml
            have hrp := fun W => readPool_any S W (by omega)
            unfold Pl.ReadPost at hrd
            unfold RRpPost at hrp
            have hSb : ¬ 1048576 < S.length := by omega
            simp only [if_neg hSb] at hrd hrp
            have hrl := rdF_le S
            obtain ⟨Y, hY⟩ : ∃ Y, Pl.readF [] S = Y := ⟨_, rfl⟩
            simp only [hY] at hrd hrp hrl
            obtain ⟨c9, ys⟩ := Y
            simp only at hrd hrp hrl
            have HE9 := Lib.hid he9
            have HW := Lib.hid hW
            clear hW hb9 he9 hSb hY HFI HRF
            go_wp2_with fail
            rw [HW.out]
            cases c9 with
            | zero =>
              simp only [if_true] at hrd hrp
              have HRD := Lib.hid hrd
              have HRP := Lib.hid hrp
              clear hrd hrp hrl
              (with_reducible refine HRD.out.mono ?_)
              rintro e10 w10 ⟨p4, v4, m4, rfl, hi4, hb10⟩
              have HI4 := Lib.hid hi4
              have HLOW10 := Lib.hid (HLOW9.out.trans (hb10.mono HLOW9.out.size))
              have HE10 := Lib.hid (HE9.out.below hb10)
              clear hi4 hb10 HRD
              go_wp2_with fail
              (with_reducible refine (HRP.out _).mono ?_)
              rintro e11 w11 ⟨p5, v5, rfl, hi5, hb11⟩
              have HI5 := Lib.hid hi5
              have HI4' := Lib.hid (HI4.out.below hb11)
              have HLOW11 := Lib.hid (HLOW10.out.trans (hb11.mono HLOW10.out.size))
              have HE11 := Lib.hid (HE10.out.below hb11)
              clear hi5 hb11 HRP
              go_wp2_with fail
              obtain ⟨W6, hW6⟩ : ∃ W6, w11.alloc (.cells #[.int .i64 0, .int .i64 (-1)] 46) = W6 := ⟨_, rfl⟩
              have hb12 : Below w11.heap.size w11 W6 := by rw [← hW6]; exact (Below.refl _ w11).alloc (Nat.le_refl _) _
              have ht := text_any W6 _ p4 m4 v4 ys (HI4'.out.below hb12) (HE11.out.below hb12).le.tab
              have HI6 := Lib.hid (HI5.out.below hb12)
              have HLOW12 := Lib.hid (HLOW11.out.trans (hb12.mono HLOW11.out.size))
              have HT := Lib.hid ht
              rw [hW6]
              clear hW6 hb12 ht
              (with_reducible refine HT.out.mono ?_)
              rintro e13 w13 ⟨rfl, hb13⟩
              have hrt := rtext_any w13 _ p5 v5 ys (HI6.out.below hb13)
              have HRT := Lib.hid hrt
              have HLOW13 := Lib.hid (HLOW12.out.trans (hb13.mono HLOW12.out.size))
              clear hrt hb13 HT
              go_wp2_with fail
              (with_reducible refine HRT.out.mono ?_)
              rintro e14 w14 ⟨rfl, hb14⟩
              have HLOW14 := Lib.hid (HLOW13.out.trans (hb14.mono HLOW13.out.size))
              clear hb14 HRT
              go_wp2_with fail
              go_ret
              exact ⟨rfl, HB1.out.trans (HLOW14.out.mono HB1.out.size)⟩
            | succ k9 =>
              simp only [if_neg (Nat.succ_ne_zero k9)] at hrd hrp
              have HRD := Lib.hid hrd
              have HRP := Lib.hid hrp
              clear hrd hrp
              (with_reducible refine HRD.out.mono ?_)
              rintro e10 w10 ⟨f, rfl, hx10, hf10, hb10⟩
              have HX10 := Lib.hid hx10
              have HLOW10 := Lib.hid (HLOW9.out.trans (hb10.mono HLOW9.out.size))
              have HE10 := Lib.hid (HE9.out.below hb10)
              clear hx10 hf10 hb10 HRD
              go_wp2_with fail
              (with_reducible refine (HRP.out _).mono ?_)
              rintro e11 w11 ⟨rfl, hb11⟩
              have HX11 := Lib.hid (row_below' HX10.out hb11)
              have HLOW11 := Lib.hid (HLOW10.out.trans (hb11.mono HLOW10.out.size))
              have HE11 := Lib.hid (HE10.out.below hb11)
              clear hb11 HRP
              go_wp2_with fail
              obtain ⟨W6, hW6⟩ : ∃ W6, w11.alloc (.cells #[.int .i64 ((k9 : Int) + 1), .int .i64 (ys.length : Int)] 46) = W6 := ⟨_, rfl⟩
              have hb12 : Below w11.heap.size w11 W6 := by rw [← hW6]; exact (Below.refl _ w11).alloc (Nat.le_refl _) _
              have hfa := faulted_at e k9 (by omega) f (ys.length : Int) W6 (HE11.out.below hb12).es (row_below' HX11.out hb12)
              have hk2 : ((k9 + 1 : Nat) : Int) = (k9 : Int) + 1 := by omega
              rw [hk2] at hfa
              have HFA := Lib.hid hfa
              have HLOW12 := Lib.hid (HLOW11.out.trans (hb12.mono HLOW11.out.size))
              rw [hW6]
              clear hW6 hb12 hfa hk2
              (with_reducible refine HFA.out.mono ?_)
              rintro e13 w13 ⟨rfl, hb13⟩
              have HLOW13 := Lib.hid (HLOW12.out.trans (hb13.mono HLOW12.out.size))
              clear hb13 HFA
              go_wp2_with fail
              go_ret
              exact ⟨rfl, HB1.out.trans (HLOW13.out.mono HB1.out.size)⟩
end Rp
end Go.Proofs.YtmlndamkcipebaaGreatDoor
