/- The reference's pool: Fresh, Text. -/
import Derived.Test.YtmlndamkcipebaaGreatDoorRefPool
import Derived.Test.YtmlndamkcipebaaGreatDoorRefApply
import Derived.Deep.RegionHeld3
namespace Go.Proofs.YtmlndamkcipebaaGreatDoor
open Go Go.RowKit Lmd
namespace Rp
open Rul Day Cand Tp Pl Pk

/-- what lies behind Fresh of a model -/
def RFrPost (w : World) (base p : Nat) (v : Value) (xs : List (List UInt8)) (s : List UInt8) (er : Ending) (w' : World) : Prop :=
  ∃ v', er = .returned (.int .i64 (freshC xs s : Nat)) ∧ RIs w' base p v' (putL xs s) ∧ Far (fun k => k = p ∨ some k = v.ownBlock) w w'
set_option maxRecDepth 100000 in
set_option maxHeartbeats 1000000 in
theorem rfresh_any (w : World) (base p : Nat) (v : Value) (xs : List (List UInt8)) (s : List UInt8) (h : RIs w base p v xs) (hs0 : s.length ≤ 9223372036854775807) :
    Calls Tryz.prog 50 #[.pointer (some ⟨p, 0, none⟩), .string (mk s)] w (RFrPost w base p v xs s) := by
  have hf := rfind_any w base p v xs s h
  obtain ⟨S, hS⟩ : ∃ S, mk s = S := ⟨_, rfl⟩
  have hp := fun q => rput_any (w.drewN q) base p v xs s (h.below (below_draw (Below.refl _ w) q)) hs0
  rw [hS] at hf hp ⊢
  have H := Lib.hid h
  have HF := Lib.hid hf
  have HP := Lib.hid hp
  clear h hf hp hS
  by_cases hm : s ∈ xs
  · have hfi : findI xs s = ((xs.idxOf s : Nat) : Int) := by unfold findI; rw [if_pos hm]
    have hc : freshC xs s = 6 ∧ putL xs s = xs := ⟨by unfold freshC; rw [if_pos hm], putL_mem hm⟩
    rw [hfi] at HF
    obtain ⟨N, hN⟩ : ∃ N, xs.idxOf s = N := ⟨_, rfl⟩
    rw [hN] at HF
    have HC := Lib.hid hc
    clear hc hm hfi hN
    go_enter Tryz.func50, Tryz.ntmps50
    go_wp2_with fail
    (with_reducible refine HF.out.mono ?_)
    rintro e1 w1 ⟨rfl, q, rfl⟩
    go_wp2_with fail
    go_ret
    unfold RFrPost
    rw [HC.out.1, HC.out.2]
    exact ⟨_, rfl, H.out.below (below_draw (Below.refl _ w) _), far_of (below_draw (Below.refl _ w) _)⟩
  · have hfi : findI xs s = -1 := by unfold findI; rw [if_neg hm]
    rw [hfi] at HF
    have hc : freshC xs s = putC xs s := by unfold freshC; rw [if_neg hm]
    have HC := Lib.hid hc
    clear hc hm hfi
    go_enter Tryz.func50, Tryz.ntmps50
    go_wp2_with fail
    (with_reducible refine HF.out.mono ?_)
    rintro e1 w1 ⟨rfl, q, rfl⟩
    go_wp2_with fail
    (with_reducible refine (HP.out q).mono ?_)
    rintro e2 w2 ⟨v', rfl, h1, h2, h3⟩
    have HH := Lib.hid (And.intro h1 h2)
    clear h1 h2 h3
    go_wp2_with fail
    go_ret
    unfold RFrPost
    rw [HC.out]
    exact ⟨v', rfl, HH.out.1, (far_of (below_draw (Below.refl _ w) q)).trans HH.out.2⟩
theorem dec_mk (n : Nat) : (⟨(Lib.decDigits n).toArray⟩ : ByteArray) = mk (Lib.itoa (n : Int)) := by rw [Lib.itoa_nonneg]
theorem ents_cat (O x : List UInt8) : mk O ++ mk (Lib.itoa (x.length : Int)) ++ ⟨#[58]⟩ ++ mk x ++ ⟨#[10]⟩ = mk (O ++ entL x) := by
  have e1 : (⟨#[58]⟩ : ByteArray) = mk [58] := rfl
  have e2 : (⟨#[10]⟩ : ByteArray) = mk [10] := rfl
  rw [e1, e2, mk_cat, mk_cat, mk_cat, mk_cat]
  unfold entL
  simp
set_option maxRecDepth 100000 in
set_option maxHeartbeats 1000000 in
theorem rtext_any (w : World) (base p : Nat) (v : Value) (xs : List (List UInt8)) (h : RIs w base p v xs) :
    Calls Tryz.prog 13 #[.pointer (some ⟨p, 0, none⟩)] w fun e w' => e = .returned (.string (mk (entsL xs))) ∧ Below w.heap.size w w' := by
  have k0 : w.cell? ⟨p, 0, none⟩ = some v := cell_of h.row rfl
  obtain ⟨a0, c0, rfl⟩ := ownsRow_slice h.own
  have hfew := h.few
  have hrd := reads_ownS h.own (by simp)
  have HRD := Lib.hid hrd
  have H := Lib.hid h
  have HK0 := Lib.hid k0
  clear h hrd k0
  go_enter Tryz.func13, Tryz.ntmps13
  go_wp2_with fail
  go_loopw [3, 4] (fun ov i wr => ∃ k : Nat, i = .int .i64 k ∧ ov = .string (mk (entsL (xs.take k))) ∧ k ≤ xs.length ∧ Below w.heap.size w wr) (fun _ i _ => xs.length - (intOf i).toNat)
  case atStart => exact ⟨0, rfl, rfl, Nat.zero_le _, Below.refl _ _⟩
  case round =>
    obtain ⟨k, rfl, rfl, hk, hlow⟩ := hrel
    have k0 := cell_later hlow HK0.out
    by_cases hlt : k < xs.length
    · obtain ⟨x, hx⟩ : ∃ x, xs[k]? = some x := ⟨_, List.getElem?_eq_getElem hlt⟩
      have hi1 : (k : Int) < (xs.length : Int) := by omega
      have hxs := H.out.small x (List.mem_of_getElem? hx)
      have hlen := entsL_le (xs.take k) (fun s hs => H.out.small s (List.mem_of_mem_take hs))
      have hlk : (xs.take k).length = k := by rw [List.length_take]; omega
      rw [hlk] at hlen
      have hel := entL_le x (by omega)
      have hts := take_snoc hx
      rcases HRD.out with ⟨h1, _⟩ | ⟨g, cap, h1, _, _, h2⟩
      · have : xs = [] := by simpa using h1
        subst this
        simp at hlt
      · have c1' := cell_later hlow (h2 k (mk x) (by rw [List.getElem?_map, hx]; rfl))
        rw [Nat.zero_add] at c1'
        have hl : (xs.map mk).length = xs.length := by simp
        rw [hl] at h1
        obtain ⟨rfl, rfl⟩ : a0 = some ⟨g, 0, none⟩ ∧ c0 = cap := by cases h1; exact ⟨rfl, rfl⟩
        have hz : (mk x).size = x.length := rfl
        have hit := fun W => Ref.decimal_any x.length (by omega) W
        have hil := Lib.itoa_length_le (x.length : Int) (by omega) (by omega)
        simp only [dec_mk] at hit
        obtain ⟨I, hI⟩ : ∃ I, Lib.itoa (x.length : Int) = I := ⟨_, rfl⟩
        obtain ⟨O, hO⟩ : ∃ O, entsL (xs.take k) = O := ⟨_, rfl⟩
        rw [hO] at hts hlen ⊢
        have hrc := ents_cat O x
        rw [hI] at hit hil hrc
        have hOl : O.length ≤ 11000000 := by omega
        have HIT := Lib.hid hit
        have HRC := Lib.hid hrc
        have HTS := Lib.hid hts
        have HLOW := Lib.hid hlow
        clear hlow hit hrc hx hel hlen h1 hl hI hO hts hlk h2
        have hb0 := below_drew' (Below.refl wr.heap.size wr)
        have hm1 : ¬ 9223372036854775807 < O.length + I.length := by omega
        have hm2 : ¬ 9223372036854775807 < O.length + I.length + 1 := by omega
        have hm3 : ¬ 9223372036854775807 < O.length + I.length + 1 + x.length := by omega
        have hm4 : ¬ 9223372036854775807 < O.length + I.length + 1 + x.length + 1 := by omega
        go_wp2_with fail
        go_region_held3 (fun W => Below wr.heap.size wr W ∧ W.cell? ⟨p, 0, none⟩ = some (.slice (some ⟨g, 0, none⟩) xs.length c0) ∧ W.cell? ⟨g, k, none⟩ = some (.string (mk x)))
          (first
            | (refine ⟨?_, ?_, ?_⟩ <;> assumption)
            | (go_split_ands
               refine ⟨Below.trans ‹Below wr.heap.size wr _› (Below.mono hbq (Below.size ‹Below wr.heap.size wr _›)), cell_later hbq (by assumption), cell_later hbq (by assumption)⟩))
          (first
            | ((with_reducible refine (HIT.out _).mono ?_); rintro e1 wq ⟨rfl, hbq⟩))
        have hq1 : Below wr.heap.size wr wq := by go_split_ands; assumption
        have HQ1 := Lib.hid (HLOW.out.trans (hq1.mono HLOW.out.size))
        clear hq1 hb0
        rw [HRC.out]
        go_wp2_with fail
        go_roundw
        case rel => exact ⟨k + 1, by go_num, by rw [HTS.out], by omega, HQ1.out⟩
        case measure => simp [intOf]; omega
    · have hi1 : ¬ (k : Int) < (xs.length : Int) := by omega
      have htk : xs.take k = xs := List.take_of_length_le (by omega)
      rw [htk]
      have HLOW := Lib.hid hlow
      clear htk hlow
      go_wp2_with fail
      go_ret
      exact ⟨rfl, HLOW.out⟩
end Rp
end Go.Proofs.YtmlndamkcipebaaGreatDoor
