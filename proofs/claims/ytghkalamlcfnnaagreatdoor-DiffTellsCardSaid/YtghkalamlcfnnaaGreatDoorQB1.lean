/- RefNum, RefText, RefRuleText: texts joined. -/
import Derived.Test.YtghkalamlcfnnaaGreatDoorQNumPlain
import Derived.Test.YtghkalamlcfnnaaGreatDoorQCutLaw
import Derived.Lib.IndexMore
import Derived.Test.YtghkalamlcfnnaaGreatDoorQA3
import Derived.Test.YtghkalamlcfnnaaGreatDoorQA6
import Derived.Laws.IdiomStrings
import Derived.Deep.CutRange
import Derived.Test.YtghkalamlcfnnaaGreatDoorQA11
import Derived.Test.YtghkalamlcfnnaaGreatDoorQRuleText
import Derived.Deep.RegionHeld3
import Derived.Deep.DeepCutAuto
section
namespace Go.Proofs.YtghkalamlcfnnaaGreatDoor
open Go.RowKit Lmd
namespace Ref
open Day
theorem conv_one (w : World) (c : UInt8) :
    (convert 125 9 (.slice (some ⟨w.heap.size, 0, none⟩) 1 1)).run Tryz.prog (w.alloc (.cells #[.int .u8 (c.toNat : Int)] 5)) = .ok (.string ⟨[c].toArray⟩) (w.alloc (.cells #[.int .u8 (c.toNat : Int)] 5)) :=
  run_convert_bytes_back _ 125 9 5 ⟨w.heap.size, 0, none⟩ 1 [c] Tryz.underlying125 Tryz.underlying5 Tryz.underlying9
    (fun j hj => by
      obtain rfl : j = 0 := by simpa using hj
      simp [Addr.add])
set_option maxRecDepth 100000 in
set_option maxHeartbeats 400000 in
theorem byte_any (c : UInt8) (w : World) :
    Calls Tryz.prog 201 #[.int .i64 (c.toNat : Int)] w fun e w' => e = .returned (.string ⟨[c].toArray⟩) ∧ Below w.heap.size w w' := by
  have h2 : (c.toNat : Int) ≤ 255 := by have := c.toNat_lt; omega
  have hc := conv_one w c
  go_enter Tryz.func201, Tryz.ntmps201
  go_wp2
  go_ret
  exact ⟨rfl, (Below.refl _ _).alloc (Nat.le_refl _) _⟩
theorem dec_len64 (u : Nat) (h : u ≤ 1000000000000000000) : (Lib.decDigits u).length ≤ 19 := by
  have key : ∀ (k u : Nat), u < 10 ^ (k + 1) → (Lib.decDigits u).length ≤ k + 1 := by
    intro k
    induction k with
    | zero => intro u hu; rw [Lib.decDigits_one (by simpa using hu)]; simp
    | succ k ih =>
      intro u hu
      by_cases h9 : u < 10
      · rw [Lib.decDigits_one h9]; simp
      · rw [Lib.decDigits, dif_neg h9, List.length_append]
        have := ih (u / 10) (by rw [Nat.pow_succ] at hu; omega)
        simp; omega
  exact key 18 u (by omega)
set_option maxRecDepth 100000 in
set_option maxHeartbeats 400000 in
theorem below_zero (u : Nat) (hu : u < 10) (w : World) :
    Calls Tryz.prog 148 #[.int .i64 (-(u : Int))] w fun e w' => e = .returned (.string ⟨(Lib.decDigits u).toArray⟩) ∧ Below w.heap.size w w' := by
  have hd := Lib.decDigits_one hu
  have hn : ((UInt8.ofNat (48 + u)).toNat : Int) = 48 + (u : Int) := by rw [UInt8.toNat_ofNat']; omega
  generalize UInt8.ofNat (48 + u) = c at *
  have hb := byte_any c w
  rw [hn] at hb
  clear hn
  rw [hd]
  have HB := Lib.hid hb
  clear hb hd
  go_enter Tryz.func148, Tryz.ntmps148
  go_wp2_with fail
  refine HB.out.mono ?_; rintro e w' ⟨rfl, hb⟩
  go_wp2
  go_ret
  exact ⟨rfl, hb⟩
set_option maxRecDepth 100000 in
set_option maxHeartbeats 400000 in
theorem below_step (u : Nat) (hu : 10 ≤ u) (hm : u ≤ 1000000000000000000) (w : World)
    (ih : ∀ w, Calls Tryz.prog 148 #[.int .i64 (-((u / 10 : Nat) : Int))] w fun e w' => e = .returned (.string ⟨(Lib.decDigits (u / 10)).toArray⟩) ∧ Below w.heap.size w w') :
    Calls Tryz.prog 148 #[.int .i64 (-(u : Int))] w fun e w' => e = .returned (.string ⟨(Lib.decDigits u).toArray⟩) ∧ Below w.heap.size w w' := by
  have hd : Lib.decDigits u = Lib.decDigits (u / 10) ++ [UInt8.ofNat (48 + u % 10)] := by rw [Lib.decDigits, dif_neg (by omega)]
  have hn : ((UInt8.ofNat (48 + u % 10)).toNat : Int) = 48 + (u : Int) % 10 := by rw [UInt8.toNat_ofNat']; omega
  generalize UInt8.ofNat (48 + u % 10) = c at *
  have hb := byte_any c
  rw [hn] at hb
  clear hn
  rw [hd]
  have HB := Lib.hid hb
  have IH := Lib.hid ih
  have hu' : ¬ -(u : Int) > -10 := by omega
  have hl := dec_len64 (u / 10) (by omega)
  clear hb hd ih
  go_enter Tryz.func148, Tryz.ntmps148
  go_wp2_with fail
  rw [show -((u : Int) / 10) = -((u / 10 : Nat) : Int) from by omega]
  refine (IH.out _).mono ?_; rintro e w1 ⟨rfl, hb1⟩
  go_wp2_with fail
  refine (HB.out _).mono ?_; rintro e w2 ⟨rfl, hb2⟩
  go_wp2
  go_ret
  exact ⟨congrArg (fun s => Ending.returned (.string s)) (cat _ [c]), hb1.trans (hb2.mono hb1.size)⟩
theorem below_any (u : Nat) (hm : u ≤ 1000000000000000000) : ∀ w, Calls Tryz.prog 148 #[.int .i64 (-(u : Int))] w fun e w' => e = .returned (.string ⟨(Lib.decDigits u).toArray⟩) ∧ Below w.heap.size w w' := by
  induction u using Nat.strongRecOn with
  | ind u ih =>
    intro w
    by_cases h : u < 10
    · exact below_zero u h w
    · exact below_step u (by omega) hm w (ih (u / 10) (by omega) (by omega))
set_option maxHeartbeats 400000 in
theorem decimal_any (u : Nat) (hm : u ≤ 1000000000000000000) (w : World) :
    Calls Tryz.prog 96 #[.int .i64 (u : Int)] w fun e w' => e = .returned (.string ⟨(Lib.decDigits u).toArray⟩) ∧ Below w.heap.size w w' := by
  have hb := below_any u hm w
  have HB := Lib.hid hb
  clear hb
  go_enter Tryz.func96, Tryz.ntmps96
  go_wp2_with fail
  refine HB.out.mono ?_; rintro e w' ⟨rfl, hb⟩
  go_wp2
  go_ret
  exact ⟨rfl, hb⟩
end Ref
end Go.Proofs.YtghkalamlcfnnaaGreatDoor
namespace Go.Proofs.YtghkalamlcfnnaaGreatDoor
open Go Go.RowKit Lmd
namespace Rf
open Rul Day Tp Cand
def refNum (D : List UInt8) (most : Nat) : Int :=
  if D.length < 1 ∨ most < D.length ∨ (1 < D.length ∧ D[0]? = some 48) then -1 else if Cal.digs D = true then Cal.numV D else -1
theorem dec_head : ∀ u : Nat, 1 ≤ u → (Lib.decDigits u)[0]? ≠ some 48 := by
  intro u
  induction u using Nat.strongRecOn with
  | ind u ih =>
    intro h
    unfold Lib.decDigits
    split
    · rename_i h9
      intro e
      have e2 : UInt8.ofNat (48 + u) = 48 := by simpa using e
      have := congrArg UInt8.toNat e2
      rw [UInt8.toNat_ofNat'] at this
      have h48 : (48 : UInt8).toNat = 48 := rfl
      omega
    · have h1 := ih (u / 10) (by omega) (by omega)
      have hne := dec_ne (u / 10)
      rw [List.getElem?_append_left (List.length_pos_iff.2 hne)]
      exact h1
theorem dec_digs (u : Nat) : Cal.digs (Lib.decDigits u) = true := by
  unfold Cal.digs
  rw [List.all_eq_true]
  intro c hc
  exact isD_yes (dec_dig u c hc)
theorem dec_num (u : Nat) : Cal.numV (Lib.decDigits u) = (u : Int) := by
  induction u using Nat.strongRecOn with
  | ind u ih =>
    unfold Lib.decDigits
    split
    · rename_i h9
      have h : (UInt8.ofNat (48 + u)).toNat = 48 + u := by rw [UInt8.toNat_ofNat']; omega
      simp only [Cal.numV, List.foldl, h]
      omega
    · have h : (UInt8.ofNat (48 + u % 10)).toNat = 48 + u % 10 := by rw [UInt8.toNat_ofNat']; omega
      rw [Cal.numV_snoc, ih (u / 10) (by omega), h]
      omega
theorem isD_of {c : UInt8} (h : Cal.isD c = true) : 48 ≤ c.toNat ∧ c.toNat ≤ 57 := by
  unfold Cal.isD at h
  exact of_decide_eq_true h
theorem ofNat_self (c : UInt8) : UInt8.ofNat c.toNat = c := by
  apply UInt8.toNat_inj.1
  rw [UInt8.toNat_ofNat']
  have := c.toNat_lt
  omega
theorem dig_back : ∀ (k : Nat) (D : List UInt8), D.length = k → D ≠ [] → Cal.digs D = true → D[0]? ≠ some 48 → 1 ≤ Cal.numV D ∧ Lib.decDigits (Cal.numV D).toNat = D := by
  intro k
  induction k with
  | zero => intro D h hn; exact absurd (List.length_eq_zero_iff.1 h) hn
  | succ k ih =>
    intro D h hn hd h0
    obtain ⟨E, c, rfl⟩ : ∃ l' c, D = l' ++ [c] := ⟨D.dropLast, D.getLast hn, (List.dropLast_concat_getLast hn).symm⟩
    rw [Cal.digs_snoc, Bool.and_eq_true] at hd
    obtain ⟨hd1, hd2⟩ := hd
    have hc := isD_of hd2
    rw [Cal.numV_snoc]
    by_cases he : E = []
    · subst he
      have hne : c ≠ 48 := fun e => h0 (by rw [e]; rfl)
      have hne2 : c.toNat ≠ 48 := fun e => hne (UInt8.toNat_inj.1 e)
      have e0 : Cal.numV [] = 0 := rfl
      rw [e0]
      have e1 : (10 * 0 + ((c.toNat : Int) - 48)).toNat = c.toNat - 48 := by omega
      refine ⟨by omega, ?_⟩
      rw [e1, Lib.decDigits_one (by omega)]
      have e2 : 48 + (c.toNat - 48) = c.toNat := by omega
      rw [e2, ofNat_self]; rfl
    · have hE0 : E[0]? ≠ some 48 := by
        intro e
        apply h0
        rw [List.getElem?_append_left (List.length_pos_iff.2 he)]
        exact e
      obtain ⟨i1, i2⟩ := ih E (by simpa using h) he hd1 hE0
      refine ⟨by omega, ?_⟩
      unfold Lib.decDigits
      rw [dif_neg (by omega)]
      have e1 : (10 * Cal.numV E + ((c.toNat : Int) - 48)).toNat / 10 = (Cal.numV E).toNat := by omega
      have e2 : 48 + (10 * Cal.numV E + ((c.toNat : Int) - 48)).toNat % 10 = c.toNat := by omega
      rw [e1, e2, i2, ofNat_self]
theorem digs_zero : Lib.decDigits 0 = [48] := by
  rw [Lib.decDigits_one (by omega)]; rfl
theorem refNum_nine (D : List UInt8) : refNum D 9 = if numOk D = true then numIs D else -1 := by
  by_cases hok : numOk D = true
  · obtain ⟨h0, h1, h2⟩ := num_of hok
    obtain ⟨u, hu⟩ : ∃ u : Nat, numIs D = (u : Int) := ⟨(numIs D).toNat, by omega⟩
    rw [hu, Lib.itoa_nonneg] at h2
    rw [if_pos hok, hu]
    have hl1 := dec_len_le 8 u (by omega)
    have hl2 := List.length_pos_iff.2 (dec_ne u)
    unfold refNum
    rw [← h2, dec_num, dec_digs, if_pos rfl]
    rw [if_neg]
    rintro (h | h | ⟨h, h3⟩)
    · omega
    · omega
    · by_cases hz : u = 0
      · subst hz; rw [digs_zero] at h; simp at h
      · exact dec_head u (by omega) h3
  · rw [if_neg hok]
    unfold refNum
    split
    · rfl
    · rename_i hn
      split
      · rename_i hd
        exfalso
        apply hok
        have hne : D ≠ [] := by intro e; subst e; simp at hn
        have hb : D.length ≤ 9 := by omega
        have key : Lib.itoa (Cal.numV D) = D ∧ 0 ≤ Cal.numV D := by
          by_cases h48 : D[0]? = some 48
          · have hl : D.length = 1 := by
              have := List.length_pos_iff.2 hne
              rcases Nat.lt_or_ge 1 D.length with h | h
              · exact absurd (Or.inr (Or.inr ⟨h, h48⟩)) hn
              · omega
            obtain ⟨c, rfl⟩ := List.length_eq_one_iff.1 hl
            have hc : c = 48 := by simpa using h48
            subst hc
            have e : Cal.numV [48] = ((0 : Nat) : Int) := rfl
            rw [e, Lib.itoa_nonneg, digs_zero]
            exact ⟨rfl, by omega⟩
          · obtain ⟨h1, h2⟩ := dig_back _ D rfl hne hd h48
            refine ⟨?_, by omega⟩
            have e : Cal.numV D = ((Cal.numV D).toNat : Int) := by omega
            rw [e, Lib.itoa_nonneg]
            exact h2
        have hbd := Cal.numV_bd _ D rfl hd
        have hp : (10 : Int) ^ D.length ≤ 10 ^ 9 := by
          have h : (10 : Nat) ^ D.length ≤ 10 ^ 9 := Nat.pow_le_pow_right (by omega) hb
          exact_mod_cast h
        have e9 : (10 : Int) ^ 9 = 1000000000 := by decide
        have h := (num_back (Cal.numV D) key.2 (by omega)).1
        rwa [key.1] at h
      · rfl
def posL (c : UInt8) (l : List UInt8) : Nat := (Lib.cut l [c]).1.length
theorem pos_cases (c : UInt8) (l : List UInt8) : (posL c l < l.length ∧ (Lib.cut l [c]).2.2 = true ∧ l[posL c l]? = some c ∧ l.take (posL c l) = (Lib.cut l [c]).1 ∧ l.drop (posL c l + 1) = lenR c l) ∨ (posL c l = l.length ∧ (Lib.cut l [c]).2.2 = false) := by
  by_cases h : c ∈ l
  · obtain ⟨a, r, e, ha⟩ := split_at h
    left
    unfold posL lenR
    rw [e, cut_hit ha]
    simp
  · right
    unfold posL
    rw [cut_miss h]
    exact ⟨rfl, rfl⟩
theorem pos_ne (c : UInt8) (l : List UInt8) (j : Nat) (h : j < posL c l) : ∃ x, l[j]? = some x ∧ x ≠ c := by
  by_cases hm : c ∈ l
  · obtain ⟨a, r, e, ha⟩ := split_at hm
    have hp : posL c l = a.length := by unfold posL; rw [e, cut_hit ha]
    rw [hp] at h
    refine ⟨a[j], by rw [e, List.getElem?_append_left h]; exact List.getElem?_eq_getElem h, fun e2 => ha (by rw [← e2]; exact List.getElem_mem h)⟩
  · have hp : posL c l = l.length := by unfold posL; rw [cut_miss hm]
    rw [hp] at h
    exact ⟨l[j], List.getElem?_eq_getElem h, fun e2 => hm (by rw [← e2]; exact List.getElem_mem h)⟩
theorem pos_le (c : UInt8) (l : List UInt8) : posL c l ≤ l.length := by
  rcases pos_cases c l with h | h
  · omega
  · omega
end Rf
end Go.Proofs.YtghkalamlcfnnaaGreatDoor
namespace Go.Proofs.YtghkalamlcfnnaaGreatDoor
open Go Go.RowKit Lmd
namespace Rf
open Rul Day Tp Cand
theorem pow17 (k : Nat) (h : k ≤ 17) : (10 : Int) ^ k ≤ 100000000000000000 := by
  have h : (10 : Nat) ^ k ≤ 10 ^ 17 := Nat.pow_le_pow_right (by omega) h
  have e : (10 : Nat) ^ 17 = 100000000000000000 := by decide
  have h2 : ((10 ^ k : Nat) : Int) ≤ ((10 ^ 17 : Nat) : Int) := by exact_mod_cast h
  rw [e] at h2
  simpa using h2
set_option maxRecDepth 100000 in
set_option maxHeartbeats 1000000 in
theorem numberOf_any (D : List UInt8) (most : Nat) (w : World) (hm : most ≤ 17) (hD : D.length ≤ 9223372036854775807) :
    Calls Tryz.prog 137 #[.string (mk D), .int .i64 (most : Int)] w fun e w' => e = .returned (.int .i64 (refNum D most)) ∧ ∃ q, w' = w.drewN q := by
  obtain ⟨S, hS⟩ : ∃ S, mk D = S := ⟨_, rfl⟩
  have hsz : S.size = D.length := by rw [← hS]; rfl
  have hSD : S.data.toList = D := by rw [← hS]
  rw [hS]
  have HSD := Lib.hid hSD
  have HSZ := Lib.hid hsz
  clear hS hSD
  by_cases h1 : D.length < 1
  · have hr : refNum D most = -1 := by unfold refNum; rw [if_pos (.inl h1)]
    have HR := Lib.hid hr
    have hz1 : (S.size : Int) < 1 := by omega
    clear hr hsz
    go_enter Tryz.func137, Tryz.ntmps137
    go_wp2
    go_ret
    exact ⟨by rw [HR.out]; rfl, 0, rfl⟩
  by_cases h2 : most < D.length
  · have hr : refNum D most = -1 := by unfold refNum; rw [if_pos (.inr (.inl h2))]
    have HR := Lib.hid hr
    have hz1 : ¬ (S.size : Int) < 1 := by omega
    have hz2 : (most : Int) < (S.size : Int) := by omega
    clear hr hsz
    go_enter Tryz.func137, Tryz.ntmps137
    go_wp2
    go_ret
    exact ⟨by rw [HR.out]; rfl, 0, rfl⟩
  have hz1 : ¬ (S.size : Int) < 1 := by omega
  have hz2 : ¬ (most : Int) < (S.size : Int) := by omega
  have h0 : 0 < S.size := by omega
  obtain ⟨x, hx⟩ : ∃ x, D[0]? = some x := ⟨_, List.getElem?_eq_getElem (by omega)⟩
  have hSx : (S[0] : UInt8) = x := at_of S 0 x h0 (by rw [HSD.out]; exact hx)
  have HX := Lib.hid hx
  have H1 := Lib.hid h1
  have H2 := Lib.hid h2
  clear hx h1 h2
  by_cases h3 : 1 < D.length ∧ D[0]? = some 48
  · have hr : refNum D most = -1 := by unfold refNum; rw [if_pos (.inr (.inr h3))]
    have HR := Lib.hid hr
    obtain rfl : x = 48 := by have h := HX.out; rw [h3.2] at h; exact (Option.some.inj h).symm
    have hz3 : (1 : Int) < (S.size : Int) := by omega
    clear hr h3 hsz
    go_enter Tryz.func137, Tryz.ntmps137
    go_wp2_with fail
    go_ret
    exact ⟨by rw [HR.out]; rfl, 0, rfl⟩
  have hr : refNum D most = if Cal.digs D = true then Cal.numV D else -1 := by
    unfold refNum
    rw [if_neg]
    rintro (h | h | h)
    · exact H1.out h
    · exact H2.out h
    · exact h3 h
  have HR := Lib.hid hr
  have hsm : S.size ≤ 17 := by omega
  have hq : (1 : Int) < (S.size : Int) → ((x.toNat : Int) == 48) = false := by
    intro h
    rw [beq_eq_false_iff_ne]
    intro e
    apply h3
    refine ⟨by omega, ?_⟩
    rw [HX.out]
    congr 1
    exact UInt8.toNat_inj.1 (by show x.toNat = 48; omega)
  have HQ := Lib.hid hq
  clear hr h3 hq hsz
  go_enter Tryz.func137, Tryz.ntmps137
  by_cases h4 : (1 : Int) < (S.size : Int)
  all_goals (
    first
      | have hq2 := HQ.out h4
      | skip
    go_wp2_with fail
    go_loopw [5, 6] (fun n i wr => ∃ k q : Nat, k ≤ S.size ∧ n = .int .i64 (Cal.numV (D.take k)) ∧ i = .int .i64 k ∧ Cal.digs (D.take k) = true ∧ wr = w.drewN q) (fun _ i _ => S.size - (intOf i).toNat)
    case atStart => exact ⟨0, 0, Nat.zero_le _, rfl, rfl, rfl, rfl⟩
    case round =>
      obtain ⟨k, q, hk, rfl, rfl, hd, rfl⟩ := hrel
      have hb := Cal.numV_bd k (D.take k) (by rw [List.length_take]; have := HSZ.out; omega) hd
      have hp := pow17 k (by omega)
      obtain ⟨N, hN⟩ : ∃ N, Cal.numV (D.take k) = N := ⟨_, rfl⟩
      have hN0 : 0 ≤ N := by rw [← hN]; exact hb.1
      have hN1 : N ≤ 100000000000000000 := by rw [← hN]; exact Int.le_trans (Int.le_of_lt hb.2) hp
      rw [hN]
      have HN := Lib.hid hN
      have HD := Lib.hid hd
      clear hd hb hp hN
      by_cases hlt : k < S.size
      · obtain ⟨y, hy⟩ : ∃ y, D[k]? = some y := ⟨_, List.getElem?_eq_getElem (by have := HSZ.out; omega)⟩
        have hSy : (S[k] : UInt8) = y := at_of S k y hlt (by rw [HSD.out]; exact hy)
        have hts : D.take (k + 1) = D.take k ++ [y] := by
          obtain ⟨h1, h2⟩ := List.getElem?_eq_some_iff.1 hy
          rw [List.take_succ_eq_append_getElem h1, h2]
        have HTS := Lib.hid hts
        have hi1 : (k : Int) < (S.size : Int) := by omega
        clear hts hy
        by_cases hdg : 48 ≤ y.toNat ∧ y.toNat ≤ 57
        · have HG := Lib.hid (isD_yes hdg)
          obtain ⟨d1, d2⟩ := hdg
          go_wp2_with fail
          go_roundw
          case rel => exact ⟨k + 1, q, by omega, by rw [HTS.out, Cal.numV_snoc, HN.out], by go_num, by rw [HTS.out, Cal.digs_snoc, HD.out, HG.out]; rfl, rfl⟩
          case measure => simp [intOf]; omega
        · have HG := Lib.hid (isD_no hdg)
          have HNO : Hid (Cal.digs D = false) := digs_take _ (k + 1) (by rw [HTS.out, Cal.digs_snoc, HG.out, Bool.and_false])
          by_cases d1 : y.toNat < 48
          · clear hdg
            go_wp2_with fail
            go_ret
            exact ⟨by rw [HR.out, HNO.out]; rfl, q, rfl⟩
          · have d2 : 57 < y.toNat := by omega
            clear hdg
            go_wp2_with fail
            go_ret
            exact ⟨by rw [HR.out, HNO.out]; rfl, q, rfl⟩
      · have hi1 : ¬ (k : Int) < (S.size : Int) := by omega
        have HT : Hid (D.take k = D) := List.take_of_length_le (by have := HSZ.out; omega)
        go_wp2_with fail
        go_ret
        refine ⟨?_, q, rfl⟩
        rw [HT.out] at HD HN
        rw [HR.out, HD.out, if_pos rfl, HN.out]; rfl)
end Rf
end Go.Proofs.YtghkalamlcfnnaaGreatDoor
end
section
namespace Go.Proofs.YtghkalamlcfnnaaGreatDoor
open Go.RowKit Lmd
namespace Ref
open Day
theorem dec_four (y : Nat) (h1 : 1000 ≤ y) (h2 : y ≤ 9999) : Lib.decDigits y = Cal.fourT y := by
  rw [← Lib.itoa_nonneg]; exact Cal.itoa_four y (by omega) (by omega)
set_option maxHeartbeats 400000 in
theorem pad_any (k : Int) (w : World) (h1 : 0 ≤ k) (h2 : k ≤ 99) :
    Calls Tryz.prog 147 #[.int .i64 k] w fun e w' => e = .returned (.string ⟨(Cal.twoT k).toArray⟩) ∧ Below w.heap.size w w' := by
  obtain ⟨n, rfl⟩ := Int.eq_ofNat_of_zero_le h1
  have hn : n < 100 := by omega
  have hl := dec_len n hn
  have HD := Lib.hid (decimal_any n (by omega) w)
  by_cases h : n < 10
  · have HE := Lib.hid (Cal.dec_one n h)
    go_enter Tryz.func147, Tryz.ntmps147
    go_wp2_with fail
    refine HD.out.mono ?_; rintro e w' ⟨rfl, hb⟩
    go_wp2
    go_ret
    exact ⟨by rw [← HE.out]; exact congrArg (fun s => Ending.returned (.string s)) (cat [48] _), hb⟩
  · have HE := Lib.hid (Cal.dec_two n (by omega) hn)
    go_enter Tryz.func147, Tryz.ntmps147
    go_wp2_with fail
    refine HD.out.mono ?_; rintro e w' ⟨rfl, hb⟩
    go_wp2
    go_ret
    exact ⟨by rw [← HE.out]; rfl, hb⟩
theorem decimal_year (y : Int) (w : World) (h1 : 1000 ≤ y) (h2 : y ≤ 9999) :
    Calls Tryz.prog 96 #[.int .i64 y] w fun e w' => e = .returned (.string ⟨(Cal.fourT y).toArray⟩) ∧ Below w.heap.size w w' := by
  obtain ⟨n, rfl⟩ := Int.eq_ofNat_of_zero_le (show 0 ≤ y by omega)
  rw [← dec_four n (by omega) (by omega)]
  exact decimal_any n (by omega) w
set_option maxHeartbeats 800000 in
theorem dayText_at (n y m d : Int) (w : World) (h : Cal.At n y m d) :
    Calls Tryz.prog 95 #[.int .i64 n] w fun e w' => e = .returned (.string ⟨(Cal.text y m d).toArray⟩) ∧ Below w.heap.size w w' := by
  obtain ⟨a1, a2, a3, a4, a5, a6⟩ := Cal.ok_range h.1
  have nb := Cal.at_bd h
  have l0 : (Cal.fourT y).length ≤ 4 := Nat.le_refl _
  have l1 := twoT_len m
  have l2 := twoT_len d
  go_enter Tryz.func95, Tryz.ntmps95
  go_wp2_with fail
  refine (isDay_yes n _ nb).mono ?_; rintro e w' ⟨rfl, rfl⟩
  go_wp2_with fail
  refine (dateOf_at n y m d _ h).mono ?_; rintro e w' ⟨rfl, rfl⟩
  go_wp2_with fail
  refine (decimal_year y _ (by omega) (by omega)).mono ?_; rintro e w1 ⟨rfl, hb1⟩
  go_wp2_with fail
  refine (pad_any m _ (by omega) (by omega)).mono ?_; rintro e w2 ⟨rfl, hb2⟩
  go_wp2_with fail
  refine (pad_any d _ (by omega) (by omega)).mono ?_; rintro e w3 ⟨rfl, hb3⟩
  go_wp2
  go_ret
  have hb12 := hb1.trans (hb2.mono hb1.size)
  exact ⟨congrArg (fun s => Ending.returned (.string s)) (text_cat y m d), hb12.trans (hb3.mono hb12.size)⟩
set_option maxHeartbeats 400000 in
theorem dayText_no (n : Int) (w : World) (h : ¬ (0 ≤ n ∧ n ≤ 73048)) :
    Calls Tryz.prog 95 #[.int .i64 n] w fun e w' => e = .returned (.string ⟨#[]⟩) ∧ w = w' := by
  go_enter Tryz.func95, Tryz.ntmps95
  go_wp2_with fail
  refine (isDay_no n _ h).mono ?_; rintro e w' ⟨rfl, rfl⟩
  go_wp2
  go_ret
  exact ⟨rfl, rfl⟩
end Ref
end Go.Proofs.YtghkalamlcfnnaaGreatDoor
end
section
namespace Go.Proofs.YtghkalamlcfnnaaGreatDoor
open Go Go.RowKit Lmd
namespace Rrt
open Rul Day Er Ref Tp
theorem weekNames_new (w : World) : Calls Tryz.prog 149 #[] w fun e w' => e = .returned (.slice (some ⟨w.heap.size, 0, none⟩) 7 7) ∧ w' = w.alloc (.cells namesV 9) := by
  go_enter Tryz.func149, Tryz.ntmps149
  go_wp2
  go_ret
  exact ⟨rfl, rfl⟩
theorem weekNames_at (k : Nat) (hk : k < 7) (w : World) : Calls Tryz.prog 149 #[] w fun e w' => e = .returned (.slice (some ⟨w.heap.size, 0, none⟩) 7 7) ∧ Below w.heap.size w w' ∧ w'.cell? ⟨w.heap.size, k, none⟩ = some (.string (nameOf (k : Int))) := by
  refine (weekNames_new w).mono ?_
  rintro e w' ⟨rfl, rfl⟩
  refine ⟨rfl, (Below.refl _ w).alloc (Nat.le_refl _) _, ?_⟩
  have h := names_cell w (k : Int) (by omega) (by omega)
  simpa using h
def dsTo (ds : List Int) (k : Nat) : List UInt8 := if k = 0 then [] else 32 :: Lib.join (((ds.take k).map nameOf).map (·.data.toList)) [44]
theorem join_snoc (sep : List UInt8) : ∀ (xs : List (List UInt8)) (y : List UInt8), xs ≠ [] → Lib.join (xs ++ [y]) sep = Lib.join xs sep ++ sep ++ y
  | [], _, h => absurd rfl h
  | [x], y, _ => by simp [Lib.join, List.intercalate_cons_cons]
  | x :: z :: xs, y, _ => by
    have ih := join_snoc sep (z :: xs) y (by simp)
    unfold Lib.join at ih ⊢
    rw [List.cons_append, List.cons_append, List.intercalate_cons_cons, ← List.cons_append, ih, List.intercalate_cons_cons]
    simp
theorem dsTo_zero (ds : List Int) : dsTo ds 0 = [] := rfl
theorem dsTo_one {ds : List Int} {y : Int} (h : ds[0]? = some y) : dsTo ds 1 = [32] ++ (nameOf y).data.toList := by
  cases ds with
  | nil => cases h
  | cons x ds =>
    obtain rfl : x = y := by simpa using h
    simp [dsTo, Lib.join]
theorem dsTo_succ {ds : List Int} {k : Nat} {y : Int} (h : ds[k]? = some y) (hk : k ≠ 0) : dsTo ds (k + 1) = dsTo ds k ++ [44] ++ (nameOf y).data.toList := by
  obtain ⟨h1, h2⟩ := List.getElem?_eq_some_iff.1 h
  unfold dsTo
  rw [if_neg (by omega), if_neg hk, List.take_succ_eq_append_getElem h1, h2, List.map_append, List.map_append]
  have hne : ((ds.take k).map nameOf).map (·.data.toList) ≠ [] := by
    intro e
    have := congrArg List.length e
    simp only [List.length_map, List.length_take, List.length_nil] at this
    omega
  have := join_snoc [44] (((ds.take k).map nameOf).map (·.data.toList)) (nameOf y).data.toList hne
  simp only [List.map_cons, List.map_nil]
  rw [this]
  simp
theorem str_one (hd : List UInt8) {ds : List Int} {y : Int} {nm : ByteArray} (h : ds[0]? = some y) (hn : nameOf y = nm) : mk (hd ++ dsTo ds 0) ++ ⟨#[32]⟩ ++ nm = mk (hd ++ dsTo ds 1) := by
  rw [dsTo_one h, dsTo_zero, List.append_nil, hn, ← List.append_assoc, ← Tp.mk_cat, ← Tp.mk_cat, ← Tp.mk_self nm]
  try rfl
theorem str_more (hd : List UInt8) {ds : List Int} {k : Nat} {y : Int} {nm : ByteArray} (h : ds[k]? = some y) (hn : nameOf y = nm) (hk : k ≠ 0) : mk (hd ++ dsTo ds k) ++ ⟨#[44]⟩ ++ nm = mk (hd ++ dsTo ds (k + 1)) := by
  rw [dsTo_succ h hk, hn, ← List.append_assoc, ← List.append_assoc, ← Tp.mk_cat, ← Tp.mk_cat, ← Tp.mk_self nm]
  try rfl
theorem dsTo_all (r : Ru) : dsTo r.ds r.ds.length = daysL r := by
  unfold dsTo daysL
  by_cases h : r.ds = []
  · simp [h]
  · rw [if_neg (fun e => h (List.length_eq_zero_iff.1 e)), if_neg h, List.take_length]; rfl
theorem dsTo_len (ds : List Int) (k : Nat) : (dsTo ds k).length ≤ 3 * k + 1 := by
  unfold dsTo
  split
  · simp
  · have h := join_le [44] (by simp) (((ds.take k).map nameOf).map (·.data.toList)) (by
      intro x hx
      simp only [List.map_map, List.mem_map] at hx
      obtain ⟨d, _, rfl⟩ := hx
      exact nameOf_len d)
    simp only [List.length_map, List.length_take] at h
    simp only [List.length_cons]
    omega
set_option maxRecDepth 100000 in
set_option maxHeartbeats 8000000 in
theorem ruleText_any (r : Ru) (v : Value) (w : World) (hr : Ints.Reads w v r.ds) (hl : r.ds.length < 50000) (hbad : bad r = 0) :
    Calls Tryz.prog 98 #[.agg #[.string r.fq, .int .i64 r.ev, v, .int .i64 r.ct, .int .i64 r.un]] w fun e' w' => e' = .returned (.string (mk (textL r))) ∧ Below w.heap.size w w' := by
  obtain ⟨hfr, hbo, hdb, _, _⟩ := Cand.bad_parts hbad
  obtain ⟨hev, hct, hun1, hun2⟩ := Cand.bound_parts hbo
  have hf : r.fq.size ≤ 8 := by
    rcases Cand.freqs_mem hfr with e | e | e | e | e <;> rw [e] <;> decide
  obtain ⟨a, cap, rfl⟩ := hr.shape
  obtain ⟨W1, hW1⟩ : ∃ W1, w.alloc (.cells #[.string r.fq, .int .i64 r.ev, .slice a r.ds.length cap, .int .i64 r.ct, .int .i64 r.un] 37) = W1 := ⟨_, rfl⟩
  have hB : Below w.heap.size w W1 := by rw [← hW1]; exact (Below.refl _ w).alloc (Nat.le_refl _) _
  have hz1' : W1.heap.size = w.heap.size + 1 := by rw [← hW1]; simp
  have hx := heap_new w (.cells #[.string r.fq, .int .i64 r.ev, .slice a r.ds.length cap, .int .i64 r.ct, .int .i64 r.un] 37)
  rw [hW1] at hx
  have HX := Lib.hid hx
  have HB := Lib.hid hB
  have HR := Lib.hid hr
  have HDB := Lib.hid hdb
  have hr5 : ∀ w2 : World, Below W1.heap.size W1 w2 → w2.heap[w.heap.size]? = some (.cells #[.string r.fq, .int .i64 r.ev, .slice a r.ds.length cap, .int .i64 r.ct, .int .i64 r.un] 37) := fun w2 h => by rw [h.block _ (by omega)]; exact HX.out
  have HR5 := Lib.hid hr5
  have HW1 := Lib.hid hW1
  obtain ⟨q0, q1, q2, q3, q4, _⟩ := Cand.cells5' HX.out
  clear hx hr hr5 hbad hfr hbo hdb hB hW1
  by_cases ho : r.fq.toList = [111, 110, 99, 101]
  · have ht : textL r = r.fq.data.toList := by unfold textL; rw [if_pos ho]
    have hfq : r.fq.data.toList = [111, 110, 99, 101] := by rw [← ByteArray.toList_eq]; exact ho
    rw [ht, hfq]
    clear ht hfq
    clear q0 q1 q2 q3 q4
    go_enter Tryz.func98, Tryz.ntmps98
    go_wp2
    rw [HW1.out]
    go_ret
    exact ⟨rfl, HB.out⟩
  have ho' : (r.fq.toList == [111, 110, 99, 101]) = false := by simpa using ho
  have ht : textL r = headL r ++ daysL r ++ countL r ++ untilL r := by unfold textL; rw [if_neg ho]
  rw [ht]
  clear ht ho
  have hli := Lib.itoa_length_le r.ev (by omega) (by omega)
  obtain ⟨n, hn⟩ : ∃ n : Nat, r.ev = (n : Int) := ⟨r.ev.toNat, by omega⟩
  have hde := fun W => decimal_any n (by omega) W
  have hdz : (⟨(Lib.decDigits n).toArray⟩ : ByteArray) = mk (Lib.itoa r.ev) := by rw [hn, Lib.itoa_nonneg]
  simp only [hdz, ← hn] at hde
  have HDE := Lib.hid hde
  clear hde hdz hn
  go_enter Tryz.func98, Tryz.ntmps98
  go_wp2_with fail
  rw [HW1.out]
  go_cut [3] from 8 (fun s3 wc => s3 = .string (mk (headL r)) ∧ Below W1.heap.size W1 wc)
  case first =>
    go_region_with (go_at_call 96; refine (HDE.out _).mono ?_; rintro e1 w3 ⟨rfl, hb3⟩; obtain ⟨z0, z1, z2, z3, z4, _⟩ := Cand.cells5' (Cand.row_below' (show (W1.drewN 1).heap[w.heap.size]? = _ from HX.out) hb3))
    all_goals go_wp2_with fail
    all_goals go_meet
    all_goals exact ⟨fin_val (head_cat r), (below_draw (Below.refl _ W1) 1).trans hb3⟩
  case rest =>
    obtain ⟨rfl, hbc⟩ := hcut
    obtain ⟨hd, hhd⟩ : ∃ hd, headL r = hd := ⟨_, rfl⟩
    have hlh : hd.length ≤ 40 := by
      rw [← hhd]; unfold headL
      have : r.fq.data.toList.length = r.fq.size := by simp
      simp only [List.length_append, List.length_cons, List.length_nil]
      omega
    rw [hhd]
    have HHD := Lib.hid hhd
    have HBC := Lib.hid hbc
    clear hhd hbc q0 q1 q2 q3 q4
    go_wp2_with fail
    go_loopw [3, 4] (fun v3 p wr => ∃ k : Nat, k ≤ r.ds.length ∧ p = .int .i64 (k : Int) ∧ v3 = .string (mk (hd ++ dsTo r.ds k)) ∧ Below W1.heap.size W1 wr) (fun _ p _ => r.ds.length - (intOf p).toNat)
    case atStart => exact ⟨0, Nat.zero_le _, rfl, by rw [dsTo_zero, List.append_nil], HBC.out⟩
    case round =>
      obtain ⟨k, hk, rfl, rfl, hbr⟩ := hrel
      obtain ⟨q0, q1, q2, q3, q4, _⟩ := Cand.cells5' (HR5.out wr hbr)
      have HBR := Lib.hid hbr
      have hdl := dsTo_len r.ds k
      have htl : (hd ++ dsTo r.ds k).length ≤ 400000 := by rw [List.length_append]; omega
      by_cases hlt : k < r.ds.length
      · obtain ⟨_, b, o, ha9, hc⟩ := (HR.out.below (HB.out.trans (hbr.mono HB.out.size))).at (by intro h; rw [h] at hlt; exact absurd hlt (Nat.not_lt_zero _))
        subst ha9
        have c1 := hc k hlt
        obtain ⟨y, hy⟩ : ∃ y, Ints.el r.ds k = y := ⟨_, rfl⟩
        rw [hy] at c1
        have hyk : r.ds[k]? = some y := by rw [List.getElem?_eq_getElem hlt, ← hy, Ints.el_lt hlt]
        have hyb : 0 ≤ y ∧ y ≤ 6 := by
          have := HDB.out
          unfold daysB at this
          rw [List.all_eq_true] at this
          have h2 := this y (List.mem_of_getElem? hyk)
          simpa [inB] using h2
        obtain ⟨j, rfl⟩ : ∃ j : Nat, y = (j : Int) := ⟨y.toNat, by omega⟩
        have hj7 : (j : Int) < 7 := by omega
        have hwn := fun W => weekNames_at j (by omega) W
        have hi1 : (k : Int) < (r.ds.length : Int) := by omega
        have HWN := Lib.hid hwn
        have HYK := Lib.hid hyk
        obtain ⟨nm, hnm⟩ : ∃ nm, nameOf (j : Int) = nm := ⟨_, rfl⟩
        have hnl : nm.size ≤ 2 := by
          have := nameOf_len (j : Int)
          rw [hnm] at this
          simpa using this
        rw [hnm] at HWN
        have HNM := Lib.hid hnm
        clear hc hy hyk hyb hwn hnm
        have hb0 := below_drew (Below.refl wr.heap.size wr)
        by_cases hk0 : k = 0
        · subst hk0
          have HS := Lib.hid (str_one hd HYK.out HNM.out)
          rw [Nat.add_zero] at c1
          go_wp2_with fail
          go_region_with ((go_at_call 149; (with_reducible refine (HWN.out _).mono ?_); rintro e1 w3 ⟨rfl, hb3, hnm3⟩; have g3 : w3.cell? ⟨wr.heap.size, j, none⟩ = some (.string nm) := hnm3; clear hnm3; have g2 := cell_later hb3 (show (wr.drewN 1).cell? ⟨w.heap.size, 2, none⟩ = _ from q2); have g1 := cell_later hb3 (show (wr.drewN 1).cell? ⟨b, o, none⟩ = _ from c1)))
          all_goals go_wp2_with fail
          all_goals have HFIN := Lib.hid (HBR.out.trans (((below_draw (Below.refl _ wr) 1).trans hb3).mono HBR.out.size))
          all_goals clear hb3
          all_goals go_roundw
          all_goals first
            | exact ⟨1, by omega, by go_num, by rw [← HS.out], HFIN.out⟩
            | (simp [intOf]; omega)
        · have hk1 : ((k : Int) == 0) = false := by rw [beq_eq_false_iff_ne]; omega
          have HS := Lib.hid (str_more hd HYK.out HNM.out hk0)
          clear hk0
          go_wp2_with fail
          go_region_with ((go_at_call 149; (with_reducible refine (HWN.out _).mono ?_); rintro e1 w3 ⟨rfl, hb3, hnm3⟩; have g3 : w3.cell? ⟨wr.heap.size, j, none⟩ = some (.string nm) := hnm3; clear hnm3; have g2 := cell_later hb3 (show (wr.drewN 1).cell? ⟨w.heap.size, 2, none⟩ = _ from q2); have g1 := cell_later hb3 (show (wr.drewN 1).cell? ⟨b, o + k, none⟩ = _ from c1)))
          all_goals go_wp2_with fail
          all_goals have HFIN := Lib.hid (HBR.out.trans (((below_draw (Below.refl _ wr) 1).trans hb3).mono HBR.out.size))
          all_goals clear hb3
          all_goals go_roundw
          all_goals first
            | exact ⟨k + 1, by omega, by go_num, by rw [← HS.out], HFIN.out⟩
            | (simp [intOf]; omega)
      · have hke : k = r.ds.length := by omega
        have hD : dsTo r.ds k = daysL r := by rw [hke]; exact dsTo_all r
        have hi1 : ¬ (k : Int) < (r.ds.length : Int) := by omega
        rw [hD] at htl ⊢
        obtain ⟨T, hT⟩ : ∃ T, hd ++ daysL r = T := ⟨_, rfl⟩
        have hTT : headL r ++ daysL r ++ countL r ++ untilL r = T ++ countL r ++ untilL r := by rw [HHD.out, hT]
        rw [hT] at htl ⊢
        have HTT := Lib.hid hTT
        clear hT hTT hD hke hlt hdl
        have hlc := Lib.itoa_length_le r.ct (by omega) (by omega)
        obtain ⟨n, hn⟩ : ∃ n : Nat, r.ct = (n : Int) := ⟨r.ct.toNat, by omega⟩
        have hde := fun W => decimal_any n (by omega) W
        have hdz : (⟨(Lib.decDigits n).toArray⟩ : ByteArray) = mk (Lib.itoa r.ct) := by rw [hn, Lib.itoa_nonneg]
        simp only [hdz, ← hn] at hde
        obtain ⟨I, hI⟩ : ∃ I, Lib.itoa r.ct = I := ⟨_, rfl⟩
        rw [hI] at hde hlc
        have HDE := Lib.hid hde
        have HI := Lib.hid hI
        clear hde hdz hn hI hbr
        by_cases hcp : 0 < r.ct
        · have hC : countL r = [32, 99, 111, 117, 110, 116, 32] ++ I := by unfold countL; rw [if_pos hcp, HI.out]
          have HC := Lib.hid hC
          clear hC
          go_wp2_with fail
          (with_reducible refine (HDE.out _).mono ?_)
          rintro e1 w1 ⟨rfl, hb1⟩
          obtain ⟨q0, q1, q2, q3, q4, _⟩ := Cand.cells5' (HR5.out w1 (HBR.out.trans (hb1.mono HBR.out.size)))
          have HF1 := Lib.hid (HBR.out.trans (hb1.mono HBR.out.size))
          clear hb1
          by_cases hu : 0 ≤ r.un
          · obtain ⟨y, m, d, hat⟩ := Cal.at_exists r.un (by omega) (by omega)
            have hU : untilL r = [32, 117, 110, 116, 105, 108, 32] ++ Cal.text y m d := by unfold untilL; rw [if_pos (by omega), dayT_at hat]
            have htx := fun W => dayText_at r.un y m d W hat
            have hlt10 : (Cal.text y m d).length ≤ 10 := Nat.le_refl _
            obtain ⟨X, hX⟩ : ∃ X, Cal.text y m d = X := ⟨_, rfl⟩
            rw [hX] at hlt10 hU
            simp only [hX] at htx
            have HTX := Lib.hid htx
            have HU := Lib.hid hU
            clear hU htx hX hat
            go_wp2_with fail
            (with_reducible refine (HTX.out _).mono ?_)
            rintro e2 w2 ⟨rfl, hb2⟩
            have HF2 := Lib.hid (HF1.out.trans (hb2.mono HF1.out.size))
            clear hb2
            go_wp2
            go_ret
            exact ⟨ret_val (by (first | rw [HTT.out] | rw [← List.append_assoc, ← List.append_assoc, HTT.out]); rw [HC.out, HU.out]; (repeat rw [← List.append_assoc]); (repeat (first | rw [← mk_cat] | rw [← cat])); (first | done | rfl)), HB.out.trans (HF2.out.mono HB.out.size)⟩
          · have hU : untilL r = [] := by unfold untilL; rw [if_neg (by omega)]
            have HU := Lib.hid hU
            clear hU
            go_wp2
            go_ret
            exact ⟨ret_val (by (first | rw [HTT.out] | rw [← List.append_assoc, ← List.append_assoc, HTT.out]); rw [HC.out, HU.out, List.append_nil]; (repeat rw [← List.append_assoc]); (repeat (first | rw [← mk_cat] | rw [← cat])); (first | done | rfl)), HB.out.trans (HF1.out.mono HB.out.size)⟩
        · have hC : countL r = [] := by unfold countL; rw [if_neg hcp]
          have HC := Lib.hid hC
          clear hC
          by_cases hu : 0 ≤ r.un
          · obtain ⟨y, m, d, hat⟩ := Cal.at_exists r.un (by omega) (by omega)
            have hU : untilL r = [32, 117, 110, 116, 105, 108, 32] ++ Cal.text y m d := by unfold untilL; rw [if_pos (by omega), dayT_at hat]
            have htx := fun W => dayText_at r.un y m d W hat
            have hlt10 : (Cal.text y m d).length ≤ 10 := Nat.le_refl _
            obtain ⟨X, hX⟩ : ∃ X, Cal.text y m d = X := ⟨_, rfl⟩
            rw [hX] at hlt10 hU
            simp only [hX] at htx
            have HTX := Lib.hid htx
            have HU := Lib.hid hU
            clear hU htx hX hat
            go_wp2_with fail
            (with_reducible refine (HTX.out _).mono ?_)
            rintro e2 w2 ⟨rfl, hb2⟩
            have HF2 := Lib.hid (HBR.out.trans (hb2.mono HBR.out.size))
            clear hb2
            go_wp2
            go_ret
            exact ⟨ret_val (by (first | rw [HTT.out] | rw [← List.append_assoc, ← List.append_assoc, HTT.out]); rw [HC.out, HU.out, List.append_nil]; (repeat rw [← List.append_assoc]); (repeat (first | rw [← mk_cat] | rw [← cat])); (first | done | rfl)), HB.out.trans (HF2.out.mono HB.out.size)⟩
          · have hU : untilL r = [] := by unfold untilL; rw [if_neg (by omega)]
            have HU := Lib.hid hU
            clear hU
            go_wp2
            go_ret
            exact ⟨ret_val (by (first | rw [HTT.out] | rw [← List.append_assoc, ← List.append_assoc, HTT.out]); rw [HC.out, HU.out, List.append_nil, List.append_nil]; (repeat rw [← List.append_assoc]); (repeat (first | rw [← mk_cat] | rw [← cat])); (first | done | rfl)), HB.out.trans (HBR.out.mono HB.out.size)⟩
end Rrt
end Go.Proofs.YtghkalamlcfnnaaGreatDoor
end
