/- the reference's Decimal, NumberOf, Head. -/
import Derived.Test.YtmlndamkcipebaaGreatDoorDayText
import Derived.Test.YtmlndamkcipebaaGreatDoorFar
import Derived.Test.YtmlndamkcipebaaGreatDoorPacked
import Derived.Laws.IdiomStrings
import Derived.Deep.CutRange
namespace Go.Proofs.YtmlndamkcipebaaGreatDoor
open Go.RowKit Lmd
namespace Ref
open Day

theorem conv_one (w : World) (c : UInt8) :
    (convert 75 9 (.slice (some ⟨w.heap.size, 0, none⟩) 1 1)).run Tryz.prog (w.alloc (.cells #[.int .u8 (c.toNat : Int)] 5)) = .ok (.string ⟨[c].toArray⟩) (w.alloc (.cells #[.int .u8 (c.toNat : Int)] 5)) :=
  run_convert_bytes_back _ 75 9 5 ⟨w.heap.size, 0, none⟩ 1 [c] Tryz.underlying75 Tryz.underlying5 Tryz.underlying9
    (fun j hj => by
      obtain rfl : j = 0 := by simpa using hj
      simp [Addr.add])

set_option maxRecDepth 100000 in
set_option maxHeartbeats 400000 in
theorem byte_any (c : UInt8) (w : World) :
    Calls Tryz.prog 105 #[.int .i64 (c.toNat : Int)] w fun e w' => e = .returned (.string ⟨[c].toArray⟩) ∧ Below w.heap.size w w' := by
  have h2 : (c.toNat : Int) ≤ 255 := by have := c.toNat_lt; omega
  have hc := conv_one w c
  go_enter Tryz.func105, Tryz.ntmps105
  go_wp2
  go_ret
  exact ⟨rfl, (Below.refl _ _).alloc (Nat.le_refl _) _⟩

theorem dec_len64 (u : Nat) (h : u ≤ 1000000000000000000) : (Lib.decDigits u).length ≤ 19 := by
  have key : ∀ (k u : Nat), u < 10 ^ (k + 1) → (Lib.decDigits u).length ≤ k + 1 := by
    intro k
    induction k with
    | zero => intro u hu; rw [Lib.decDigits_one (by simpa using hu)]; simp
    | succ k ih =>
      intro u hu
      by_cases h9 : u < 10
      · rw [Lib.decDigits_one h9]; simp
      · rw [Lib.decDigits, dif_neg h9, List.length_append]
        have := ih (u / 10) (by rw [Nat.pow_succ] at hu; omega)
        simp; omega
  exact key 18 u (by omega)
theorem tdiv_neg (n : Int) (h : n ≤ 0) : n.tdiv 10 = -((-n) / 10) := by
  rw [show n = -(-n) from by omega, Int.neg_tdiv, Int.tdiv_eq_ediv_of_nonneg (by omega)]; simp
theorem tmod_neg (n : Int) (h : n ≤ 0) : n.tmod 10 = -((-n) % 10) := by
  rw [show n = -(-n) from by omega, Int.neg_tmod, Int.tmod_eq_emod_of_nonneg (by omega)]; simp
theorem digit_is (k : Int) (h1 : 0 ≤ k) (h2 : k ≤ 9) : 48 + k = ((Cal.dg k).toNat : Int) := (Cal.dg_nat k h1 h2).symm

set_option maxRecDepth 100000 in
set_option maxHeartbeats 400000 in
theorem below_zero (u : Nat) (hu : u < 10) (w : World) :
    Calls Tryz.prog 80 #[.int .i64 (-(u : Int))] w fun e w' => e = .returned (.string ⟨(Lib.decDigits u).toArray⟩) ∧ Below w.heap.size w w' := by
  have hd := Lib.decDigits_one hu
  have hn : ((UInt8.ofNat (48 + u)).toNat : Int) = 48 + (u : Int) := by rw [UInt8.toNat_ofNat']; omega
  generalize UInt8.ofNat (48 + u) = c at *
  have hb := byte_any c w
  rw [hn] at hb
  clear hn
  rw [hd]
  have HB := Lib.hid hb
  clear hb hd
  go_enter Tryz.func80, Tryz.ntmps80
  go_wp2_with fail
  refine HB.out.mono ?_; rintro e w' ⟨rfl, hb⟩
  go_wp2
  go_ret
  exact ⟨rfl, hb⟩

set_option maxRecDepth 100000 in
set_option maxHeartbeats 400000 in
theorem below_step (u : Nat) (hu : 10 ≤ u) (hm : u ≤ 1000000000000000000) (w : World)
    (ih : ∀ w, Calls Tryz.prog 80 #[.int .i64 (-((u / 10 : Nat) : Int))] w fun e w' => e = .returned (.string ⟨(Lib.decDigits (u / 10)).toArray⟩) ∧ Below w.heap.size w w') :
    Calls Tryz.prog 80 #[.int .i64 (-(u : Int))] w fun e w' => e = .returned (.string ⟨(Lib.decDigits u).toArray⟩) ∧ Below w.heap.size w w' := by
  have hd : Lib.decDigits u = Lib.decDigits (u / 10) ++ [UInt8.ofNat (48 + u % 10)] := by rw [Lib.decDigits, dif_neg (by omega)]
  have hn : ((UInt8.ofNat (48 + u % 10)).toNat : Int) = 48 + (u : Int) % 10 := by rw [UInt8.toNat_ofNat']; omega
  generalize UInt8.ofNat (48 + u % 10) = c at *
  have hb := byte_any c
  rw [hn] at hb
  clear hn
  rw [hd]
  have HB := Lib.hid hb
  have IH := Lib.hid ih
  have hu' : ¬ -(u : Int) > -10 := by omega
  have hl := dec_len64 (u / 10) (by omega)
  clear hb hd ih
  go_enter Tryz.func80, Tryz.ntmps80
  go_wp2_with fail
  rw [show -((u : Int) / 10) = -((u / 10 : Nat) : Int) from by omega]
  refine (IH.out _).mono ?_; rintro e w1 ⟨rfl, hb1⟩
  go_wp2_with fail
  refine (HB.out _).mono ?_; rintro e w2 ⟨rfl, hb2⟩
  go_wp2
  go_ret
  exact ⟨congrArg (fun s => Ending.returned (.string s)) (cat _ [c]), hb1.trans (hb2.mono hb1.size)⟩

theorem below_any (u : Nat) (hm : u ≤ 1000000000000000000) : ∀ w, Calls Tryz.prog 80 #[.int .i64 (-(u : Int))] w fun e w' => e = .returned (.string ⟨(Lib.decDigits u).toArray⟩) ∧ Below w.heap.size w w' := by
  induction u using Nat.strongRecOn with
  | ind u ih =>
    intro w
    by_cases h : u < 10
    · exact below_zero u h w
    · exact below_step u (by omega) hm w (ih (u / 10) (by omega) (by omega))

set_option maxHeartbeats 400000 in
theorem decimal_any (u : Nat) (hm : u ≤ 1000000000000000000) (w : World) :
    Calls Tryz.prog 45 #[.int .i64 (u : Int)] w fun e w' => e = .returned (.string ⟨(Lib.decDigits u).toArray⟩) ∧ Below w.heap.size w w' := by
  have hb := below_any u hm w
  have HB := Lib.hid hb
  clear hb
  go_enter Tryz.func45, Tryz.ntmps45
  go_wp2_with fail
  refine HB.out.mono ?_; rintro e w' ⟨rfl, hb⟩
  go_wp2
  go_ret
  exact ⟨rfl, hb⟩

end Ref
end Go.Proofs.YtmlndamkcipebaaGreatDoor
namespace Go.Proofs.YtmlndamkcipebaaGreatDoor
open Go Go.RowKit Lmd
namespace Rf
open Rul Day Tp Cand

/-- the number of digits, so many at most, without needless zeros -/
def refNum (D : List UInt8) (most : Nat) : Int :=
  if D.length < 1 ∨ most < D.length ∨ (1 < D.length ∧ D[0]? = some 48) then -1 else if Cal.digs D = true then Cal.numV D else -1
theorem dec_head : ∀ u : Nat, 1 ≤ u → (Lib.decDigits u)[0]? ≠ some 48 := by
  intro u
  induction u using Nat.strongRecOn with
  | ind u ih =>
    intro h
    unfold Lib.decDigits
    split
    · rename_i h9
      intro e
      have e2 : UInt8.ofNat (48 + u) = 48 := by simpa using e
      have := congrArg UInt8.toNat e2
      rw [UInt8.toNat_ofNat'] at this
      have h48 : (48 : UInt8).toNat = 48 := rfl
      omega
    · have h1 := ih (u / 10) (by omega) (by omega)
      have hne := dec_ne (u / 10)
      rw [List.getElem?_append_left (List.length_pos_iff.2 hne)]
      exact h1
theorem dec_digs (u : Nat) : Cal.digs (Lib.decDigits u) = true := by
  unfold Cal.digs
  rw [List.all_eq_true]
  intro c hc
  exact isD_yes (dec_dig u c hc)
theorem dec_num (u : Nat) : Cal.numV (Lib.decDigits u) = (u : Int) := by
  induction u using Nat.strongRecOn with
  | ind u ih =>
    unfold Lib.decDigits
    split
    · rename_i h9
      have h : (UInt8.ofNat (48 + u)).toNat = 48 + u := by rw [UInt8.toNat_ofNat']; omega
      simp only [Cal.numV, List.foldl, h]
      omega
    · have h : (UInt8.ofNat (48 + u % 10)).toNat = 48 + u % 10 := by rw [UInt8.toNat_ofNat']; omega
      rw [Cal.numV_snoc, ih (u / 10) (by omega), h]
      omega
theorem isD_of {c : UInt8} (h : Cal.isD c = true) : 48 ≤ c.toNat ∧ c.toNat ≤ 57 := by
  unfold Cal.isD at h
  exact of_decide_eq_true h
theorem ofNat_self (c : UInt8) : UInt8.ofNat c.toNat = c := by
  apply UInt8.toNat_inj.1
  rw [UInt8.toNat_ofNat']
  have := c.toNat_lt
  omega
/-- digits without a zero ahead are written so -/
theorem dig_back : ∀ (k : Nat) (D : List UInt8), D.length = k → D ≠ [] → Cal.digs D = true → D[0]? ≠ some 48 → 1 ≤ Cal.numV D ∧ Lib.decDigits (Cal.numV D).toNat = D := by
  intro k
  induction k with
  | zero => intro D h hn; exact absurd (List.length_eq_zero_iff.1 h) hn
  | succ k ih =>
    intro D h hn hd h0
    obtain ⟨E, c, rfl⟩ : ∃ l' c, D = l' ++ [c] := ⟨D.dropLast, D.getLast hn, (List.dropLast_concat_getLast hn).symm⟩
    rw [Cal.digs_snoc, Bool.and_eq_true] at hd
    obtain ⟨hd1, hd2⟩ := hd
    have hc := isD_of hd2
    rw [Cal.numV_snoc]
    by_cases he : E = []
    · subst he
      have hne : c ≠ 48 := fun e => h0 (by rw [e]; rfl)
      have hne2 : c.toNat ≠ 48 := fun e => hne (UInt8.toNat_inj.1 e)
      have e0 : Cal.numV [] = 0 := rfl
      rw [e0]
      have e1 : (10 * 0 + ((c.toNat : Int) - 48)).toNat = c.toNat - 48 := by omega
      refine ⟨by omega, ?_⟩
      rw [e1, Lib.decDigits_one (by omega)]
      have e2 : 48 + (c.toNat - 48) = c.toNat := by omega
      rw [e2, ofNat_self]; rfl
    · have hE0 : E[0]? ≠ some 48 := by
        intro e
        apply h0
        rw [List.getElem?_append_left (List.length_pos_iff.2 he)]
        exact e
      obtain ⟨i1, i2⟩ := ih E (by simpa using h) he hd1 hE0
      refine ⟨by omega, ?_⟩
      unfold Lib.decDigits
      rw [dif_neg (by omega)]
      have e1 : (10 * Cal.numV E + ((c.toNat : Int) - 48)).toNat / 10 = (Cal.numV E).toNat := by omega
      have e2 : 48 + (10 * Cal.numV E + ((c.toNat : Int) - 48)).toNat % 10 = c.toNat := by omega
      rw [e1, e2, i2, ofNat_self]
theorem digs_zero : Lib.decDigits 0 = [48] := by
  rw [Lib.decDigits_one (by omega)]; rfl
/-- what NumberOf answers, of nine digits at most -/
theorem refNum_nine (D : List UInt8) : refNum D 9 = if numOk D = true then numIs D else -1 := by
  by_cases hok : numOk D = true
  · obtain ⟨h0, h1, h2⟩ := num_of hok
    obtain ⟨u, hu⟩ : ∃ u : Nat, numIs D = (u : Int) := ⟨(numIs D).toNat, by omega⟩
    rw [hu, Lib.itoa_nonneg] at h2
    rw [if_pos hok, hu]
    have hl1 := dec_len_le 8 u (by omega)
    have hl2 := List.length_pos_iff.2 (dec_ne u)
    unfold refNum
    rw [← h2, dec_num, dec_digs, if_pos rfl]
    rw [if_neg]
    rintro (h | h | ⟨h, h3⟩)
    · omega
    · omega
    · by_cases hz : u = 0
      · subst hz; rw [digs_zero] at h; simp at h
      · exact dec_head u (by omega) h3
  · rw [if_neg hok]
    unfold refNum
    split
    · rfl
    · rename_i hn
      split
      · rename_i hd
        exfalso
        apply hok
        have hne : D ≠ [] := by intro e; subst e; simp at hn
        have hb : D.length ≤ 9 := by omega
        have key : Lib.itoa (Cal.numV D) = D ∧ 0 ≤ Cal.numV D := by
          by_cases h48 : D[0]? = some 48
          · have hl : D.length = 1 := by
              have := List.length_pos_iff.2 hne
              rcases Nat.lt_or_ge 1 D.length with h | h
              · exact absurd (Or.inr (Or.inr ⟨h, h48⟩)) hn
              · omega
            obtain ⟨c, rfl⟩ := List.length_eq_one_iff.1 hl
            have hc : c = 48 := by simpa using h48
            subst hc
            have e : Cal.numV [48] = ((0 : Nat) : Int) := rfl
            rw [e, Lib.itoa_nonneg, digs_zero]
            exact ⟨rfl, by omega⟩
          · obtain ⟨h1, h2⟩ := dig_back _ D rfl hne hd h48
            refine ⟨?_, by omega⟩
            have e : Cal.numV D = ((Cal.numV D).toNat : Int) := by omega
            rw [e, Lib.itoa_nonneg]
            exact h2
        have hbd := Cal.numV_bd _ D rfl hd
        have hp : (10 : Int) ^ D.length ≤ 10 ^ 9 := by
          have h : (10 : Nat) ^ D.length ≤ 10 ^ 9 := Nat.pow_le_pow_right (by omega) hb
          exact_mod_cast h
        have e9 : (10 : Int) ^ 9 = 1000000000 := by decide
        have h := (num_back (Cal.numV D) key.2 (by omega)).1
        rwa [key.1] at h
      · rfl
/-- where a sign stands first -/
def posL (c : UInt8) (l : List UInt8) : Nat := (Lib.cut l [c]).1.length
theorem pos_cases (c : UInt8) (l : List UInt8) : (posL c l < l.length ∧ (Lib.cut l [c]).2.2 = true ∧ l[posL c l]? = some c ∧ l.take (posL c l) = (Lib.cut l [c]).1 ∧ l.drop (posL c l + 1) = lenR c l) ∨ (posL c l = l.length ∧ (Lib.cut l [c]).2.2 = false) := by
  by_cases h : c ∈ l
  · obtain ⟨a, r, e, ha⟩ := split_at h
    left
    unfold posL lenR
    rw [e, cut_hit ha]
    simp
  · right
    unfold posL
    rw [cut_miss h]
    exact ⟨rfl, rfl⟩
theorem pos_ne (c : UInt8) (l : List UInt8) (j : Nat) (h : j < posL c l) : ∃ x, l[j]? = some x ∧ x ≠ c := by
  by_cases hm : c ∈ l
  · obtain ⟨a, r, e, ha⟩ := split_at hm
    have hp : posL c l = a.length := by unfold posL; rw [e, cut_hit ha]
    rw [hp] at h
    refine ⟨a[j], by rw [e, List.getElem?_append_left h]; exact List.getElem?_eq_getElem h, fun e2 => ha (by rw [← e2]; exact List.getElem_mem h)⟩
  · have hp : posL c l = l.length := by unfold posL; rw [cut_miss hm]
    rw [hp] at h
    exact ⟨l[j], List.getElem?_eq_getElem h, fun e2 => hm (by rw [← e2]; exact List.getElem_mem h)⟩
theorem pos_le (c : UInt8) (l : List UInt8) : posL c l ≤ l.length := by
  rcases pos_cases c l with h | h
  · omega
  · omega
/-- what Head answers -/
def hdN (c : UInt8) (l : List UInt8) : Int := if lenOk c l = true then lenN c l else -1
def hdK (c : UInt8) (l : List UInt8) : Nat := if posL c l < l.length then posL c l + 1 else 0
theorem hd_num (c : UInt8) (l : List UInt8) (h : posL c l < l.length) : refNum (l.take (posL c l)) 9 = hdN c l := by
  rcases pos_cases c l with ⟨_, h2, _, h4, _⟩ | ⟨h1, _⟩
  · rw [h4, refNum_nine]
    unfold hdN lenOk lenN
    rw [h2, Bool.true_and]
  · omega
theorem hd_none (c : UInt8) (l : List UInt8) (h : ¬ posL c l < l.length) : hdN c l = -1 ∧ hdK c l = 0 := by
  rcases pos_cases c l with ⟨h1, _⟩ | ⟨_, h2⟩
  · exact absurd h1 h
  · unfold hdN hdK lenOk
    rw [h2, if_neg h]
    simp
theorem hd_drop {c : UInt8} {l : List UInt8} (h : 0 ≤ hdN c l) : lenOk c l = true ∧ hdN c l = lenN c l ∧ l.drop (hdK c l) = lenR c l ∧ hdK c l ≤ l.length ∧ 1 ≤ hdK c l ∧ lenN c l < 1000000000 := by
  unfold hdN at h ⊢
  split at h
  · rename_i h1
    have h2 := h1
    unfold lenOk at h2
    simp only [Bool.and_eq_true] at h2
    rcases pos_cases c l with ⟨g1, _, _, _, g5⟩ | ⟨_, g2⟩
    · refine ⟨h1, if_pos h1, ?_, ?_, ?_, (len_split h1).2.2⟩
      · unfold hdK; rw [if_pos g1]; exact g5
      · unfold hdK; rw [if_pos g1]; exact g1
      · unfold hdK; rw [if_pos g1]; omega
    · rw [g2] at h2; exact absurd h2.1 (by simp)
  · omega
theorem hd_neg {c : UInt8} {l : List UInt8} (h : ¬ 0 ≤ hdN c l) : lenOk c l = false ∧ hdN c l = -1 := by
  unfold hdN at h ⊢
  cases hl : lenOk c l with
  | false => exact ⟨rfl, by simp⟩
  | true =>
    rw [hl, if_pos rfl] at h
    exact absurd (len_split hl).2.1 h
end Rf
end Go.Proofs.YtmlndamkcipebaaGreatDoor
namespace Go.Proofs.YtmlndamkcipebaaGreatDoor
open Go Go.RowKit Lmd
namespace Rf
open Rul Day Tp Cand

theorem pow17 (k : Nat) (h : k ≤ 17) : (10 : Int) ^ k ≤ 100000000000000000 := by
  have h : (10 : Nat) ^ k ≤ 10 ^ 17 := Nat.pow_le_pow_right (by omega) h
  have e : (10 : Nat) ^ 17 = 100000000000000000 := by decide
  have h2 : ((10 ^ k : Nat) : Int) ≤ ((10 ^ 17 : Nat) : Int) := by exact_mod_cast h
  rw [e] at h2
  simpa using h2
set_option maxRecDepth 100000 in
set_option maxHeartbeats 1000000 in
theorem numberOf_any (D : List UInt8) (most : Nat) (w : World) (hm : most ≤ 17) (hD : D.length ≤ 9223372036854775807) :
    Calls Tryz.prog 62 #[.string (mk D), .int .i64 (most : Int)] w fun e w' => e = .returned (.int .i64 (refNum D most)) ∧ ∃ q, w' = w.drewN q := by
  obtain ⟨S, hS⟩ : ∃ S, mk D = S := ⟨_, rfl⟩
  have hsz : S.size = D.length := by rw [← hS]; rfl
  have hSD : S.data.toList = D := by rw [← hS]
  rw [hS]
  have HSD := Lib.hid hSD
  have HSZ := Lib.hid hsz
  clear hS hSD
  by_cases h1 : D.length < 1
  · have hr : refNum D most = -1 := by unfold refNum; rw [if_pos (.inl h1)]
    have HR := Lib.hid hr
    have hz1 : (S.size : Int) < 1 := by omega
    clear hr hsz
    go_enter Tryz.func62, Tryz.ntmps62
    go_wp2
    go_ret
    exact ⟨by rw [HR.out]; rfl, 0, rfl⟩
  by_cases h2 : most < D.length
  · have hr : refNum D most = -1 := by unfold refNum; rw [if_pos (.inr (.inl h2))]
    have HR := Lib.hid hr
    have hz1 : ¬ (S.size : Int) < 1 := by omega
    have hz2 : (most : Int) < (S.size : Int) := by omega
    clear hr hsz
    go_enter Tryz.func62, Tryz.ntmps62
    go_wp2
    go_ret
    exact ⟨by rw [HR.out]; rfl, 0, rfl⟩
  have hz1 : ¬ (S.size : Int) < 1 := by omega
  have hz2 : ¬ (most : Int) < (S.size : Int) := by omega
  have h0 : 0 < S.size := by omega
  obtain ⟨x, hx⟩ : ∃ x, D[0]? = some x := ⟨_, List.getElem?_eq_getElem (by omega)⟩
  have hSx : (S[0] : UInt8) = x := at_of S 0 x h0 (by rw [HSD.out]; exact hx)
  have HX := Lib.hid hx
  have H1 := Lib.hid h1
  have H2 := Lib.hid h2
  clear hx h1 h2
  by_cases h3 : 1 < D.length ∧ D[0]? = some 48
  · have hr : refNum D most = -1 := by unfold refNum; rw [if_pos (.inr (.inr h3))]
    have HR := Lib.hid hr
    obtain rfl : x = 48 := by have h := HX.out; rw [h3.2] at h; exact (Option.some.inj h).symm
    have hz3 : (1 : Int) < (S.size : Int) := by omega
    clear hr h3 hsz
    go_enter Tryz.func62, Tryz.ntmps62
    go_wp2_with fail
    go_ret
    exact ⟨by rw [HR.out]; rfl, 0, rfl⟩
  have hr : refNum D most = if Cal.digs D = true then Cal.numV D else -1 := by
    unfold refNum
    rw [if_neg]
    rintro (h | h | h)
    · exact H1.out h
    · exact H2.out h
    · exact h3 h
  have HR := Lib.hid hr
  have hsm : S.size ≤ 17 := by omega
  have hq : (1 : Int) < (S.size : Int) → ((x.toNat : Int) == 48) = false := by
    intro h
    rw [beq_eq_false_iff_ne]
    intro e
    apply h3
    refine ⟨by omega, ?_⟩
    rw [HX.out]
    congr 1
    exact UInt8.toNat_inj.1 (by show x.toNat = 48; omega)
  have HQ := Lib.hid hq
  clear hr h3 hq hsz
  go_enter Tryz.func62, Tryz.ntmps62
  by_cases h4 : (1 : Int) < (S.size : Int)
  all_goals (
    first
      | have hq2 := HQ.out h4
      | skip
    go_wp2_with fail
    go_loopw [5, 6] (fun n i wr => ∃ k q : Nat, k ≤ S.size ∧ n = .int .i64 (Cal.numV (D.take k)) ∧ i = .int .i64 k ∧ Cal.digs (D.take k) = true ∧ wr = w.drewN q) (fun _ i _ => S.size - (intOf i).toNat)
    case atStart => exact ⟨0, 0, Nat.zero_le _, rfl, rfl, rfl, rfl⟩
    case round =>
      obtain ⟨k, q, hk, rfl, rfl, hd, rfl⟩ := hrel
      have hb := Cal.numV_bd k (D.take k) (by rw [List.length_take]; have := HSZ.out; omega) hd
      have hp := pow17 k (by omega)
      obtain ⟨N, hN⟩ : ∃ N, Cal.numV (D.take k) = N := ⟨_, rfl⟩
      have hN0 : 0 ≤ N := by rw [← hN]; exact hb.1
      have hN1 : N ≤ 100000000000000000 := by rw [← hN]; exact Int.le_trans (Int.le_of_lt hb.2) hp
      rw [hN]
      have HN := Lib.hid hN
      have HD := Lib.hid hd
      clear hd hb hp hN
      by_cases hlt : k < S.size
      · obtain ⟨y, hy⟩ : ∃ y, D[k]? = some y := ⟨_, List.getElem?_eq_getElem (by have := HSZ.out; omega)⟩
        have hSy : (S[k] : UInt8) = y := at_of S k y hlt (by rw [HSD.out]; exact hy)
        have hts : D.take (k + 1) = D.take k ++ [y] := by
          obtain ⟨h1, h2⟩ := List.getElem?_eq_some_iff.1 hy
          rw [List.take_succ_eq_append_getElem h1, h2]
        have HTS := Lib.hid hts
        have hi1 : (k : Int) < (S.size : Int) := by omega
        clear hts hy
        by_cases hdg : 48 ≤ y.toNat ∧ y.toNat ≤ 57
        · have HG := Lib.hid (isD_yes hdg)
          obtain ⟨d1, d2⟩ := hdg
          go_wp2_with fail
          go_roundw
          case rel => exact ⟨k + 1, q, by omega, by rw [HTS.out, Cal.numV_snoc, HN.out], by go_num, by rw [HTS.out, Cal.digs_snoc, HD.out, HG.out]; rfl, rfl⟩
          case measure => simp [intOf]; omega
        · have HG := Lib.hid (isD_no hdg)
          have HNO : Hid (Cal.digs D = false) := digs_take _ (k + 1) (by rw [HTS.out, Cal.digs_snoc, HG.out, Bool.and_false])
          by_cases d1 : y.toNat < 48
          · clear hdg
            go_wp2_with fail
            go_ret
            exact ⟨by rw [HR.out, HNO.out]; rfl, q, rfl⟩
          · have d2 : 57 < y.toNat := by omega
            clear hdg
            go_wp2_with fail
            go_ret
            exact ⟨by rw [HR.out, HNO.out]; rfl, q, rfl⟩
      · have hi1 : ¬ (k : Int) < (S.size : Int) := by omega
        have HT : Hid (D.take k = D) := List.take_of_length_le (by have := HSZ.out; omega)
        go_wp2_with fail
        go_ret
        refine ⟨?_, q, rfl⟩
        rw [HT.out] at HD HN
        rw [HR.out, HD.out, if_pos rfl, HN.out]; rfl)
/-- the walk of Head -/
theorem head_any (c : UInt8) (l : List UInt8) (w : World) (hl : l.length ≤ 9223372036854775000) :
    Calls Tryz.prog 49 #[.string (mk l), .int .u8 (c.toNat : Int)] w fun e w' => e = .returned (.tuple #[.int .i64 (hdN c l), .int .i64 (hdK c l : Nat)]) ∧ ∃ q, w' = w.drewN q := by
  obtain ⟨S, hS⟩ : ∃ S, mk l = S := ⟨_, rfl⟩
  have hsz : S.size = l.length := by rw [← hS]; rfl
  have hSD : S.data.toList = l := by rw [← hS]
  rw [hS]
  have HSD := Lib.hid hSD
  have HSZ := Lib.hid hsz
  have hpl := pos_le c l
  have hpl2 : posL c l ≤ S.size := by omega
  clear hS hSD hsz
  obtain ⟨P, hP⟩ : ∃ P, posL c l = P := ⟨_, rfl⟩
  rw [hP] at hpl hpl2
  have HP := Lib.hid hP
  clear hP
  go_enter Tryz.func49, Tryz.ntmps49
  go_wp2_with fail
  go_loopw [6] (fun i wr => ∃ k q : Nat, k ≤ P ∧ i = .int .i64 k ∧ wr = w.drewN q) (fun i _ => P - (intOf i).toNat)
  case atStart => exact ⟨0, 0, Nat.zero_le _, rfl, rfl⟩
  case round =>
    obtain ⟨k, q, hk, rfl, rfl⟩ := hrel
    by_cases hlt : k < P
    · obtain ⟨y, hy, hne⟩ := pos_ne c l k (by rw [HP.out]; exact hlt)
      have hkS : k < S.size := by omega
      have hSy : (S[k] : UInt8) = y := at_of S k y hkS (by rw [HSD.out]; exact hy)
      have hi1 : (k : Int) < (S.size : Int) := by omega
      have hn1 : ((y.toNat : Int) != (c.toNat : Int)) = true := by
        rw [bne_iff_ne]
        intro e
        exact hne (UInt8.toNat_inj.1 (by omega))
      clear hy hne
      go_wp2_with fail
      go_roundw
      case rel => exact ⟨k + 1, q, by omega, by go_num, rfl⟩
      case measure => simp [intOf]; omega
    · obtain rfl : k = P := by omega
      by_cases hin : k < S.size
      · rcases pos_cases c l with ⟨_, _, h3, h4, _⟩ | ⟨h1, _⟩
        · rw [HP.out] at h3
          have hSy : (S[k] : UInt8) = c := at_of S k c hin (by rw [HSD.out]; exact h3)
          have hi1 : (k : Int) < (S.size : Int) := by omega
          have hi2 : ((k : Int) == (S.size : Int)) = false := by rw [beq_eq_false_iff_ne]; omega
          have hn1 : ((c.toNat : Int) != (c.toNat : Int)) = false := by simp
          have hext : S.extract 0 k = mk (l.take k) := mk_of (by rw [ext_take, HSD.out])
          have hnum := hd_num c l (by rw [HP.out]; have := HSZ.out; omega)
          rw [HP.out] at hnum
          have hno : ∀ W, Calls Tryz.prog 62 #[.string (mk (l.take k)), .int .i64 9] W fun e w' => e = .returned (.int .i64 (refNum (l.take k) 9)) ∧ ∃ q, w' = W.drewN q := fun W => numberOf_any (l.take k) 9 W (by omega) (by rw [List.length_take]; have := HSZ.out; omega)
          have hk9 : hdK c l = k + 1 := by unfold hdK; rw [HP.out, if_pos (by have := HSZ.out; omega)]
          have HNO := Lib.hid hno
          have HNUM := Lib.hid hnum
          have HK9 := Lib.hid hk9
          clear h3 h4 hnum hno hk9
          go_wp2_with fail
          (with_reducible refine (HNO.out _).mono ?_)
          rintro e1 w1 ⟨rfl, q1, rfl⟩
          go_wp2_with fail
          go_ret2
          exact ⟨by rw [HNUM.out, HK9.out]; rfl, _, by first | rfl | exact World.drewN_drewN _ _ _⟩
        · exfalso
          rw [HP.out] at h1
          have := HSZ.out
          omega
      · have hi1 : ¬ (k : Int) < (S.size : Int) := by omega
        have hks : (k : Int) = (S.size : Int) := by omega
        have hi2 : ((k : Int) == (S.size : Int)) = true := by simpa using hks
        obtain ⟨h1, h2⟩ := hd_none c l (by rw [HP.out]; have := HSZ.out; omega)
        have H1 := Lib.hid h1
        have H2 := Lib.hid h2
        clear h1 h2 hks
        go_wp2_with fail
        go_ret2
        exact ⟨by rw [H1.out, H2.out]; rfl, q, rfl⟩
end Rf
end Go.Proofs.YtmlndamkcipebaaGreatDoor
