/- A length at the beginning of a text; records. -/
import Derived.Test.YtmlndamkcipebaaGreatDoorNumPlain
import Derived.Lib.IndexMore
namespace Go.Proofs.YtmlndamkcipebaaGreatDoor
open Go Go.RowKit Go.Shelf Lmd
namespace Tp
open Rul

theorem cut_miss {c : UInt8} {l : List UInt8} (h : c ∉ l) : Lib.cut l [c] = (l, [], false) := by
  have hx : Lib.index l [c] = -1 := (Lib.index_one l c).trans (ix_none h)
  simp [Lib.cut, hx]
theorem cut_hit {c : UInt8} {a r : List UInt8} (h : c ∉ a) : Lib.cut (a ++ c :: r) [c] = (a, r, true) := by
  have hx : Lib.index (a ++ c :: r) [c] = (a.length : Int) := (Lib.index_one _ c).trans (ix_some h)
  simp [Lib.cut, hx]
theorem split_at {c : UInt8} : ∀ {l : List UInt8}, c ∈ l → ∃ a r, l = a ++ c :: r ∧ c ∉ a
  | b :: l, h => by
    by_cases hb : b = c
    · exact ⟨[], l, by rw [hb]; rfl, by simp⟩
    · have h1 : c ∈ l := by
        rcases List.mem_cons.1 h with e | e
        · exact absurd e.symm hb
        · exact e
      obtain ⟨a, r, e, h2⟩ := split_at h1
      exact ⟨b :: a, r, by rw [e]; rfl, by simp [h2, Ne.symm hb]⟩

/-! a length at the beginning of a text -/
def lenOk (c : UInt8) (l : List UInt8) : Bool := (Lib.cut l [c]).2.2 && numOk (Lib.cut l [c]).1
def lenN (c : UInt8) (l : List UInt8) : Int := numIs (Lib.cut l [c]).1
def lenR (c : UInt8) (l : List UInt8) : List UInt8 := (Lib.cut l [c]).2.1
theorem num_of {l : List UInt8} (h : numOk l = true) : 0 ≤ numIs l ∧ numIs l < 1000000000 ∧ Lib.itoa (numIs l) = l := by
  unfold numOk numIs at *
  split at h
  · rename_i v hv
    simp only [Bool.and_eq_true, decide_eq_true_eq] at h
    obtain ⟨⟨h1, h2⟩, h3⟩ := h
    refine ⟨h2, ?_, h3⟩
    obtain ⟨u, rfl⟩ : ∃ u : Nat, v = (u : Int) := ⟨v.toNat, by omega⟩
    have h4 : (Lib.decDigits u).length ≤ 9 := by rw [← Lib.itoa_nonneg, h3]; exact h1
    have := dec_len_ge 9 u h4
    omega
  · cases h
theorem len_split {c : UInt8} {l : List UInt8} (h : lenOk c l = true) : l = Lib.itoa (lenN c l) ++ c :: lenR c l ∧ 0 ≤ lenN c l ∧ lenN c l < 1000000000 := by
  unfold lenOk lenN lenR at *
  simp only [Bool.and_eq_true] at h
  obtain ⟨h1, h2⟩ := num_of h.2
  obtain ⟨h2, h3⟩ := h2
  refine ⟨?_, h1, h2⟩
  rw [h3]
  by_cases hm : c ∈ l
  · obtain ⟨a, r, e, ha⟩ := split_at hm
    rw [e, cut_hit ha]
  · rw [cut_miss hm] at h
    exact absurd h.1 (by simp)
theorem len_of {c : UInt8} (hc : ¬ (48 ≤ c.toNat ∧ c.toNat ≤ 57)) {n : Int} (h0 : 0 ≤ n) (h1 : n < 1000000000) (r : List UInt8) : lenOk c (Lib.itoa n ++ c :: r) = true ∧ lenN c (Lib.itoa n ++ c :: r) = n ∧ lenR c (Lib.itoa n ++ c :: r) = r := by
  have hn := num_back n h0 h1
  have hf := itoa_free (n := n) h0 hc
  unfold lenOk lenN lenR
  rw [cut_hit hf]
  exact ⟨by simp [hn.1], hn.2, rfl⟩

/-! records -/
def recL (s : List UInt8) : List UInt8 := Lib.itoa (s.length : Int) ++ 58 :: (s ++ [10, 46])
def oneB (b : List UInt8) : Bool := lenOk 58 b && decide (lenN 58 b ≤ 10000) && decide (lenN 58 b + 2 ≤ ((lenR 58 b).length : Int)) && decide (((lenR 58 b).drop (lenN 58 b).toNat).take 2 = [10, 46])
def oneS (b : List UInt8) : List UInt8 := (lenR 58 b).take (lenN 58 b).toNat
theorem one_some {b : List UInt8} (h : oneB b = true) : (∃ r, b = recL (oneS b) ++ r) ∧ (oneS b).length ≤ 10000 ∧ ((oneS b).length : Int) = lenN 58 b := by
  simp only [oneB, Bool.and_eq_true, decide_eq_true_eq] at h
  obtain ⟨⟨⟨h1, h2⟩, h3⟩, h4⟩ := h
  obtain ⟨h5, h6, h7⟩ := len_split h1
  have hl : ((oneS b).length : Int) = lenN 58 b := by
    unfold oneS
    rw [List.length_take]; omega
  refine ⟨⟨((lenR 58 b).drop (lenN 58 b).toNat).drop 2, ?_⟩, by omega, hl⟩
  have h8 : lenR 58 b = oneS b ++ ([10, 46] ++ ((lenR 58 b).drop (lenN 58 b).toNat).drop 2) := by
    rw [← h4, List.take_append_drop]
    exact (List.take_append_drop _ _).symm
  unfold recL
  rw [hl]
  conv => lhs; rw [h5]
  conv => lhs; rw [h8]
  simp
theorem one_rec (s r : List UInt8) (hs : s.length ≤ 10000) : oneB (recL s ++ r) = true ∧ oneS (recL s ++ r) = s := by
  have e : recL s ++ r = Lib.itoa (s.length : Int) ++ 58 :: (s ++ ([10, 46] ++ r)) := by simp [recL]
  obtain ⟨h1, h2, h3⟩ := len_of (c := 58) (by decide) (n := (s.length : Int)) (by omega) (by omega) (s ++ ([10, 46] ++ r))
  rw [e]
  unfold oneB oneS
  rw [h1, h2, h3]
  constructor
  · simp; omega
  · simp
theorem recL_inj {s t : List UInt8} (hs : s.length ≤ 10000) (ht : t.length ≤ 10000) {p q : List UInt8} (h : recL s ++ p = recL t ++ q) : s = t ∧ p = q := by
  have h1 := (one_rec s p hs).2
  rw [h, (one_rec t q ht).2] at h1
  subst h1
  exact ⟨rfl, List.append_cancel_left h⟩
theorem one_pre {s p q : List UInt8} (hs : s.length ≤ 10000) (h : recL s = p ++ q) (hq : q ≠ []) : oneB p = false := by
  cases ho : oneB p with
  | false => rfl
  | true =>
    obtain ⟨⟨r, hr⟩, hl, _⟩ := one_some ho
    have : recL s ++ [] = recL (oneS p) ++ (r ++ q) := by rw [List.append_nil, h, ← List.append_assoc, ← hr]
    have h2 := (recL_inj hs hl this).2
    have : q = [] := by
      have := List.append_eq_nil_iff.1 h2.symm
      exact this.2
    exact absurd this hq
theorem recL_pos (s : List UInt8) : 4 ≤ (recL s).length := by
  have : 0 < (Lib.itoa (s.length : Int)).length := by
    rw [Lib.itoa_nonneg]; exact List.length_pos_iff.2 (dec_ne _)
  simp [recL]; omega
theorem recL_le (s : List UInt8) (hs : s.length ≤ 10000) : (recL s).length ≤ s.length + 8 := by
  have : (Lib.itoa (s.length : Int)).length ≤ 5 := by
    rw [Lib.itoa_nonneg]; exact dec_len_le 4 _ (by omega)
  simp [recL]; omega

/-- the records of a text, and how many bytes they have -/
def readT : Nat → List UInt8 → List (List UInt8) × Nat
  | 0, _ => ([], 0)
  | k + 1, b => if oneB b = true then (oneS b :: (readT k (b.drop (recL (oneS b)).length)).1, (recL (oneS b)).length + (readT k (b.drop (recL (oneS b)).length)).2) else ([], 0)
theorem readT_fuel : ∀ (k j : Nat) (b : List UInt8), b.length ≤ k → b.length ≤ j → readT k b = readT j b
  | 0, 0, _, _, _ => rfl
  | 0, j + 1, b, h, _ => by
    have : b = [] := List.length_eq_zero_iff.1 (by omega)
    subst this; rfl
  | k + 1, 0, b, _, h => by
    have : b = [] := List.length_eq_zero_iff.1 (by omega)
    subst this; rfl
  | k + 1, j + 1, b, h1, h2 => by
    simp only [readT]
    split
    · have := recL_pos (oneS b)
      rw [readT_fuel k j _ (by rw [List.length_drop]; omega) (by rw [List.length_drop]; omega)]
    · rfl
def readF (b : List UInt8) : List (List UInt8) × Nat := readT b.length b
theorem readF_no {b : List UInt8} (h : oneB b = false) : readF b = ([], 0) := by
  unfold readF
  cases hb : b.length with
  | zero => rfl
  | succ k => simp [readT, h]
theorem readF_yes (s r : List UInt8) (hs : s.length ≤ 10000) : readF (recL s ++ r) = (s :: (readF r).1, (recL s).length + (readF r).2) := by
  obtain ⟨h1, h2⟩ := one_rec s r hs
  have hp := recL_pos s
  obtain ⟨k, hk⟩ : ∃ k, (recL s ++ r).length = k + 1 := ⟨(recL s ++ r).length - 1, by simp; omega⟩
  unfold readF
  rw [hk]
  simp only [readT, h1, h2, if_true]
  have hd : (recL s ++ r).drop (recL s).length = r := by simp
  rw [hd, readT_fuel k r.length r (by simp at hk; omega) (Nat.le_refl _)]
/-- the records of texts -/
def recsL (l : List (List UInt8)) : List UInt8 := (l.map recL).flatten
theorem readF_recs : ∀ (l : List (List UInt8)) (b : List UInt8), (∀ s ∈ l, s.length ≤ 10000) → readF (recsL l ++ b) = (l ++ (readF b).1, (recsL l).length + (readF b).2)
  | [], b, _ => by simp [recsL]
  | s :: l, b, h => by
    have e : recsL (s :: l) ++ b = recL s ++ (recsL l ++ b) := by simp [recsL]
    rw [e, readF_yes s _ (h s (by simp)), readF_recs l b (fun t ht => h t (by simp [ht]))]
    have e2 : (recsL (s :: l)).length = (recL s).length + (recsL l).length := by simp [recsL]
    rw [e2]
    simp only [List.cons_append, Nat.add_assoc]
theorem readF_nil : readF [] = ([], 0) := rfl
theorem recsL_snoc (l : List (List UInt8)) (s : List UInt8) : recsL (l ++ [s]) = recsL l ++ recL s := by simp [recsL]
end Tp
end Go.Proofs.YtmlndamkcipebaaGreatDoor
namespace Go.Proofs.YtmlndamkcipebaaGreatDoor
open Go Go.RowKit Lmd
namespace Tp
open Rul Day

/-- what lies behind pool.Length -/
def LenPost (c : UInt8) (l : List UInt8) (w : World) (e' : Ending) (w' : World) : Prop :=
  ∃ n, e' = .returned (.tuple #[.int .i64 n, .string (mk (lenR c l)), .bool (lenOk c l)]) ∧ (lenOk c l = true → n = lenN c l) ∧ Below w.heap.size w w'
theorem atoi_any (s : ByteArray) (w : World) (hs : s.size ≤ 2000000) (hE : ELib w) :
    Calls Tryz.prog 87 #[.string s] w fun e w' => ∃ n er, e = .returned (.tuple #[.int .i64 n, er]) ∧ ((∃ v, Lib.atoiAll s.data.toList = .ok v ∧ n = v ∧ er = .nilIface) ∨ (numOk s.data.toList = false ∧ ∃ N, er = .iface 189 (.pointer (some ⟨N, 0, none⟩)))) ∧ Below w.heap.size w w' := by
  rcases h : Lib.atoiAll s.data.toList with v | _ | _
  · refine (Tryz.strconv_Atoi_ok s (by omega) v h w).mono ?_
    rintro e w' ⟨rfl, (rfl | ⟨t, rfl⟩)⟩
    · exact ⟨v, _, rfl, .inl ⟨v, rfl, rfl, rfl⟩, Below.refl _ _⟩
    · exact ⟨v, _, rfl, .inl ⟨v, rfl, rfl, rfl⟩, Lib.bytesWorld_below _ _ _⟩
  · have hq : numOk s.data.toList = false := by unfold numOk; rw [h]
    obtain ⟨tp, p, hv⟩ := hE.sy
    refine (Any.strconv_Atoi_syntax_var Tryz.laysC172 s (by omega) h tp p w hv).mono ?_
    rintro e w' ⟨N, rfl, _, _, hb⟩
    exact ⟨0, _, rfl, .inr ⟨hq, N, rfl⟩, hb⟩
  · have hq : numOk s.data.toList = false := by unfold numOk; rw [h]
    obtain ⟨tp, p, hv⟩ := hE.ra
    refine (Any.strconv_Atoi_range_var Tryz.laysC172 s (by omega) h tp p w hv).mono ?_
    rintro e w' ⟨N, rfl, _, _, hb⟩
    exact ⟨_, _, rfl, .inr ⟨hq, N, rfl⟩, hb⟩
theorem cut_len (l : List UInt8) (c : UInt8) : (Lib.cut l [c]).1.length ≤ l.length := by
  unfold Lib.cut
  split
  · rw [List.length_take]; omega
  · exact Nat.le_refl _

set_option maxRecDepth 100000 in
set_option maxHeartbeats 2000000 in
theorem length_any (s : ByteArray) (m : Int) (w : World) (hs : s.size ≤ 2000000) (hE : ELib w) (htab : Lib.TabIs Tryz.prog w "internal/strconv.uint64pow10" .u64 Lib.pow10Tab) (hm : w.cell? ⟨13, 0, none⟩ = some (.int .i64 m)) :
    Calls Tryz.prog 81 #[.string s] w (LenPost 58 s.data.toList w) := by
  have hcl := cut_len s.data.toList 58
  have hcut := Tryz.strings_Cut s ⟨#[58]⟩ m w (by omega) hm
  have e0 : (⟨#[58]⟩ : ByteArray).data.toList = [58] := rfl
  rw [e0] at hcut
  unfold LenPost lenOk lenN lenR
  obtain ⟨D, hD⟩ : ∃ D, (Lib.cut s.data.toList [58]).1 = D := ⟨_, rfl⟩
  obtain ⟨R, hR⟩ : ∃ R, (Lib.cut s.data.toList [58]).2.1 = R := ⟨_, rfl⟩
  obtain ⟨F, hF⟩ : ∃ F, (Lib.cut s.data.toList [58]).2.2 = F := ⟨_, rfl⟩
  rw [hD, hR, hF] at hcut ⊢
  rw [hD] at hcl
  have hsl : s.data.toList.length = s.size := by simp
  have hds : (mk D).size = D.length := by simp [ByteArray.size]
  have hat := fun W (h : Below w.heap.size w W) => atoi_any (mk D) W (by omega) (hE.below h)
  have HCUT := Lib.hid hcut
  have HAT := Lib.hid hat
  have HT := Lib.hid htab
  have hD9 : D.length ≤ 2000000 := by omega
  clear hcut hat htab hE hm hD hR hF e0 hcl hsl hds
  obtain ⟨q, hq⟩ : ∃ q, numOk D = q := ⟨_, rfl⟩
  obtain ⟨x, hx⟩ : ∃ x, numIs D = x := ⟨_, rfl⟩
  rw [hq, hx]
  have HQ := Lib.hid hq
  have HX := Lib.hid hx
  clear hq hx
  cases F with
  | false =>
    go_enter Tryz.func81, Tryz.ntmps81
    go_wp2_with fail
    refine HCUT.out.mono ?_
    rintro e1 w1 ⟨rfl, k, rfl⟩
    have hat := HAT.out (w.drewN k) (below_draw (Below.refl _ w) k)
    have HA := Lib.hid hat
    clear hat
    go_wp2_with fail
    refine HA.out.mono ?_
    rintro e2 w2 ⟨n, er, rfl, _, hb2⟩
    have HB := Lib.hid ((below_draw (Below.refl _ w) k).trans hb2)
    clear hb2
    go_wp2
    go_ret3
    exact ⟨n, rfl, (fun h => by cases h), HB.out⟩
  | true =>
    go_enter Tryz.func81, Tryz.ntmps81
    go_wp2_with fail
    refine HCUT.out.mono ?_
    rintro e1 w1 ⟨rfl, k, rfl⟩
    have HBK := Lib.hid (below_draw (Below.refl w.heap.size w) k)
    have hat := HAT.out (w.drewN k) HBK.out
    have HA := Lib.hid hat
    clear hat
    go_wp2_with fail
    refine HA.out.mono ?_
    rintro e2 w2 ⟨n, er, rfl, hor, hb2⟩
    have HB := Lib.hid (HBK.out.trans hb2)
    clear hb2 HA HAT HCUT
    rcases hor with ⟨v, hv, rfl, rfl⟩ | ⟨hno, N, rfl⟩
    · have hv2 : Lib.atoiAll D = .ok n := hv
      have hq : q = (decide (D.length ≤ 9) && decide (0 ≤ n) && decide (Lib.itoa n = D)) := by rw [← HQ.out]; unfold numOk; rw [hv2]
      have hx : x = n := by rw [← HX.out]; unfold numIs; rw [hv2]
      subst hx
      have hv9 := atoi_le hv2
      have HQ2 := Lib.hid hq
      have hsz : (mk D).size = D.length := by simp [ByteArray.size]
      have HSZ := Lib.hid hsz
      clear hv hv2 hq HQ HX hsz
      by_cases h9 : D.length ≤ 9
      · by_cases h0 : 0 ≤ x
        · by_cases hi : Lib.itoa x = D
          · obtain rfl : q = true := by rw [HQ2.out, decide_eq_true h9, decide_eq_true h0, decide_eq_true hi]; rfl
            have hit := itoa_b x (by omega) hv9 w2 (Frame.tab_below (g := 12) (by kernel_rfl) HB.out HT.out)
            rw [hi] at hit
            have HIT := Lib.hid hit
            clear hit hi HQ2
            go_wp2_with fail
            refine HIT.out.mono ?_
            rintro e3 w3 ⟨rfl, hb3⟩
            have HB3 := Lib.hid (HB.out.trans (hb3.mono HB.out.size))
            clear hb3
            go_wp2
            go_ret3
            exact ⟨_, rfl, fun _ => rfl, HB3.out⟩
          · obtain rfl : q = false := by rw [HQ2.out, decide_eq_false hi, Bool.and_false]
            have hit := itoa_b x (by omega) hv9 w2 (Frame.tab_below (g := 12) (by kernel_rfl) HB.out HT.out)
            have HIT := Lib.hid hit
            have hq : (Lib.itoa x == D) = false := beq_false_of_ne hi
            clear hit HQ2 hi
            go_wp2_with fail
            refine HIT.out.mono ?_
            rintro e3 w3 ⟨rfl, hb3⟩
            have HB3 := Lib.hid (HB.out.trans (hb3.mono HB.out.size))
            clear hb3
            go_wp2
            go_ret3
            first | exact HB3.out | exact ⟨⟨_, rfl⟩, HB3.out⟩ | exact ⟨_, rfl, (fun h => by cases h), HB3.out⟩
        · obtain rfl : q = false := by rw [HQ2.out, decide_eq_false h0, Bool.and_false]; rfl
          clear HQ2
          go_wp2
          go_ret3
          first | exact HB.out | exact ⟨⟨_, rfl⟩, HB.out⟩ | exact ⟨_, rfl, (fun h => by cases h), HB.out⟩
      · obtain rfl : q = false := by rw [HQ2.out, decide_eq_false h9]; rfl
        clear HQ2
        go_wp2
        go_ret3
        first | exact HB.out | exact ⟨⟨_, rfl⟩, HB.out⟩ | exact ⟨_, rfl, (fun h => by cases h), HB.out⟩
    · obtain rfl : q = false := HQ.out.symm.trans hno
      clear hno HQ HX
      go_wp2
      go_ret3
      first | exact HB.out | exact ⟨⟨_, rfl⟩, HB.out⟩ | exact ⟨_, rfl, (fun h => by cases h), HB.out⟩
end Tp
end Go.Proofs.YtmlndamkcipebaaGreatDoor
