/- pack.Unpack. -/
import Derived.Test.YtmlndamkcipebaaGreatDoorPacked
import Derived.Test.YtmlndamkcipebaaGreatDoorPooled
namespace Go.Proofs.YtmlndamkcipebaaGreatDoor
open Go Go.RowKit Lmd
namespace Pk
open Rul Day Tp Cand Pl
/-- the end of a line of a pack: a text of so many bytes, and a line end -/
def bodyX (l : List UInt8) : Bool × List UInt8 × List UInt8 :=
  if lenOk 58 l = true ∧ (lenR 58 l)[(lenN 58 l).toNat]? = some 10 then (true, (lenR 58 l).take (lenN 58 l).toNat, (lenR 58 l).drop ((lenN 58 l).toNat + 1)) else (false, [], [])
/-- a line by a delta -/
def viaX (xs : List (List UInt8)) (l : List UInt8) : Nat × List UInt8 × List UInt8 :=
  if lenOk 58 l = true ∧ (bodyX (lenR 58 l)).1 = true then
    match xs[(lenN 58 l).toNat]? with
    | none => (5, [], [])
    | some a => ((apply a (bodyX (lenR 58 l)).2.1).1, (apply a (bodyX (lenR 58 l)).2.1).2, (bodyX (lenR 58 l)).2.2)
  else (1, [], [])
/-- the next text of a pack: the error's number, the text, what is behind it -/
def nextX (xs : List (List UInt8)) : List UInt8 → Nat × List UInt8 × List UInt8
  | [] => (1, [], [])
  | x :: l => if x = 61 then (if (bodyX l).1 = true then (0, (bodyX l).2.1, (bodyX l).2.2) else (1, [], [])) else if x = 126 then viaX xs l else (1, [], [])
theorem nextX_61 (xs : List (List UInt8)) (l : List UInt8) : nextX xs (61 :: l) = if (bodyX l).1 = true then (0, (bodyX l).2.1, (bodyX l).2.2) else (1, [], []) := rfl
theorem nextX_126 (xs : List (List UInt8)) (l : List UInt8) : nextX xs (126 :: l) = viaX xs l := rfl
theorem bodyX_of (s r : List UInt8) (hs : s.length ≤ 1000000) : bodyX (Lib.itoa (s.length : Int) ++ 58 :: (s ++ 10 :: r)) = (true, s, r) := by
  obtain ⟨h1, h2, h3⟩ := len_of (c := 58) (by decide) (n := (s.length : Int)) (by omega) (by omega) (s ++ 10 :: r)
  have hn : ((s.length : Int)).toNat = s.length := by simp
  have hg : (s ++ 10 :: r)[s.length]? = some 10 := by simp
  unfold bodyX
  rw [h1, h2, h3, hn, if_pos ⟨rfl, hg⟩]
  have e1 : (s ++ 10 :: r).take s.length = s := by simp
  have e2 : (s ++ 10 :: r).drop (s.length + 1) = r := by
    have h := List.drop_append (l₁ := s) (l₂ := 10 :: r) (i := s.length + 1)
    rw [h, List.drop_eq_nil_of_le (by omega)]
    simp
  rw [e1, e2]
theorem bodyX_len {l : List UInt8} (h : (bodyX l).1 = true) : (bodyX l).2.2.length < l.length ∧ (bodyX l).2.1.length ≤ l.length := by
  unfold bodyX at h ⊢
  split at h
  · rename_i h1
    have hl := lenR_le 58 l
    have hi := (List.getElem?_eq_some_iff.1 h1.2).1
    rw [if_pos h1]
    simp only [List.length_drop, List.length_take]
    omega
  · cases h
theorem nextX_len {xs : List (List UInt8)} {l : List UInt8} (h : (nextX xs l).1 = 0) : (nextX xs l).2.2.length < l.length ∧ (nextX xs l).2.1.length ≤ l.length + 10000 := by
  cases l with
  | nil => cases h
  | cons x l =>
    by_cases h1 : x = 61
    · subst h1
      rw [nextX_61] at h ⊢
      split at h
      · rename_i h2
        have := bodyX_len h2
        rw [if_pos h2, List.length_cons]
        simp only
        omega
      · cases h
    · by_cases h2 : x = 126
      · subst h2
        rw [nextX_126] at h ⊢
        unfold viaX at h ⊢
        split at h
        · rename_i h3
          rw [if_pos h3]
          have hb := bodyX_len h3.2
          have hl := lenR_le 58 l
          cases hx : xs[(lenN 58 l).toNat]? with
          | none => rw [hx] at h; cases h
          | some a =>
            have := apply_len a (bodyX (lenR 58 l)).2.1
            simp only [List.length_cons]
            omega
        · cases h
      · have e : nextX xs (x :: l) = (1, [], []) := by
          show (if x = 61 then _ else if x = 126 then _ else _) = _
          rw [if_neg h1, if_neg h2]
        rw [e] at h
        cases h
/-- a pack is read: the error's number, the texts till then -/
def unpT : Nat → List (List UInt8) → List UInt8 → Nat × List (List UInt8)
  | 0, xs, _ => (0, xs)
  | k + 1, xs, l => if l = [] then (0, xs) else if (nextX xs l).1 ≠ 0 then ((nextX xs l).1, xs) else if freshC xs (nextX xs l).2.1 ≠ 0 then (freshC xs (nextX xs l).2.1, xs) else unpT k (putL xs (nextX xs l).2.1) (nextX xs l).2.2
theorem unpT_fuel : ∀ (k j : Nat) (xs : List (List UInt8)) (l : List UInt8), l.length ≤ k → l.length ≤ j → unpT k xs l = unpT j xs l
  | 0, j, xs, l, h, _ => by
    have : l = [] := List.length_eq_zero_iff.1 (by omega)
    subst this
    cases j <;> rfl
  | k + 1, 0, xs, l, _, h => by
    have : l = [] := List.length_eq_zero_iff.1 (by omega)
    subst this; rfl
  | k + 1, j + 1, xs, l, h1, h2 => by
    simp only [unpT]
    split
    · rfl
    · split
      · rfl
      · split
        · rfl
        · rename_i h3 h4 h5
          have := (nextX_len (xs := xs) (l := l) (by simpa using h4)).1
          exact unpT_fuel k j _ _ (by omega) (by omega)
def unpF (xs : List (List UInt8)) (l : List UInt8) : Nat × List (List UInt8) := unpT l.length xs l
theorem unpF_nil (xs : List (List UInt8)) : unpF xs [] = (0, xs) := rfl
theorem unpF_step {xs : List (List UInt8)} {l : List UInt8} (hl : l ≠ []) (h1 : (nextX xs l).1 = 0) (h2 : freshC xs (nextX xs l).2.1 = 0) : unpF xs l = unpF (putL xs (nextX xs l).2.1) (nextX xs l).2.2 := by
  have hk := (nextX_len h1).1
  obtain ⟨x, r, rfl⟩ := List.exists_cons_of_ne_nil hl
  show unpT (r.length + 1) xs (x :: r) = _
  simp only [unpT, reduceCtorEq, if_false, h1, h2, ne_eq, not_true_eq_false]
  rw [List.length_cons] at hk
  exact unpT_fuel _ _ _ _ (by omega) (Nat.le_refl _)
theorem unpF_bad1 {xs : List (List UInt8)} {l : List UInt8} (hl : l ≠ []) (h1 : (nextX xs l).1 ≠ 0) : unpF xs l = ((nextX xs l).1, xs) := by
  obtain ⟨x, r, rfl⟩ := List.exists_cons_of_ne_nil hl
  show unpT (r.length + 1) xs (x :: r) = _
  simp only [unpT, reduceCtorEq, if_false, ne_eq, h1, not_false_eq_true, if_true]
theorem unpF_bad2 {xs : List (List UInt8)} {l : List UInt8} (hl : l ≠ []) (h1 : (nextX xs l).1 = 0) (h2 : freshC xs (nextX xs l).2.1 ≠ 0) : unpF xs l = (freshC xs (nextX xs l).2.1, xs) := by
  obtain ⟨x, r, rfl⟩ := List.exists_cons_of_ne_nil hl
  show unpT (r.length + 1) xs (x :: r) = _
  simp only [unpT, reduceCtorEq, if_false, ne_eq, h1, h2, not_true_eq_false, not_false_eq_true, if_true]
end Pk
end Go.Proofs.YtmlndamkcipebaaGreatDoor
namespace Go.Proofs.YtmlndamkcipebaaGreatDoor
open Go Go.RowKit Lmd
namespace Pk
open Rul Day Tp Cand Pl

set_option maxRecDepth 100000 in
set_option maxHeartbeats 1000000 in
theorem body_any (l : List UInt8) (m : Int) (w : World) (hs : l.length ≤ 2000000) (hE : ELib w) (htab : Lib.TabIs Tryz.prog w "internal/strconv.uint64pow10" .u64 Lib.pow10Tab) (hm : w.cell? ⟨13, 0, none⟩ = some (.int .i64 m)) :
    Calls Tryz.prog 95 #[.string (mk l)] w fun er w' => er = .returned (.tuple #[.string (mk (bodyX l).2.1), .string (mk (bodyX l).2.2), .bool (bodyX l).1]) ∧ Below w.heap.size w w' := by
  have hl := packNumber_any 58 (mk l) m w hs hE htab hm
  have e0 : (mk l).data.toList = l := rfl
  rw [e0] at hl
  have hlen : (lenR 58 l).length ≤ 2000000 := Nat.le_trans (lenR_le 58 l) hs
  obtain ⟨A, hA⟩ : ∃ A, mk l = A := ⟨_, rfl⟩
  rw [hA] at hl ⊢
  have HL := Lib.hid hl
  clear hl hE htab hm e0 hA
  obtain ⟨R, hR⟩ : ∃ R, lenR 58 l = R := ⟨_, rfl⟩
  obtain ⟨n, hn⟩ : ∃ n, lenN 58 l = n := ⟨_, rfl⟩
  obtain ⟨k, hk⟩ : ∃ k, lenOk 58 l = k := ⟨_, rfl⟩
  have htk : bodyX l = if k = true ∧ R[n.toNat]? = some 10 then (true, R.take n.toNat, R.drop (n.toNat + 1)) else (false, [], []) := by unfold bodyX; rw [hk, hn, hR]
  unfold LenPost at HL
  rw [hR, hn, hk] at HL
  rw [hR] at hlen
  have hpos : k = true → 0 ≤ n := fun h => by rw [← hn]; exact (len_split (by rw [hk]; exact h)).2.1
  have HT := Lib.hid htk
  have HP := Lib.hid hpos
  clear hR hn hk htk hpos
  have hrz : (mk R).size = R.length := by simp [ByteArray.size]
  obtain ⟨S, hS⟩ : ∃ S, mk R = S := ⟨_, rfl⟩
  have hSR : S.data.toList = R := by rw [← hS]
  rw [hS] at HL hrz
  have HSR := Lib.hid hSR
  clear hS hSR
  go_enter Tryz.func95, Tryz.ntmps95
  go_wp2_with fail
  (with_reducible refine HL.out.mono ?_)
  rintro e1 w1 ⟨n', rfl, hn', hb1⟩
  have HB := Lib.hid hb1
  clear hb1 HL
  cases k with
  | false =>
    have ht : bodyX l = (false, [], []) := by rw [HT.out, if_neg (by simp)]
    have HTK := Lib.hid ht
    clear hn' HT HP ht
    go_wp2_with fail
    go_ret3
    exact ⟨by rw [HTK.out]; rfl, HB.out⟩
  | true =>
    obtain rfl : n' = n := hn' rfl
    have h0 : 0 ≤ n' := HP.out rfl
    clear hn' HP
    obtain ⟨j, rfl⟩ : ∃ j : Nat, n' = (j : Int) := ⟨n'.toNat, by omega⟩
    have hjn : ((j : Int)).toNat = j := by simp
    by_cases h2 : j < R.length
    · obtain ⟨y, hy⟩ : ∃ y, R[j]? = some y := ⟨_, List.getElem?_eq_getElem h2⟩
      have hjT : j < S.size := by omega
      have hTy : (S[j] : UInt8) = y := at_of S j y hjT (by rw [HSR.out]; exact hy)
      have hj3 : ¬ ((S.size : Int) ≤ (j : Int)) := by omega
      have hj4 : (j : Int) < (S.size : Int) := by omega
      have hj5 : j + 1 ≤ S.size := by omega
      have hj7 : j ≤ S.size := by omega
      have hj6 : (j : Int) + 1 ≤ (S.size : Int) := by omega
      have hSs : S.size ≤ 2000000 := by omega
      have HZ := Lib.hid hrz
      have HY := Lib.hid hy
      clear hy h2 hrz
      by_cases h3 : y = 10
      · subst h3
        have hext0 : S.extract 0 j = mk (R.take j) := mk_of (by rw [ext_take, HSR.out])
        have hext1 : S.extract (j + 1) S.size = mk (R.drop (j + 1)) := mk_of (by
          rw [ext_mid, HSR.out]
          exact List.take_of_length_le (by rw [List.length_drop]; have := HZ.out; omega))
        have ht : bodyX l = (true, R.take j, R.drop (j + 1)) := by rw [HT.out, hjn, if_pos ⟨rfl, HY.out⟩]
        have HTK := Lib.hid ht
        have hs1 : IntKind.i64.wrap ((j : Int) + 1) = (j : Int) + 1 := IntWalk.i64_in _ (by omega)
        have hs2 : (0 : Int) ≤ (j : Int) + 1 := by omega
        have hs3 : ((j : Int) + 1).toNat = j + 1 := by omega
        clear HT ht
        go_wp2_with fail
        go_region
        go_wp2_with fail
        go_ret3
        exact ⟨by rw [HTK.out]; rfl, below_drew' HB.out⟩
      · have ht : bodyX l = (false, [], []) := by rw [HT.out, hjn, if_neg (by rw [HY.out]; simpa using h3)]
        have HTK := Lib.hid ht
        have hy3 : ((y.toNat : Int) != 10) = true := by
          rw [bne_iff_ne]
          intro e
          exact h3 (UInt8.toNat_inj.1 (by show y.toNat = 10; omega))
        clear HT ht h3
        go_wp2_with fail
        go_ret3
        exact ⟨by rw [HTK.out]; rfl, HB.out⟩
    · have ht : bodyX l = (false, [], []) := by rw [HT.out, hjn, if_neg (by rw [List.getElem?_eq_none (by omega)]; simp)]
      have HTK := Lib.hid ht
      have hj3 : (S.size : Int) ≤ (j : Int) := by omega
      clear HT ht
      go_wp2_with fail
      go_ret3
      exact ⟨by rw [HTK.out]; rfl, HB.out⟩
end Pk
end Go.Proofs.YtmlndamkcipebaaGreatDoor
namespace Go.Proofs.YtmlndamkcipebaaGreatDoor
open Go Go.RowKit Lmd
namespace Pk
open Rul Day Tp Cand Pl

theorem EP_of {w : World} {e : Nat → Addr} (h : EL w e) : EP w e := ⟨h.s0, h.s1⟩
set_option maxRecDepth 100000 in
set_option maxHeartbeats 1000000 in
theorem get_no (w : World) (base p m : Nat) (v : Value) (xs : List (List UInt8)) (k : Int) (e : Nat → Addr) (h : Is w base p v m xs) (he : EL w e) (hk : k < 0 ∨ (xs.length : Int) ≤ k) :
    Calls Tryz.prog 15 #[.pointer (some ⟨p, 0, none⟩), .int .i64 k] w fun er w' => er = .returned (.tuple #[.string (mk []), errV e 5]) ∧ Below w.heap.size w w' := by
  have k0 : w.cell? ⟨p, 0, none⟩ = some v := cell_of h.row rfl
  obtain ⟨a0, c0, rfl⟩ := ownsRow_slice h.own
  have cE := he.s4.cell
  clear h he
  by_cases h0 : k < 0
  · clear hk
    go_enter Tryz.func15, Tryz.ntmps15
    go_wp2_with fail
    go_quiet (fail)
    go_wp2
    go_ret2
    exact ⟨rfl, below_draw (Below.refl _ w) _⟩
  · have h1 : (xs.length : Int) ≤ k := by omega
    clear hk
    go_enter Tryz.func15, Tryz.ntmps15
    go_wp2_with fail
    go_quiet (fail)
    go_wp2
    go_ret2
    exact ⟨rfl, below_draw (Below.refl _ w) _⟩
theorem viaX_bad {xs : List (List UInt8)} {l : List UInt8} (h : ¬ (lenOk 58 l = true ∧ (bodyX (lenR 58 l)).1 = true)) : viaX xs l = (1, [], []) := by unfold viaX; rw [if_neg h]
theorem viaX_none {xs : List (List UInt8)} {l : List UInt8} (h1 : lenOk 58 l = true) (h2 : (bodyX (lenR 58 l)).1 = true) (hx : xs[(lenN 58 l).toNat]? = none) : viaX xs l = (5, [], []) := by unfold viaX; rw [if_pos ⟨h1, h2⟩, hx]
theorem viaX_some {xs : List (List UInt8)} {l a : List UInt8} (h1 : lenOk 58 l = true) (h2 : (bodyX (lenR 58 l)).1 = true) (hx : xs[(lenN 58 l).toNat]? = some a) : viaX xs l = ((apply a (bodyX (lenR 58 l)).2.1).1, (apply a (bodyX (lenR 58 l)).2.1).2, (bodyX (lenR 58 l)).2.2) := by unfold viaX; rw [if_pos ⟨h1, h2⟩, hx]
set_option maxRecDepth 100000 in
set_option maxHeartbeats 1000000 in
/- a line by a delta -/
theorem via_any (w : World) (base p m : Nat) (v : Value) (xs : List (List UInt8)) (l : List UInt8) (e : Nat → Addr) (m0 : Int) (h : Is w base p v m xs) (he : LEnv w e m0) (hs : l.length ≤ 1100000) :
    Calls Tryz.prog 96 #[.pointer (some ⟨p, 0, none⟩), .string (mk l)] w fun er w' => er = .returned (.tuple #[.string (mk (viaX xs l).2.1), .string (mk (viaX xs l).2.2), errV e (viaX xs l).1]) ∧ Below w.heap.size w w' := by
  have hl := packNumber_any 58 (mk l) m0 w (by show l.length ≤ _; omega) he.lib he.tab he.ml
  have e0 : (mk l).data.toList = l := rfl
  rw [e0] at hl
  have hlr : (lenR 58 l).length ≤ 1100000 := Nat.le_trans (lenR_le 58 l) hs
  have hb := fun W (hW : Below w.heap.size w W) => body_any (lenR 58 l) m0 W (by omega) (he.below hW).lib (he.below hW).tab (he.below hW).ml
  have hbl : (bodyX (lenR 58 l)).1 = true → (bodyX (lenR 58 l)).2.1.length ≤ 1100000 := fun h => Nat.le_trans (bodyX_len h).2 hlr
  have hpos : lenOk 58 l = true → 0 ≤ lenN 58 l := fun h => (len_split h).2.1
  obtain ⟨A, hA⟩ : ∃ A, mk l = A := ⟨_, rfl⟩
  rw [hA] at hl ⊢
  unfold LenPost at hl
  obtain ⟨R, hR⟩ : ∃ R, lenR 58 l = R := ⟨_, rfl⟩
  obtain ⟨n, hn⟩ : ∃ n, lenN 58 l = n := ⟨_, rfl⟩
  obtain ⟨k, hk⟩ : ∃ k, lenOk 58 l = k := ⟨_, rfl⟩
  have hv0 : ¬ (k = true ∧ (bodyX R).1 = true) → viaX xs l = (1, [], []) := fun h => viaX_bad (by rw [hk, hR]; exact h)
  have hv1 : k = true → (bodyX R).1 = true → xs[n.toNat]? = none → viaX xs l = (5, [], []) := fun h1 h2 hx => viaX_none (by rw [hk]; exact h1) (by rw [hR]; exact h2) (by rw [hn]; exact hx)
  have hv2 : k = true → (bodyX R).1 = true → ∀ a, xs[n.toNat]? = some a → viaX xs l = ((apply a (bodyX R).2.1).1, (apply a (bodyX R).2.1).2, (bodyX R).2.2) := fun h1 h2 a hx => by
    have h := viaX_some (a := a) (by rw [hk]; exact h1) (by rw [hR]; exact h2) (by rw [hn]; exact hx)
    rw [hR] at h
    exact h
  rw [hR, hn, hk] at hl
  rw [hR] at hb hbl
  rw [hn, hk] at hpos
  obtain ⟨q, hq⟩ : ∃ q, (bodyX R).1 = q := ⟨_, rfl⟩
  obtain ⟨d, hd⟩ : ∃ d, (bodyX R).2.1 = d := ⟨_, rfl⟩
  obtain ⟨r, hr⟩ : ∃ r, (bodyX R).2.2 = r := ⟨_, rfl⟩
  rw [hq] at hv0 hv1
  rw [hq, hd, hr] at hv2
  rw [hq, hd, hr] at hb
  rw [hq, hd] at hbl
  have HL := Lib.hid hl
  have HB := Lib.hid hb
  have HV0 := Lib.hid hv0
  have HV1 := Lib.hid hv1
  have HV2 := Lib.hid hv2
  have HP := Lib.hid hpos
  have HBL := Lib.hid hbl
  have H := Lib.hid h
  have HE := Lib.hid he
  clear hl hb hv0 hv1 hv2 hpos hbl h he hA hR hn hk hq hd hr e0 hlr
  go_enter Tryz.func96, Tryz.ntmps96
  go_wp2_with fail
  (with_reducible refine HL.out.mono ?_)
  rintro e1 w1 ⟨n', rfl, hn', hb1⟩
  have hbb := HB.out w1 hb1
  have HBB := Lib.hid hbb
  have HB1 := Lib.hid hb1
  have HN := Lib.hid hn'
  clear hbb hb1 hn' HL HB
  go_wp2_with fail
  (with_reducible refine HBB.out.mono ?_)
  rintro e2 w2 ⟨rfl, hb2⟩
  have HB2 := Lib.hid (HB1.out.trans (hb2.mono HB1.out.size))
  clear hb2 HBB
  have c0 := (HE.out.below HB2.out).el.s0.cell
  cases k with
  | false =>
    have ht : viaX xs l = (1, [], []) := HV0.out (by simp)
    have HTK := Lib.hid ht
    clear ht
    go_wp2_with fail
    go_quiet (fail)
    go_wp2
    go_ret3
    exact ⟨by rw [HTK.out]; rfl, below_draw HB2.out _⟩
  | true =>
    cases q with
    | false =>
      have ht : viaX xs l = (1, [], []) := HV0.out (by simp)
      have HTK := Lib.hid ht
      clear ht
      go_wp2_with fail
      go_quiet (fail)
      go_wp2
      go_ret3
      exact ⟨by rw [HTK.out]; rfl, below_draw HB2.out _⟩
    | true =>
      obtain rfl : n' = n := HN.out rfl
      obtain ⟨j, rfl⟩ : ∃ j : Nat, n' = (j : Int) := ⟨n'.toNat, by have := HP.out rfl; omega⟩
      have hjn : ((j : Int)).toNat = j := by simp
      have hpl := H.out.below HB2.out
      have hdl := HBL.out rfl
      cases hx : xs[j]? with
      | none =>
        have ht : viaX xs l = (5, [], []) := HV1.out rfl rfl (by rw [hjn]; exact hx)
        have hxl := List.getElem?_eq_none_iff.1 hx
        have hg := get_no w2 base p m v xs (j : Int) e hpl (HE.out.below HB2.out).el (by omega)
        have HTK := Lib.hid ht
        have HG := Lib.hid hg
        clear ht hg hx hpl hjn hxl
        go_wp2_with fail
        (with_reducible refine HG.out.mono ?_)
        rintro e3 w3 ⟨rfl, hb3⟩
        have HB3 := Lib.hid (HB2.out.trans (hb3.mono HB2.out.size))
        clear hb3
        simp only [errV]
        go_wp2_with fail
        go_ret3
        exact ⟨by rw [HTK.out]; rfl, HB3.out⟩
      | some a =>
        have ht : viaX xs l = ((apply a d).1, (apply a d).2, r) := HV2.out rfl rfl a (by rw [hjn]; exact hx)
        have hg := get_any w2 base p m v xs j a hpl hx
        have ha : a.length ≤ 10000 := hpl.small a (List.mem_of_getElem? hx)
        have HTK := Lib.hid ht
        have HG := Lib.hid hg
        clear ht hg hx hpl hjn
        go_wp2_with fail
        (with_reducible refine HG.out.mono ?_)
        rintro e3 w3 ⟨rfl, hb3⟩
        have HB3 := Lib.hid (HB2.out.trans (hb3.mono HB2.out.size))
        have h3 := HE.out.below HB3.out
        have hap := apply_any a d e m0 w3 (by omega) hdl (EP_of h3.el) h3.lib h3.tab h3.ml
        have HAP := Lib.hid hap
        clear hb3 h3 hap HG
        go_wp2_with fail
        (with_reducible refine HAP.out.mono ?_)
        rintro e4 w4 ⟨rfl, hb4⟩
        have HB4 := Lib.hid (HB3.out.trans (hb4.mono HB3.out.size))
        clear hb4 HAP
        go_wp2_with fail
        go_ret3
        exact ⟨by rw [HTK.out]; rfl, HB4.out⟩
set_option maxRecDepth 100000 in
set_option maxHeartbeats 1000000 in
/- the next text of a pack -/
theorem next_any (w : World) (base p m : Nat) (v : Value) (xs : List (List UInt8)) (x : UInt8) (l : List UInt8) (e : Nat → Addr) (m0 : Int) (h : Is w base p v m xs) (he : LEnv w e m0) (hs : l.length ≤ 1100000) :
    Calls Tryz.prog 74 #[.pointer (some ⟨p, 0, none⟩), .string (mk (x :: l))] w fun er w' => er = .returned (.tuple #[.string (mk (nextX xs (x :: l)).2.1), .string (mk (nextX xs (x :: l)).2.2), errV e (nextX xs (x :: l)).1]) ∧ Below w.heap.size w w' := by
  have hb := body_any l m0 w (by omega) he.lib he.tab he.ml
  have hv := via_any w base p m v xs l e m0 h he hs
  obtain ⟨S, hS⟩ : ∃ S, mk (x :: l) = S := ⟨_, rfl⟩
  have hsz : S.size = l.length + 1 := by rw [← hS]; simp [ByteArray.size]
  have h0 : 0 < S.size := by omega
  have h1s : 1 ≤ S.size := by omega
  have hSs : S.size ≤ 2000000 := by omega
  have hSx : (S[0] : UInt8) = x := at_of S 0 x h0 (by rw [← hS]; rfl)
  have hext : S.extract 1 S.size = mk l := mk_of (by rw [ext_mid, ← hS]; simp [ByteArray.size])
  rw [hS]
  have HE := Lib.hid he
  have HB := Lib.hid hb
  have HV := Lib.hid hv
  clear hS hsz hb hv h he
  by_cases hc : x = 61
  · subst hc
    have hn : nextX xs (61 :: l) = if (bodyX l).1 = true then (0, (bodyX l).2.1, (bodyX l).2.2) else (1, [], []) := rfl
    obtain ⟨q, hq⟩ : ∃ q, (bodyX l).1 = q := ⟨_, rfl⟩
    rw [hq] at hn HB
    have HN := Lib.hid hn
    clear hn hq HV
    go_enter Tryz.func74, Tryz.ntmps74
    go_wp2_with fail
    (with_reducible refine HB.out.mono ?_)
    rintro e1 w1 ⟨rfl, hb1⟩
    have c0 := (HE.out.below hb1).el.s0.cell
    have HB1 := Lib.hid hb1
    clear hb1 HB
    cases q with
    | true =>
      have ht : nextX xs (61 :: l) = (0, (bodyX l).2.1, (bodyX l).2.2) := by rw [HN.out, if_pos rfl]
      have HTK := Lib.hid ht
      clear ht
      go_wp2
      go_ret3
      exact ⟨by rw [HTK.out]; rfl, HB1.out⟩
    | false =>
      have ht : nextX xs (61 :: l) = (1, [], []) := by rw [HN.out, if_neg (by simp)]
      have HTK := Lib.hid ht
      clear ht
      go_wp2_with fail
      go_quiet (fail)
      go_wp2
      go_ret3
      exact ⟨by rw [HTK.out]; rfl, below_draw HB1.out _⟩
  · have hc1 : ((x.toNat : Int) == 61) = false := by
      rw [beq_eq_false_iff_ne]
      intro e
      exact hc (UInt8.toNat_inj.1 (by show x.toNat = 61; omega))
    by_cases hi : x = 126
    · subst hi
      have hn : nextX xs (126 :: l) = viaX xs l := rfl
      have HN := Lib.hid hn
      clear hn HB
      go_enter Tryz.func74, Tryz.ntmps74
      go_wp2_with fail
      (with_reducible refine HV.out.mono ?_)
      rintro e1 w1 ⟨rfl, hb1⟩
      have HB1 := Lib.hid hb1
      clear hb1 HV
      go_wp2
      go_ret3
      exact ⟨by rw [HN.out]; rfl, HB1.out⟩
    · have hi1 : ((x.toNat : Int) == 126) = false := by
        rw [beq_eq_false_iff_ne]
        intro e
        exact hi (UInt8.toNat_inj.1 (by show x.toNat = 126; omega))
      have hn : nextX xs (x :: l) = (1, [], []) := by
        show (if x = 61 then _ else if x = 126 then _ else _) = _
        rw [if_neg hc, if_neg hi]
      have c0 := HE.out.el.s0.cell
      have HN := Lib.hid hn
      clear hn hc hi HB HV
      go_enter Tryz.func74, Tryz.ntmps74
      go_wp2_with fail
      go_quiet (fail)
      go_wp2
      go_ret3
      exact ⟨by rw [HN.out]; rfl, below_draw (Below.refl _ w) _⟩
end Pk
end Go.Proofs.YtmlndamkcipebaaGreatDoor
namespace Go.Proofs.YtmlndamkcipebaaGreatDoor
open Go Go.RowKit Lmd
namespace Pk
open Rul Day Cand Tp Pl

/-- what lies behind pack.Unpack -/
def UnpPost (e : Nat → Addr) (l : List UInt8) (w : World) (er : Ending) (w' : World) : Prop :=
  if 1048576 < l.length then er = .returned (.tuple #[.pointer none, errV e 2]) ∧ Below w.heap.size w w'
  else if (unpF [] l).1 = 0 then ∃ p v m, er = .returned (.tuple #[.pointer (some ⟨p, 0, none⟩), .nilIface]) ∧ Is w' w.heap.size p v m (unpF [] l).2 ∧ Below w.heap.size w w'
  else ∃ f, er = .returned (.tuple #[.pointer none, .iface 82 (.pointer (some ⟨f, 0, none⟩))]) ∧ w'.heap[f]? = some (.cells #[.int .i64 ((unpF [] l).2.length : Nat), errV e (unpF [] l).1] 84 (0, 0)) ∧ w.heap.size ≤ f ∧ Below w.heap.size w w'
/-- the state of the loop of Unpack -/
structure UnAt (l0 : List UInt8) (w : World) (p m : Nat) (v : Value) (xs : List (List UInt8)) (l : List UInt8) (W : World) : Prop where
  rel : unpF [] l0 = unpF xs l
  pl : Is W w.heap.size p v m xs
  low : Below w.heap.size w W
  len : l.length ≤ l0.length
set_option maxRecDepth 100000 in
set_option maxHeartbeats 1000000 in
theorem unpack_any (l : List UInt8) (e : Nat → Addr) (m0 : Int) (w : World) (hs : l.length ≤ 9223372036854775807) (he : LEnv w e m0) :
    Calls Tryz.prog 36 #[.string (mk l)] w (UnpPost e l w) := by
  have HE := Lib.hid he
  have hsz : (mk l).size = l.length := rfl
  by_cases hbig : 1048576 < l.length
  · have hb1 : (1048576 : Int) < (l.length : Int) := by omega
    have cE := he.el.s1.cell
    clear he
    go_enter Tryz.func36, Tryz.ntmps36
    go_wp2_with fail
    go_quiet (fail)
    go_wp2
    go_ret2
    unfold UnpPost
    rw [if_pos hbig]
    exact ⟨rfl, below_draw (Below.refl _ w) _⟩
  · have hb1 : ¬ (1048576 : Int) < (l.length : Int) := by omega
    have hn := new_any w
    have HN := Lib.hid hn
    clear he hn
    go_enter Tryz.func36, Tryz.ntmps36
    go_wp2_with fail
    (with_reducible refine HN.out.mono ?_)
    rintro e1 w1 ⟨p, v, m, rfl, his, hb⟩
    have HIS := Lib.hid his
    have HB := Lib.hid hb
    clear his hb HN
    go_wp2_with fail
    go_loopw [0] (fun sv wr => ∃ r xs v', sv = .string (mk r) ∧ UnAt l w p m v' xs r wr) (fun sv _ => (match sv with | .string s => s.size | _ => 0))
    case atStart => exact ⟨l, [], v, rfl, rfl, HIS.out, HB.out, Nat.le_refl _⟩
    case round =>
      obtain ⟨r, xs, v', rfl, hat⟩ := hrel
      cases r with
      | nil =>
        have HAT := Lib.hid hat
        have he : (mk []).toList = [] := toListMk _
        clear hat
        go_wp2
        go_ret2
        unfold UnpPost
        rw [if_neg hbig, HAT.out.rel, unpF_nil, if_pos rfl]
        exact ⟨p, v', m, rfl, HAT.out.pl, HAT.out.low⟩
      | cons x r =>
        have hlen := hat.len
        rw [List.length_cons] at hlen
        have hsb := hat.low.size
        have ht := next_any wr w.heap.size p m v' xs x r e m0 hat.pl (HE.out.below hat.low) (by omega)
        have he : (mk (x :: r)).toList = x :: r := toListMk _
        obtain ⟨S, hS⟩ : ∃ S, mk (x :: r) = S := ⟨_, rfl⟩
        have hSz : S.size = r.length + 1 := by rw [← hS]; simp [ByteArray.size]
        rw [hS] at ht he ⊢
        have HTK := Lib.hid ht
        have HAT := Lib.hid hat
        have HSZ := Lib.hid hSz
        clear ht hat hS hSz
        go_wp2_with fail
        (with_reducible refine HTK.out.mono ?_)
        rintro e2 w2 ⟨rfl, hb2⟩
        have hlow2 := HAT.out.low.trans (hb2.mono hsb)
        have hpl2 := HAT.out.pl.below hb2
        have HLOW2 := Lib.hid hlow2
        have HPL2 := Lib.hid hpl2
        clear hb2 hlow2 hpl2 HTK
        cases hc : (nextX xs (x :: r)).1 with
        | succ c =>
          have hbad := unpF_bad1 (xs := xs) (l := x :: r) (by simp) (by rw [hc]; simp)
          rw [hc] at hbad
          have hln := len_any w2 _ p m v' xs HPL2.out
          have HLN := Lib.hid hln
          have HBAD := Lib.hid hbad
          clear hc hbad hln
          simp only [errV]
          go_wp2_with fail
          (with_reducible refine HLN.out.mono ?_)
          rintro e3 w3 ⟨rfl, rfl⟩
          go_wp2_with fail
          go_ret2
          unfold UnpPost
          rw [if_neg hbig, HAT.out.rel, HBAD.out, if_neg (by simp)]
          exact ⟨_, rfl, heap_new _ _, HLOW2.out.size, HLOW2.out.alloc HLOW2.out.size _⟩
        | zero =>
          have htl := nextX_len hc
          obtain ⟨t, ht⟩ : ∃ t, (nextX xs (x :: r)).2.1 = t := ⟨_, rfl⟩
          obtain ⟨r2, hr2⟩ : ∃ r2, (nextX xs (x :: r)).2.2 = r2 := ⟨_, rfl⟩
          have hst := unpF_step (xs := xs) (l := x :: r) (by simp) hc
          have hbd := unpF_bad2 (xs := xs) (l := x :: r) (by simp) hc
          rw [ht, hr2] at hst htl
          rw [ht] at hbd
          rw [ht, hr2]
          have hfr := fresh_any w2 w.heap.size p m v' xs t e HPL2.out (HE.out.below HLOW2.out).el (by have := htl.2; rw [List.length_cons] at this; omega)
          have HFR := Lib.hid hfr
          have HST := Lib.hid hst
          have HBD := Lib.hid hbd
          have HTL := Lib.hid htl
          clear hc ht hr2 hst hbd htl hfr
          simp only [errV]
          go_wp2_with fail
          (with_reducible refine HFR.out.mono ?_)
          rintro e3 w3 ⟨v3, rfl, hpl3, hfar3, _⟩
          have hge2 := HPL2.out
          have hlow3 : Below w.heap.size w w3 := HLOW2.out.trans (hfar3.below (fun k hk => by
            rcases hk with rfl | rfl | hk
            · exact hge2.ge.1
            · exact hge2.ge.2
            · exact own_ge hge2.own hk.symm) HLOW2.out.size)
          have HPL3 := Lib.hid hpl3
          have HLOW3 := Lib.hid hlow3
          clear hpl3 hfar3 hlow3 HFR hge2
          cases hc2 : freshC xs t with
          | succ c =>
            have hbad := HBD.out (by rw [hc2]; simp)
            rw [hc2] at hbad
            have hsame : putL xs t = xs := fresh_same (by rw [hc2]; simp)
            have hln := len_any w3 _ p m v3 _ HPL3.out
            rw [hsame] at hln
            have HLN := Lib.hid hln
            have HBAD := Lib.hid hbad
            clear hc2 hbad hln hsame
            simp only [errV]
            go_wp2_with fail
            (with_reducible refine HLN.out.mono ?_)
            rintro e4 w4 ⟨rfl, rfl⟩
            go_wp2_with fail
            go_ret2
            unfold UnpPost
            rw [if_neg hbig, HAT.out.rel, HBAD.out, if_neg (by simp)]
            exact ⟨_, rfl, heap_new _ _, HLOW3.out.size, HLOW3.out.alloc HLOW3.out.size _⟩
          | zero =>
            have hst := HST.out hc2
            have HST2 := Lib.hid hst
            clear hc2 hst
            simp only [errV]
            go_wp2_with fail
            go_roundw
            case rel =>
              refine ⟨r2, putL xs t, v3, rfl, HAT.out.rel.trans HST2.out, HPL3.out, HLOW3.out, ?_⟩
              have h1 := HTL.out.1
              have h2 := HAT.out.len
              omega
            case measure =>
              have h1 := HTL.out.1
              have h2 := HSZ.out
              rw [List.length_cons] at h1
              show (mk r2).size < S.size
              have h3 : (mk r2).size = r2.length := rfl
              omega
end Pk
end Go.Proofs.YtmlndamkcipebaaGreatDoor
