/- pack.Pack. -/
import Derived.Test.YtmlndamkcipebaaDoorUnpack
import Derived.Test.YtmlndamkcipebaaDoorDelta
import Derived.Test.YtmlndamkcipebaaDoorPooled
namespace Go.Proofs.YtmlndamkcipebaaDoor
open Go Go.RowKit Lmd
namespace Pk
open Rul Day Tp Cand Pl

/-- a text as it is, and by a delta of an earlier one -/
def fullL (s : List UInt8) : List UInt8 := 61 :: (Lib.itoa (s.length : Int) ++ 58 :: s)
def viaL (i : Nat) (d : List UInt8) : List UInt8 := 126 :: (Lib.itoa (i : Int) ++ 58 :: (Lib.itoa (d.length : Int) ++ 58 :: d))
def atL (xs : List (List UInt8)) (k : Nat) : List UInt8 := xs.getD k []
/-- the shortest one, of the first k texts -/
def bestL (xs : List (List UInt8)) (s : List UInt8) : Nat → List UInt8
  | 0 => fullL s
  | k + 1 => if (viaL k (deltaL (atL xs k) s)).length < (bestL xs s k).length then viaL k (deltaL (atL xs k) s) else bestL xs s k
def lineL (xs : List (List UInt8)) (k : Nat) : List UInt8 := bestL xs (atL xs k) k ++ [10]
def packL (xs : List (List UInt8)) : Nat → List UInt8
  | 0 => []
  | k + 1 => packL xs k ++ lineL xs k
theorem fullL_le (s : List UInt8) (hs : s.length ≤ 1000000) : (fullL s).length ≤ s.length + 30 := by
  have := Lib.itoa_length_le (s.length : Int) (by omega) (by omega)
  unfold fullL
  simp only [List.length_append, List.length_cons]; omega
theorem bestL_full (xs : List (List UInt8)) (s : List UInt8) : ∀ k, (bestL xs s k).length ≤ (fullL s).length
  | 0 => Nat.le_refl _
  | k + 1 => by
    have := bestL_full xs s k
    unfold bestL
    split <;> omega
theorem bestL_le (xs : List (List UInt8)) (s : List UInt8) (k : Nat) (hs : s.length ≤ 1000000) : (bestL xs s k).length ≤ s.length + 30 :=
  Nat.le_trans (bestL_full xs s k) (fullL_le s hs)
theorem deltaL_le (a b : List UInt8) (hb : b.length ≤ 1000000) : (deltaL a b).length ≤ b.length + 30 := Nat.le_trans (delta_le a b) (insL_le b hb)
theorem viaL_le (i : Nat) (d : List UInt8) (hi : i ≤ 1000000) (hd : d.length ≤ 1000000) : (viaL i d).length ≤ d.length + 50 := by
  have := Lib.itoa_length_le (d.length : Int) (by omega) (by omega)
  have := Lib.itoa_length_le (i : Int) (by omega) (by omega)
  unfold viaL
  simp only [List.length_append, List.length_cons]; omega
theorem atL_le {xs : List (List UInt8)} {m : Nat} (h : ∀ s ∈ xs, s.length ≤ m) (k : Nat) : (atL xs k).length ≤ m := by
  unfold atL
  rw [List.getD_eq_getElem?_getD]
  cases hx : xs[k]? with
  | none => simp
  | some x => exact h x (List.mem_of_getElem? hx)
theorem atL_some {xs : List (List UInt8)} {k : Nat} {x : List UInt8} (h : xs[k]? = some x) : atL xs k = x := by
  unfold atL
  rw [List.getD_eq_getElem?_getD, h]; rfl
theorem packL_le (xs : List (List UInt8)) (m : Nat) (hm : m ≤ 10000) (h : ∀ s ∈ xs, s.length ≤ m) : ∀ k, (packL xs k).length ≤ (m + 31) * k
  | 0 => by simp [packL]
  | k + 1 => by
    have h1 := packL_le xs m hm h k
    have h2 := atL_le h k
    have h3 := bestL_le xs (atL xs k) k (by omega)
    unfold packL lineL
    simp only [List.length_append, List.length_cons, List.length_nil]
    have e : (m + 31) * (k + 1) = (m + 31) * k + (m + 31) := Nat.mul_succ _ _
    omega
theorem nextX_full (xs : List (List UInt8)) (s r : List UInt8) (hs : s.length ≤ 1000000) : nextX xs (fullL s ++ 10 :: r) = (0, s, r) := by
  have e : fullL s ++ 10 :: r = 61 :: (Lib.itoa (s.length : Int) ++ 58 :: (s ++ 10 :: r)) := by unfold fullL; simp
  rw [e, nextX_61, bodyX_of s r hs, if_pos rfl]
theorem nextX_via (xs : List (List UInt8)) (a s r : List UInt8) (i : Nat) (ha : a.length ≤ 1000000) (hs : s.length ≤ 10000) (hi : i < 1000000) (hx : xs[i]? = some a) : nextX xs (viaL i (deltaL a s) ++ 10 :: r) = (0, s, r) := by
  have hd := deltaL_le a s (by omega)
  obtain ⟨d, hde⟩ : ∃ d, deltaL a s = d := ⟨_, rfl⟩
  have hap := apply_delta a s ha hs
  rw [hde] at hap hd
  rw [hde]
  have e : viaL i d ++ 10 :: r = 126 :: (Lib.itoa (i : Int) ++ 58 :: (Lib.itoa (d.length : Int) ++ 58 :: (d ++ 10 :: r))) := by unfold viaL; simp
  obtain ⟨h1, h2, h3⟩ := len_of (c := 58) (by decide) (n := (i : Int)) (by omega) (by omega) (Lib.itoa (d.length : Int) ++ 58 :: (d ++ 10 :: r))
  have hb := bodyX_of d r (by omega)
  rw [e, nextX_126]
  unfold viaX
  have hn : ((i : Int)).toNat = i := by simp
  rw [h1, h3, h2, hb, hn, if_pos ⟨rfl, rfl⟩, hx]
  simp only
  rw [hap]
theorem nextX_best (xs ys : List (List UInt8)) (s r : List UInt8) (hs : s.length ≤ 10000) (hx : ∀ x ∈ xs, x.length ≤ 1000000) : ∀ k, k ≤ xs.length → k < 1000000 → (∀ i, i < k → ys[i]? = xs[i]?) → nextX ys (bestL xs s k ++ 10 :: r) = (0, s, r)
  | 0, _, _, _ => nextX_full ys s r (by omega)
  | k + 1, hk, hk2, hy => by
    have ih := nextX_best xs ys s r hs hx k (by omega) (by omega) (fun i hi => hy i (by omega))
    unfold bestL
    split
    · have hg : xs[k]? = some xs[k] := List.getElem?_eq_getElem (by omega)
      have ha : atL xs k = xs[k] := atL_some hg
      rw [ha]
      exact nextX_via ys xs[k] s r k (hx _ (List.getElem_mem _)) hs (by omega) (by rw [hy k (by omega)]; exact hg)
    · exact ih
/-- what was packed is unpacked -/
theorem unp_pack (xs : List (List UInt8)) (hd : xs.Nodup) (hf : xs.length ≤ 1000) (hs : ∀ x ∈ xs, x.length ≤ 10000) : ∀ k, k ≤ xs.length → ∀ t, unpF [] (packL xs k ++ t) = unpF (xs.take k) t
  | 0, _, t => by simp [packL]
  | k + 1, hk, t => by
    have ih := unp_pack xs hd hf hs k (by omega)
    have hg : xs[k]? = some xs[k] := List.getElem?_eq_getElem (by omega)
    have ha : atL xs k = xs[k] := atL_some hg
    have hsk := hs _ (List.getElem_mem (show k < xs.length by omega))
    have hnx := nextX_best xs (xs.take k) xs[k] t hsk (fun x hx => by have := hs x hx; omega) k (by omega) (by omega) (fun i hi => List.getElem?_take_of_lt hi)
    have hnot : xs[k] ∉ xs.take k := by
      intro h
      obtain ⟨i, hi, he⟩ := List.getElem_of_mem h
      rw [List.length_take] at hi
      rw [List.getElem_take] at he
      have := (List.getElem_inj (h₀ := by omega) (h₁ := by omega) hd).1 he
      omega
    obtain ⟨p1, _, p3⟩ := put_new hsk hnot (by rw [List.length_take]; omega)
    have hfr : freshC (xs.take k) xs[k] = 0 := by unfold freshC; rw [if_neg hnot, p1]
    have e : packL xs (k + 1) ++ t = packL xs k ++ (bestL xs xs[k] k ++ 10 :: t) := by
      show packL xs k ++ (bestL xs (atL xs k) k ++ [10]) ++ t = _
      rw [ha]; simp
    have hne : bestL xs xs[k] k ++ 10 :: t ≠ [] := by simp
    rw [e, ih, unpF_step hne (by rw [hnx]) (by rw [hnx]; exact hfr), hnx]
    show unpF (putL (xs.take k) xs[k]) t = _
    rw [p3, List.take_succ_eq_append_getElem]
theorem unp_all (xs : List (List UInt8)) (hd : xs.Nodup) (hf : xs.length ≤ 1000) (hs : ∀ x ∈ xs, x.length ≤ 10000) : unpF [] (packL xs xs.length) = (0, xs) := by
  have h := unp_pack xs hd hf hs xs.length (Nat.le_refl _) []
  rw [List.append_nil, List.take_length, unpF_nil] at h
  exact h
/-- a pack is not too great -/
theorem packL_ents (xs : List (List UInt8)) : ∀ k, k ≤ xs.length → (packL xs k).length ≤ (entsL (xs.take k)).length + k
  | 0, _ => by simp [packL]
  | k + 1, hk => by
    have ih := packL_ents xs k (by omega)
    have hg : xs[k]? = some xs[k] := List.getElem?_eq_getElem (by omega)
    have hb := bestL_full xs (atL xs k) k
    rw [take_snoc hg]
    rw [atL_some hg] at hb
    unfold packL lineL
    rw [atL_some hg]
    unfold fullL at hb
    unfold entL
    simp only [List.length_append, List.length_cons, List.length_nil] at hb ⊢
    omega
/-- how great a delta may be -/
theorem delta_most (a b : List UInt8) : (deltaL a b).length ≤ if b = [] then 0 else (Lib.itoa (b.length : Int)).length + b.length + 3 := by
  have h := delta_le a b
  unfold insL at h
  split
  · rename_i e; rw [if_pos e] at h; simpa using h
  · rename_i e
    rw [if_neg e] at h
    simp only [List.length_append, List.length_cons, List.length_nil] at h
    omega
end Pk
end Go.Proofs.YtmlndamkcipebaaDoor
namespace Go.Proofs.YtmlndamkcipebaaDoor
open Go Go.RowKit Lmd
namespace Pk
open Rul Day Tp Cand Pl

theorem full_cat (s : List UInt8) : (⟨#[61]⟩ : ByteArray) ++ mk (Lib.itoa (s.length : Int)) ++ ⟨#[58]⟩ ++ mk s = mk (fullL s) := by
  have e0 : (⟨#[61]⟩ : ByteArray) = mk [61] := rfl
  have e1 : (⟨#[58]⟩ : ByteArray) = mk [58] := rfl
  rw [e0, e1, mk_cat, mk_cat, mk_cat]
  unfold fullL
  simp
theorem via_cat (i : Nat) (d : List UInt8) : (⟨#[126]⟩ : ByteArray) ++ mk (Lib.itoa (i : Int)) ++ ⟨#[58]⟩ ++ mk (Lib.itoa (d.length : Int)) ++ ⟨#[58]⟩ ++ mk d = mk (viaL i d) := by
  have e0 : (⟨#[126]⟩ : ByteArray) = mk [126] := rfl
  have e1 : (⟨#[58]⟩ : ByteArray) = mk [58] := rfl
  rw [e0, e1, mk_cat, mk_cat, mk_cat, mk_cat, mk_cat]
  unfold viaL
  simp
theorem line_cat (l : List UInt8) : mk l ++ ⟨#[10]⟩ = mk (l ++ [10]) := by
  have e0 : (⟨#[10]⟩ : ByteArray) = mk [10] := rfl
  rw [e0, mk_cat]
set_option maxRecDepth 100000 in
set_option maxHeartbeats 1000000 in
theorem line_any (w : World) (base p m : Nat) (v : Value) (xs : List (List UInt8)) (k : Nat) (h : Is w base p v m xs) (hk : k < xs.length) (htab : Lib.TabIs Tryd.prog w "internal/strconv.uint64pow10" .u64 Lib.pow10Tab) :
    Calls Tryd.prog 66 #[.pointer (some ⟨p, 0, none⟩), .int .i64 (k : Int)] w fun er w' => er = .returned (.string (mk (lineL xs k))) ∧ Below w.heap.size w w' := by
  obtain ⟨s, hs⟩ : ∃ s, xs[k]? = some s := ⟨_, List.getElem?_eq_getElem hk⟩
  have hsl : s.length ≤ 10000 := h.small s (List.mem_of_getElem? hs)
  have hg := get_any w base p m v xs k s h hs
  have hat := atL_some hs
  have hfew := h.few
  have H := Lib.hid h
  have HT := Lib.hid htab
  have HG := Lib.hid hg
  have HAT := Lib.hid hat
  clear h htab hg hat hs
  go_enter Tryd.func66, Tryd.ntmps66
  go_wp2_with fail
  (with_reducible refine HG.out.mono ?_)
  rintro e1 w1 ⟨rfl, hb1⟩
  have hit := itoa_b (s.length : Int) (by omega) (by omega) w1 (Frame.tab_below (g := 12) (by kernel_rfl) hb1 HT.out)
  have hil := Lib.itoa_length_le (s.length : Int) (by omega) (by omega)
  have hfc := full_cat s
  have hz : (mk s).size = s.length := rfl
  obtain ⟨I, hI⟩ : ∃ I, Lib.itoa (s.length : Int) = I := ⟨_, rfl⟩
  rw [hI] at hit hil hfc
  have HIT := Lib.hid hit
  have HFC := Lib.hid hfc
  have HB1 := Lib.hid hb1
  clear hit hfc hb1 hI HG
  go_wp2_with fail
  (with_reducible refine HIT.out.mono ?_)
  rintro e2 w2 ⟨rfl, hb2⟩
  have HB2 := Lib.hid (HB1.out.trans (hb2.mono HB1.out.size))
  clear hb2 HIT
  go_wp2_with fail
  have hfl := HFC.out
  rw [hfl]
  have HFL := Lib.hid hfl
  clear hfl HFC
  go_loopw [7, 29] (fun ov iv wr => ∃ j : Nat, iv = .int .i64 j ∧ ov = .string (mk (bestL xs s j)) ∧ j ≤ k ∧ Below w.heap.size w wr) (fun _ iv _ => k - (intOf iv).toNat)
  case atStart => exact ⟨0, rfl, rfl, Nat.zero_le _, HB2.out⟩
  case round =>
    obtain ⟨j, rfl, rfl, hj, hlow⟩ := hrel
    have hbl := bestL_le xs s j (by omega)
    obtain ⟨O, hO⟩ : ∃ O, bestL xs s j = O := ⟨_, rfl⟩
    rw [hO] at hbl ⊢
    have HO := Lib.hid hO
    clear hO
    by_cases hlt : j < k
    · obtain ⟨a, ha⟩ : ∃ a, xs[j]? = some a := ⟨_, List.getElem?_eq_getElem (by omega)⟩
      have hal : a.length ≤ 10000 := H.out.small a (List.mem_of_getElem? ha)
      have hi1 : (j : Int) < (k : Int) := by omega
      have hg := get_any wr base p m v xs j a (H.out.below hlow) ha
      have hatj := atL_some ha
      have HG := Lib.hid hg
      have HLOW := Lib.hid hlow
      have HATJ := Lib.hid hatj
      clear hg hlow hatj ha
      go_wp2_with fail
      (with_reducible refine HG.out.mono ?_)
      rintro e3 w3 ⟨rfl, hb3⟩
      have hl3 := HLOW.out.trans (hb3.mono HLOW.out.size)
      have ht3 : Lib.TabIs Tryd.prog w3 "internal/strconv.uint64pow10" .u64 Lib.pow10Tab := Frame.tab_below (g := 12) (by kernel_rfl) hl3 HT.out
      have hde := delta_any a s w3 (by omega) (by omega) ht3
      have hdl := deltaL_le a s (by omega)
      obtain ⟨d, hd⟩ : ∃ d, deltaL a s = d := ⟨_, rfl⟩
      rw [hd] at hde hdl
      have HDE := Lib.hid hde
      have HD := Lib.hid hd
      have HL3 := Lib.hid hl3
      clear hde hd hl3 ht3 hb3 HG
      go_wp2_with fail
      (with_reducible refine HDE.out.mono ?_)
      rintro e4 w4 ⟨rfl, hb4⟩
      have hl4 := HL3.out.trans (hb4.mono HL3.out.size)
      have ht4 : Lib.TabIs Tryd.prog w4 "internal/strconv.uint64pow10" .u64 Lib.pow10Tab := Frame.tab_below (g := 12) (by kernel_rfl) hl4 HT.out
      have hi4 := itoa_b (j : Int) (by omega) (by omega) w4 ht4
      have hj4 := Lib.itoa_length_le (j : Int) (by omega) (by omega)
      have hj5 := Lib.itoa_length_le (d.length : Int) (by omega) (by omega)
      have hvc := via_cat j d
      obtain ⟨J, hJ⟩ : ∃ J, Lib.itoa (j : Int) = J := ⟨_, rfl⟩
      obtain ⟨E, hE⟩ : ∃ E, Lib.itoa (d.length : Int) = E := ⟨_, rfl⟩
      rw [hJ] at hi4 hj4 hvc
      rw [hE] at hj5 hvc
      have HI4 := Lib.hid hi4
      have HL4 := Lib.hid hl4
      have HVC := Lib.hid hvc
      have HE := Lib.hid hE
      have HJ := Lib.hid hJ
      clear hi4 hl4 ht4 hb4 hvc hJ hE HDE
      go_wp2_with fail
      (with_reducible refine HI4.out.mono ?_)
      rintro e5 w5 ⟨rfl, hb5⟩
      have hl5 := HL4.out.trans (hb5.mono HL4.out.size)
      have ht5 : Lib.TabIs Tryd.prog w5 "internal/strconv.uint64pow10" .u64 Lib.pow10Tab := Frame.tab_below (g := 12) (by kernel_rfl) hl5 HT.out
      have hi5 := itoa_b (d.length : Int) (by omega) (by omega) w5 ht5
      rw [HE.out] at hi5
      have hdz : (mk d).size = d.length := rfl
      have HI5 := Lib.hid hi5
      have HL5 := Lib.hid hl5
      clear hi5 hl5 ht5 hb5 HI4
      go_wp2_with fail
      (with_reducible refine HI5.out.mono ?_)
      rintro e6 w6 ⟨rfl, hb6⟩
      have HL6 := Lib.hid (HL5.out.trans (hb6.mono HL5.out.size))
      clear hb6 HI5
      have hb : bestL xs s (j + 1) = if (viaL j d).length < O.length then viaL j d else O := by
        show (if (viaL j (deltaL (atL xs j) s)).length < (bestL xs s j).length then _ else _) = _
        rw [HATJ.out, HD.out, HO.out]
      have hvl : (viaL j d).length = 1 + J.length + 1 + E.length + 1 + d.length := by
        unfold viaL
        rw [HJ.out, HE.out]
        simp only [List.length_append, List.length_cons]; omega
      have HBE := Lib.hid hb
      have HVL := Lib.hid hvl
      clear hb hvl
      go_wp2_with fail
      all_goals (
        rename_i hcmp
        have hvl := HVL.out
        refine ⟨⟨j + 1, by go_num, ?_, hlt, HL6.out⟩, by simp [intOf]; omega⟩
        rw [HBE.out]
        first
          | (rw [if_pos (by omega), ← HVC.out]; done)
          | (rw [if_pos (by omega), ← HVC.out]; rfl)
          | rw [if_neg (by omega)])
    · have hi1 : ¬ (j : Int) < (k : Int) := by omega
      have hjk : j = k := by omega
      have hll : lineL xs k = O ++ [10] := by
        unfold lineL
        rw [HAT.out, ← hjk, HO.out]
      have hlc := line_cat O
      have HLL := Lib.hid hll
      have HLC := Lib.hid hlc
      have HLOW := Lib.hid hlow
      clear hjk hll hlc hlow
      go_wp2_with fail
      go_ret
      exact ⟨by rw [HLL.out, ← HLC.out]; rfl, HLOW.out⟩
end Pk
end Go.Proofs.YtmlndamkcipebaaDoor
namespace Go.Proofs.YtmlndamkcipebaaDoor
open Go Go.RowKit Lmd
namespace Pk
open Rul Day Tp Cand Pl

/-- the state of the loop of Pack -/
structure PkAt (xs : List (List UInt8)) (b : Nat) (W1 : World) (k : Nat) (W : World) : Prop where
  bd : Bd.Is b b (packL xs k) W
  low : Below b W1 W
  le : k ≤ xs.length
set_option maxRecDepth 100000 in
set_option maxHeartbeats 1000000 in
theorem pack_any (w : World) (base p m : Nat) (v : Value) (xs : List (List UInt8)) (h : Is w base p v m xs) (htab : Lib.TabIs Tryd.prog w "internal/strconv.uint64pow10" .u64 Lib.pow10Tab) :
    Calls Tryd.prog 34 #[.pointer (some ⟨p, 0, none⟩)] w fun e w' => e = .returned (.string (mk (packL xs xs.length))) ∧ Below w.heap.size w w' := by
  have hB0 : Below w.heap.size w (w.alloc (.cells #[.pointer none, .slice none 0 0] 98)) := (Below.refl _ w).alloc (Nat.le_refl _) _
  obtain ⟨W1, hW1⟩ : ∃ W1, w.alloc (.cells #[.pointer none, .slice none 0 0] 98) = W1 := ⟨_, rfl⟩
  have hB1 := hB0
  have hnew := Bd.new_is w
  rw [hW1] at hnew hB1
  have hsz1 : W1.heap.size = w.heap.size + 1 := by rw [← hW1]; simp
  have hln := len_any W1 base p m v xs (h.below hB1)
  have H := Lib.hid h
  have HT := Lib.hid htab
  have HW1 := Lib.hid hW1
  have HB1 := Lib.hid hB1
  have HNEW := Lib.hid hnew
  have HZ := Lib.hid hsz1
  have HLN := Lib.hid hln
  have hfew := h.few
  clear h htab hW1 hB1 hnew hsz1 hB0 hln
  go_enter Tryd.func34, Tryd.ntmps34
  go_wp2_with fail
  rw [HW1.out]
  (with_reducible refine HLN.out.mono ?_)
  rintro e0 w0 ⟨rfl, rfl⟩
  go_wp2_with fail
  go_loopw [7] (fun i wr => ∃ k : Nat, i = .int .i64 k ∧ PkAt xs w.heap.size w0 k wr) (fun i _ => xs.length - (intOf i).toNat)
  case atStart => exact ⟨0, rfl, HNEW.out, Below.refl _ _, Nat.zero_le _⟩
  case round =>
    obtain ⟨k, rfl, hat⟩ := hrel
    have hle := hat.le
    have hall : Below w.heap.size w wr := HB1.out.trans hat.low
    have hszr : w.heap.size ≤ wr.heap.size := hall.size
    by_cases hlt : k < xs.length
    · have hi1 : (k : Int) < (xs.length : Int) := by omega
      have hlk := packL_le xs 10000 (by omega) H.out.small k
      have hlk2 := packL_le xs 10000 (by omega) H.out.small (k + 1)
      have hsum : (packL xs k).length + (lineL xs k).length ≤ 1000000000 := by
        have e : (packL xs (k + 1)).length = (packL xs k).length + (lineL xs k).length := by
          show (packL xs k ++ lineL xs k).length = _
          rw [List.length_append]
        omega
      have hli := line_any wr base p m v xs k (H.out.below hall) hlt (Frame.tab_below (g := 12) (by kernel_rfl) hall HT.out)
      have HAT := Lib.hid hat
      have HALL := Lib.hid hall
      have HLI := Lib.hid hli
      have HSUM := Lib.hid hsum
      clear hat hall hli hlk hlk2 hsum
      go_wp2_with fail
      (with_reducible refine HLI.out.mono ?_)
      rintro e1 w1 ⟨rfl, hb1⟩
      have hbd := HAT.out.bd.below hb1
      have hw := Bd.write_any w.heap.size w.heap.size (packL xs k) (mk (lineL xs k)) w1 hbd (by exact HSUM.out) (by have := hb1.size; omega)
      have HW := Lib.hid hw
      have HB2 := Lib.hid hb1
      clear hbd hw hb1 HLI
      go_wp2_with fail
      (with_reducible refine HW.out.mono ?_)
      rintro e2 w2 ⟨rfl, hbd2, hb3⟩
      have hat2 : PkAt xs w.heap.size w0 (k + 1) w2 := ⟨hbd2, HAT.out.low.trans ((HB2.out.mono hszr).trans hb3), hlt⟩
      have HAT2 := Lib.hid hat2
      clear hbd2 hb3 hat2
      go_wp2_with fail
      go_roundw
      case rel => exact ⟨k + 1, by go_num, HAT2.out⟩
      case measure => simp [intOf]; omega
    · obtain rfl : k = xs.length := by omega
      have hi1 : ¬ (xs.length : Int) < (xs.length : Int) := by omega
      have hbd := hat.bd
      have HBD := Lib.hid hbd
      have HALL := Lib.hid hall
      clear hbd hat hall
      go_wp2_with fail
      refine (Bd.string_any w.heap.size w.heap.size (packL xs xs.length) _ HBD.out hszr).mono ?_
      rintro e3 w3 ⟨rfl, hb3⟩
      have HF := Lib.hid (HALL.out.trans hb3)
      clear hb3
      go_wp2_with fail
      go_ret
      exact ⟨rfl, HF.out⟩
end Pk
end Go.Proofs.YtmlndamkcipebaaDoor
