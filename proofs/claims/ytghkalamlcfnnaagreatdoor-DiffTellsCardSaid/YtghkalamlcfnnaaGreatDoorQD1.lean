/- RefRdDay, RefCut, RefWeek, RefReadRule: texts joined. -/
import Derived.Test.YtghkalamlcfnnaaGreatDoorQB1
import Derived.RegionTactic
import Derived.BigRegion
import Derived.ChangeAlike
import Derived.Test.YtghkalamlcfnnaaGreatDoorQNumPlain
import Derived.Test.YtghkalamlcfnnaaGreatDoorQA13
import Derived.Test.YtghkalamlcfnnaaGreatDoorQA6
import Derived.Maps.AppendAt
import Derived.Test.YtghkalamlcfnnaaGreatDoorQRuleRead
import Derived.Test.YtghkalamlcfnnaaGreatDoorQA12
section
namespace Go.Proofs.YtghkalamlcfnnaaGreatDoor
open Go.RowKit Lmd
namespace Ref
open Day
def nA (l : List UInt8) (i : Nat) : Int := Cal.numV (l.take (min i 4))
def nB (l : List UInt8) (i : Nat) : Int := Cal.numV ((l.drop 5).take (min (i - 5) 2))
def nC (l : List UInt8) (i : Nat) : Int := Cal.numV ((l.drop 8).take (i - 8))
def kOf (i : Nat) : Int := if i ≤ 4 then 0 else if i ≤ 7 then 1 else 2
def okAt (l : List UInt8) (i : Nat) : Bool := if i = 4 ∨ i = 7 then decide (l[i]? = some 45) else (match l[i]? with | some c => Cal.isD c | none => false)
def okTo (l : List UInt8) (i : Nat) : Bool := (List.range i).all (okAt l)
theorem okTo_succ (l : List UInt8) (i : Nat) : okTo l (i + 1) = (okTo l i && okAt l i) := by simp [okTo, List.range_succ]
theorem ten (l : List UInt8) (h : l.length = 10) : ∃ a b c d e f g i j k, l = [a, b, c, d, e, f, g, i, j, k] := by
  match l, h with
  | [a, b, c, d, e, f, g, i, j, k], _ => exact ⟨a, b, c, d, e, f, g, i, j, k, rfl⟩
theorem okTo_ten (l : List UInt8) (h : l.length = 10) : okTo l 10 = Cal.shapeB l := by
  obtain ⟨a, b, c, d, e, f, g, i, j, k, rfl⟩ := ten l h
  simp only [okTo, okAt, Cal.shapeB, Cal.digs, List.range, List.range.loop, List.all_cons, List.all_nil]
  simp
  cases (decide (e = 45)) <;> cases (decide (i = 45)) <;> cases Cal.isD a <;> cases Cal.isD b <;> cases Cal.isD c <;> cases Cal.isD d <;> cases Cal.isD f <;> cases Cal.isD g <;> cases Cal.isD j <;> cases Cal.isD k <;> rfl
theorem okTo_bad (l : List UInt8) (i : Nat) (h : okAt l i = false) (hi : i < 10) (hl : l.length = 10) : Cal.shapeB l = false := by
  rw [← okTo_ten l hl]
  unfold okTo
  rw [List.all_eq_false]
  exact ⟨i, by simp; omega, by simp [h]⟩
theorem nA_lo (l : List UInt8) (i : Nat) (hi : i < 4) (hl : l.length = 10) : nA l (i + 1) = 10 * nA l i + ((l[i].toNat : Int) - 48) := by
  unfold nA
  rw [show min (i + 1) 4 = i + 1 from by omega, show min i 4 = i from by omega, List.take_succ_eq_append_getElem (by omega), Cal.numV_snoc]
theorem nA_hi (l : List UInt8) (i : Nat) (hi : 4 ≤ i) : nA l (i + 1) = nA l i := by
  unfold nA; rw [show min (i + 1) 4 = 4 from by omega, show min i 4 = 4 from by omega]
theorem nB_lo (l : List UInt8) (i : Nat) (hi : i < 5) : nB l (i + 1) = nB l i := by
  unfold nB; rw [show i + 1 - 5 = i - 5 from by omega]
theorem nB_mid (l : List UInt8) (i : Nat) (hi : 5 ≤ i) (h2 : i < 7) (hl : l.length = 10) : nB l (i + 1) = 10 * nB l i + ((l[i].toNat : Int) - 48) := by
  unfold nB
  rw [show min (i + 1 - 5) 2 = (i - 5) + 1 from by omega, show min (i - 5) 2 = i - 5 from by omega, List.take_succ_eq_append_getElem (by simp; omega), Cal.numV_snoc]
  simp [show 5 + (i - 5) = i from by omega]
theorem nB_hi (l : List UInt8) (i : Nat) (hi : 7 ≤ i) : nB l (i + 1) = nB l i := by
  unfold nB; rw [show min (i + 1 - 5) 2 = 2 from by omega, show min (i - 5) 2 = 2 from by omega]
theorem nC_lo (l : List UInt8) (i : Nat) (hi : i < 8) : nC l (i + 1) = nC l i := by
  unfold nC; rw [show i + 1 - 8 = i - 8 from by omega]
theorem nC_hi (l : List UInt8) (i : Nat) (hi : 8 ≤ i) (h2 : i < 10) (hl : l.length = 10) : nC l (i + 1) = 10 * nC l i + ((l[i].toNat : Int) - 48) := by
  unfold nC
  rw [show i + 1 - 8 = (i - 8) + 1 from by omega, List.take_succ_eq_append_getElem (by simp; omega), Cal.numV_snoc]
  simp [show 8 + (i - 8) = i from by omega]
theorem digs_of (l : List UInt8) (h : ∀ i (hi : i < l.length), Cal.isD l[i] = true) : Cal.digs l = true := by
  unfold Cal.digs
  rw [List.all_eq_true]
  intro x hx
  obtain ⟨i, hi, rfl⟩ := List.getElem_of_mem hx
  exact h i hi
theorem okTo_at (l : List UInt8) (i j : Nat) (h : okTo l i = true) (hj : j < i) : okAt l j = true := by
  unfold okTo at h
  rw [List.all_eq_true] at h
  exact h j (by simp; omega)
theorem okAt_dig (l : List UInt8) (j : Nat) (hj : j < l.length) (h : okAt l j = true) (h4 : j ≠ 4) (h7 : j ≠ 7) : Cal.isD l[j] = true := by
  unfold okAt at h
  rw [if_neg (by omega), List.getElem?_eq_getElem hj] at h
  exact h
theorem part_bd (l : List UInt8) (a k i : Nat) (hl : l.length = 10) (hk : k ≤ 4) (hi : a + k ≤ i ∨ k = 0) (hr : ∀ j, a ≤ j → j < a + k → j ≠ 4 ∧ j ≠ 7) (ha : a + k ≤ 10 ∨ k = 0) (h : okTo l i = true) :
    0 ≤ Cal.numV ((l.drop a).take k) ∧ Cal.numV ((l.drop a).take k) ≤ 9999999999 := by
  refine Cal.numV_small _ (by simp; omega) (digs_of _ fun j hj => ?_)
  have hj' : j < k ∧ a + j < 10 := by simp [hl] at hj; omega
  rw [List.getElem_take, List.getElem_drop]
  have hr' := hr (a + j) (by omega) (by omega)
  exact okAt_dig l (a + j) (by omega) (okTo_at l i (a + j) h (by omega)) hr'.1 hr'.2
theorem nA_bd (l : List UInt8) (i : Nat) (hl : l.length = 10) (hi : i ≤ 10) (h : okTo l i = true) : 0 ≤ nA l i ∧ nA l i ≤ 9999999999 := by
  have := part_bd l 0 (min i 4) i hl (by omega) (by omega) (fun j _ h => by omega) (by omega) h
  simpa [nA] using this
theorem nB_bd (l : List UInt8) (i : Nat) (hl : l.length = 10) (_ : i ≤ 10) (h : okTo l i = true) : 0 ≤ nB l i ∧ nB l i ≤ 9999999999 :=
  part_bd l 5 (min (i - 5) 2) i hl (by omega) (by omega) (fun j _ h => by omega) (by omega) h
theorem nC_bd (l : List UInt8) (i : Nat) (hl : l.length = 10) (hi : i ≤ 10) (h : okTo l i = true) : 0 ≤ nC l i ∧ nC l i ≤ 9999999999 :=
  part_bd l 8 (i - 8) i hl (by omega) (by omega) (fun j _ h => by omega) (by omega) h
theorem okAt_sign (l : List UInt8) (j : Nat) (hj : j < l.length) (h : j = 4 ∨ j = 7) : okAt l j = decide (l[j] = 45) := by
  unfold okAt
  rw [if_pos h, List.getElem?_eq_getElem hj]; simp
theorem okAt_num (l : List UInt8) (j : Nat) (hj : j < l.length) (h4 : j ≠ 4) (h7 : j ≠ 7) : okAt l j = Cal.isD l[j] := by
  unfold okAt
  rw [if_neg (by omega), List.getElem?_eq_getElem hj]
abbrev cells3 (a b c : Int) : Obj := .cells #[.int .i64 a, .int .i64 b, .int .i64 c] 3
set_option maxHeartbeats 400000 in
theorem readDay_len (s : ByteArray) (w : World) (h : s.size ≠ 10) :
    Calls Tryz.prog 136 #[.string s] w fun e w' => e = .returned (.tuple #[.int .i64 0, .int .i64 1]) ∧ w = w' := by
  have z3 : ((s.size : Int) != 10) = true := by rw [bne_iff_ne]; omega
  clear h
  go_enter Tryz.func136, Tryz.ntmps136
  go_wp2
  go_ret2
  exact ⟨rfl, rfl⟩
def RdPost (s : ByteArray) (w : World) (e : Ending) (w' : World) : Prop := Below w.heap.size w w' ∧
  (Cal.shapeB s.data.toList = false ∧ e = .returned (.tuple #[.int .i64 0, .int .i64 1]) ∨ Cal.shapeB s.data.toList = true ∧ ∃ x c : Int, e = .returned (.tuple #[.int .i64 x, .int .i64 c]) ∧
    (Cal.Ok (Cal.yOf s.data.toList) (Cal.mOf s.data.toList) (Cal.dOf s.data.toList) ∧ x = Cal.num (Cal.yOf s.data.toList) (Cal.mOf s.data.toList) (Cal.dOf s.data.toList) ∧ c = 0 ∨
      ¬ Cal.Ok (Cal.yOf s.data.toList) (Cal.mOf s.data.toList) (Cal.dOf s.data.toList) ∧ x = 0 ∧ c = 2))
theorem makeDay_ok' (y m d : Int) (w : World) (h : Cal.Ok y m d) :
    Calls Tryz.prog 194 #[.int .i64 y, .int .i64 m, .int .i64 d] w fun e w' => e = .returned (.tuple #[.int .i64 (Cal.num y m d), .int .i64 0]) ∧ w' = w :=
  (makeDay_ok y m d w h).mono fun _ _ h => ⟨h.1, h.2.symm⟩
theorem makeDay_err' (y m d : Int) (w : World) (h : ¬ Cal.Ok y m d) :
    Calls Tryz.prog 194 #[.int .i64 y, .int .i64 m, .int .i64 d] w fun e w' => e = .returned (.tuple #[.int .i64 0, .int .i64 2]) ∧ w' = w :=
  (makeDay_err y m d w h).mono fun _ _ h => ⟨h.1, h.2.symm⟩
theorem RdPost.bad {s : ByteArray} {w : World} {q : Nat} {o : Obj} (h : Cal.shapeB s.data.toList = false) : RdPost s w (.returned (.tuple #[.int .i64 0, .int .i64 1])) ((w.alloc o).drewN q) :=
  ⟨below_drewN ((Below.refl _ w).alloc (Nat.le_refl _) _) q, Or.inl ⟨h, rfl⟩⟩
theorem set3 (w : World) (q : Nat) (a b c x : Int) :
    ((w.alloc (cells3 a b c)).drewN q).setCell ⟨w.heap.size, 0, none⟩ (.int .i64 x) = (w.alloc (cells3 x b c)).drewN q ∧
    ((w.alloc (cells3 a b c)).drewN q).setCell ⟨w.heap.size, 1, none⟩ (.int .i64 x) = (w.alloc (cells3 a x c)).drewN q ∧
    ((w.alloc (cells3 a b c)).drewN q).setCell ⟨w.heap.size, 2, none⟩ (.int .i64 x) = (w.alloc (cells3 a b x)).drewN q := by
  have key : ∀ (j : Nat), ((w.alloc (cells3 a b c)).drewN q).setCell ⟨w.heap.size, j, none⟩ (.int .i64 x) = ((w.alloc (cells3 a b c)).setCell ⟨w.heap.size, j, none⟩ (.int .i64 x)).drewN q := fun _ => rfl
  refine ⟨?_, ?_, ?_⟩ <;> rw [key, World.setCell_alloc_at _ _ _ _ _ rfl] <;> rfl
set_option maxRecDepth 100000 in
set_option maxHeartbeats 4000000 in
theorem readDay_ten (s : ByteArray) (w : World) (hz : s.size = 10) :
    Calls Tryz.prog 136 #[.string s] w (RdPost s w) := by
  have z3 : ((s.size : Int) != 10) = false := by rw [hz]; rfl
  have z1 : s.size ≤ 10 := by omega
  have z2 : 10 ≤ s.size := by omega
  have HZ := Lib.hid hz
  clear hz
  have hL : s.data.toList.length = 10 := HZ.out
  have HL := Lib.hid hL
  clear hL
  go_enter Tryz.func136, Tryz.ntmps136
  go_wp2
  go_loopw [5, 6] (fun kk ii wr => ∃ i q : Nat, i ≤ 10 ∧ ii = .int .i64 i ∧ kk = .int .i64 (kOf i) ∧ okTo s.data.toList i = true ∧ wr = (w.alloc (cells3 (nA s.data.toList i) (nB s.data.toList i) (nC s.data.toList i))).drewN q) (fun _ ii _ => 10 - (intOf ii).toNat)
  case atStart => exact ⟨0, 0, by omega, rfl, rfl, rfl, rfl⟩
  case round =>
    obtain ⟨i, q, hi, rfl, rfl, hok, rfl⟩ := hrel
    have HOK := Lib.hid hok
    have bA := nA_bd s.data.toList i HL.out hi hok
    have bB := nB_bd s.data.toList i HL.out hi hok
    have bC := nC_bd s.data.toList i HL.out hi hok
    clear hok
    have hcase : i < 4 ∨ i = 4 ∨ (5 ≤ i ∧ i < 7) ∨ i = 7 ∨ (8 ≤ i ∧ i < 10) ∨ i = 10 := by omega
    rcases hcase with c1 | c1 | c1 | c1 | c1 | c1
    · have k0 : kOf i = 0 := by unfold kOf; rw [if_pos (by omega)]
      have k1 : kOf (i + 1) = 0 := by unfold kOf; rw [if_pos (by omega)]
      rw [k0]
      have K1 := Lib.hid k1
      have e4 : ((i : Int) == 4) = false := by rw [beq_eq_false_iff_ne]; omega
      have e7 : ((i : Int) == 7) = false := by rw [beq_eq_false_iff_ne]; omega
      have hi' : (i : Int) < 10 := by omega
      have hlt : i < s.size := by omega
      have NA : Hid (nA s.data.toList (i + 1) = 10 * nA s.data.toList i + ((s[i].toNat : Int) - 48)) := nA_lo s.data.toList i (by omega) HL.out
      have NB : Hid (nB s.data.toList (i + 1) = nB s.data.toList i) := nB_lo _ _ (by omega)
      have NC : Hid (nC s.data.toList (i + 1) = nC s.data.toList i) := nC_lo _ _ (by omega)
      have OKI : Hid (okAt s.data.toList i = Cal.isD s[i]) := okAt_num s.data.toList i (by have := HL.out; omega) (by omega) (by omega)
      clear k0 k1
      by_cases hd : 48 ≤ s[i].toNat ∧ s[i].toNat ≤ 57
      · have HD := Lib.hid (isD_yes hd)
        obtain ⟨d1, d2⟩ := hd
        go_wp2
        go_region
        rw [((set3 _ _ _ _ _ _).1)]
        go_wp2
        go_roundw
        case rel => exact ⟨i + 1, _, by omega, by go_num, by rw [K1.out], by rw [okTo_succ, HOK.out, OKI.out, HD.out]; rfl, by rw [NA.out, NB.out, NC.out]⟩
        case measure => simp [intOf]; omega
      · have HD : Hid (Cal.shapeB s.data.toList = false) := okTo_bad s.data.toList i (by rw [OKI.out]; exact isD_no hd) (by omega) HL.out
        by_cases d1 : s[i].toNat < 48
        · clear hd
          go_wp2
          go_ret2
          exact RdPost.bad HD.out
        · have d2 : 57 < s[i].toNat := by omega
          clear hd
          go_wp2
          go_ret2
          exact RdPost.bad HD.out
    · subst c1
      have q4 : 4 < s.size := by omega
      have OKI : Hid (okAt s.data.toList 4 = decide (s[4] = 45)) := okAt_sign s.data.toList 4 (by have := HL.out; omega) (by omega)
      have NA : Hid (nA s.data.toList (4 + 1) = nA s.data.toList 4) := nA_hi _ _ (by omega)
      have NB : Hid (nB s.data.toList (4 + 1) = nB s.data.toList 4) := nB_lo _ _ (by omega)
      have NC : Hid (nC s.data.toList (4 + 1) = nC s.data.toList 4) := nC_lo _ _ (by omega)
      rw [show kOf 4 = 0 from rfl]
      by_cases hs : s[4] = 45
      · have n4 : ((s[4].toNat : Int) != 45) = false := by rw [hs]; rfl
        have HS := Lib.hid hs
        clear hs
        go_wp2
        go_roundw
        case rel => exact ⟨4 + 1, q, by omega, rfl, rfl, by rw [okTo_succ, HOK.out, OKI.out, decide_eq_true HS.out]; rfl, by rw [NA.out, NB.out, NC.out]⟩
        case measure => simp [intOf]
      · have n4 : ((s[4].toNat : Int) != 45) = true := by
          rw [bne_iff_ne]; intro e; apply hs; apply UInt8.toNat.inj; exact Int.ofNat.inj e
        have HD : Hid (Cal.shapeB s.data.toList = false) := okTo_bad s.data.toList 4 (by rw [OKI.out]; exact decide_eq_false hs) (by omega) HL.out
        clear hs
        go_wp2
        go_ret2
        exact RdPost.bad HD.out
    · have k0 : kOf i = 1 := by unfold kOf; rw [if_neg (by omega), if_pos (by omega)]
      have k1 : kOf (i + 1) = 1 := by unfold kOf; rw [if_neg (by omega), if_pos (by omega)]
      rw [k0]
      have K1 := Lib.hid k1
      have e4 : ((i : Int) == 4) = false := by rw [beq_eq_false_iff_ne]; omega
      have e7 : ((i : Int) == 7) = false := by rw [beq_eq_false_iff_ne]; omega
      have hi' : (i : Int) < 10 := by omega
      have hlt : i < s.size := by omega
      have NA : Hid (nA s.data.toList (i + 1) = nA s.data.toList i) := nA_hi _ _ (by omega)
      have NB : Hid (nB s.data.toList (i + 1) = 10 * nB s.data.toList i + ((s[i].toNat : Int) - 48)) := nB_mid s.data.toList i (by omega) (by omega) HL.out
      have NC : Hid (nC s.data.toList (i + 1) = nC s.data.toList i) := nC_lo _ _ (by omega)
      have OKI : Hid (okAt s.data.toList i = Cal.isD s[i]) := okAt_num s.data.toList i (by have := HL.out; omega) (by omega) (by omega)
      clear k0 k1
      by_cases hd : 48 ≤ s[i].toNat ∧ s[i].toNat ≤ 57
      · have HD := Lib.hid (isD_yes hd)
        obtain ⟨d1, d2⟩ := hd
        go_wp2
        go_region
        rw [((set3 _ _ _ _ _ _).2.1)]
        go_wp2
        go_roundw
        case rel => exact ⟨i + 1, _, by omega, by go_num, by rw [K1.out], by rw [okTo_succ, HOK.out, OKI.out, HD.out]; rfl, by rw [NA.out, NB.out, NC.out]⟩
        case measure => simp [intOf]; omega
      · have HD : Hid (Cal.shapeB s.data.toList = false) := okTo_bad s.data.toList i (by rw [OKI.out]; exact isD_no hd) (by omega) HL.out
        by_cases d1 : s[i].toNat < 48
        · clear hd
          go_wp2
          go_ret2
          exact RdPost.bad HD.out
        · have d2 : 57 < s[i].toNat := by omega
          clear hd
          go_wp2
          go_ret2
          exact RdPost.bad HD.out
    · subst c1
      have q4 : 7 < s.size := by omega
      have OKI : Hid (okAt s.data.toList 7 = decide (s[7] = 45)) := okAt_sign s.data.toList 7 (by have := HL.out; omega) (by omega)
      have NA : Hid (nA s.data.toList (7 + 1) = nA s.data.toList 7) := nA_hi _ _ (by omega)
      have NB : Hid (nB s.data.toList (7 + 1) = nB s.data.toList 7) := nB_hi _ _ (by omega)
      have NC : Hid (nC s.data.toList (7 + 1) = nC s.data.toList 7) := nC_lo _ _ (by omega)
      rw [show kOf 7 = 1 from rfl]
      by_cases hs : s[7] = 45
      · have n4 : ((s[7].toNat : Int) != 45) = false := by rw [hs]; rfl
        have HS := Lib.hid hs
        clear hs
        go_wp2
        go_roundw
        case rel => exact ⟨7 + 1, q, by omega, rfl, rfl, by rw [okTo_succ, HOK.out, OKI.out, decide_eq_true HS.out]; rfl, by rw [NA.out, NB.out, NC.out]⟩
        case measure => simp [intOf]
      · have n4 : ((s[7].toNat : Int) != 45) = true := by
          rw [bne_iff_ne]; intro e; apply hs; apply UInt8.toNat.inj; exact Int.ofNat.inj e
        have HD : Hid (Cal.shapeB s.data.toList = false) := okTo_bad s.data.toList 7 (by rw [OKI.out]; exact decide_eq_false hs) (by omega) HL.out
        clear hs
        go_wp2
        go_ret2
        exact RdPost.bad HD.out
    · have k0 : kOf i = 2 := by unfold kOf; rw [if_neg (by omega), if_neg (by omega)]
      have k1 : kOf (i + 1) = 2 := by unfold kOf; rw [if_neg (by omega), if_neg (by omega)]
      rw [k0]
      have K1 := Lib.hid k1
      have e4 : ((i : Int) == 4) = false := by rw [beq_eq_false_iff_ne]; omega
      have e7 : ((i : Int) == 7) = false := by rw [beq_eq_false_iff_ne]; omega
      have hi' : (i : Int) < 10 := by omega
      have hlt : i < s.size := by omega
      have NA : Hid (nA s.data.toList (i + 1) = nA s.data.toList i) := nA_hi _ _ (by omega)
      have NB : Hid (nB s.data.toList (i + 1) = nB s.data.toList i) := nB_hi _ _ (by omega)
      have NC : Hid (nC s.data.toList (i + 1) = 10 * nC s.data.toList i + ((s[i].toNat : Int) - 48)) := nC_hi s.data.toList i (by omega) (by omega) HL.out
      have OKI : Hid (okAt s.data.toList i = Cal.isD s[i]) := okAt_num s.data.toList i (by have := HL.out; omega) (by omega) (by omega)
      clear k0 k1
      by_cases hd : 48 ≤ s[i].toNat ∧ s[i].toNat ≤ 57
      · have HD := Lib.hid (isD_yes hd)
        obtain ⟨d1, d2⟩ := hd
        go_wp2
        go_region
        rw [((set3 _ _ _ _ _ _).2.2)]
        go_wp2
        go_roundw
        case rel => exact ⟨i + 1, _, by omega, by go_num, by rw [K1.out], by rw [okTo_succ, HOK.out, OKI.out, HD.out]; rfl, by rw [NA.out, NB.out, NC.out]⟩
        case measure => simp [intOf]; omega
      · have HD : Hid (Cal.shapeB s.data.toList = false) := okTo_bad s.data.toList i (by rw [OKI.out]; exact isD_no hd) (by omega) HL.out
        by_cases d1 : s[i].toNat < 48
        · clear hd
          go_wp2
          go_ret2
          exact RdPost.bad HD.out
        · have d2 : 57 < s[i].toNat := by omega
          clear hd
          go_wp2
          go_ret2
          exact RdPost.bad HD.out
    · subst c1
      have HS : Hid (Cal.shapeB s.data.toList = true) := by rw [← okTo_ten _ HL.out]; exact HOK.out
      have hbW : Below w.heap.size w ((w.alloc (cells3 (Cal.yOf s.data.toList) (Cal.mOf s.data.toList) (Cal.dOf s.data.toList))).drewN q) := below_drewN ((Below.refl _ w).alloc (Nat.le_refl _) _) q
      have eA : Hid (nA s.data.toList 10 = Cal.yOf s.data.toList) := rfl
      have eB : Hid (nB s.data.toList 10 = Cal.mOf s.data.toList) := rfl
      have eC : Hid (nC s.data.toList 10 = Cal.dOf s.data.toList) := by unfold nC Cal.dOf; exact congrArg Cal.numV (List.take_of_length_le (by simp [HL.out]))
      rw [eA.out, eB.out, eC.out]
      have f0 : ((w.alloc (cells3 (Cal.yOf s.data.toList) (Cal.mOf s.data.toList) (Cal.dOf s.data.toList))).drewN q).cell? ⟨w.heap.size, 0, none⟩ = some (.int .i64 (Cal.yOf s.data.toList)) := show (_ : World).cell? _ = _ from by rw [show ((w.alloc (cells3 (Cal.yOf s.data.toList) (Cal.mOf s.data.toList) (Cal.dOf s.data.toList))).drewN q).cell? ⟨w.heap.size, 0, none⟩ = (w.alloc (cells3 (Cal.yOf s.data.toList) (Cal.mOf s.data.toList) (Cal.dOf s.data.toList))).cell? ⟨w.heap.size, 0, none⟩ from rfl]; simp
      have f1 : ((w.alloc (cells3 (Cal.yOf s.data.toList) (Cal.mOf s.data.toList) (Cal.dOf s.data.toList))).drewN q).cell? ⟨w.heap.size, 1, none⟩ = some (.int .i64 (Cal.mOf s.data.toList)) := show (_ : World).cell? _ = _ from by rw [show ((w.alloc (cells3 (Cal.yOf s.data.toList) (Cal.mOf s.data.toList) (Cal.dOf s.data.toList))).drewN q).cell? ⟨w.heap.size, 1, none⟩ = (w.alloc (cells3 (Cal.yOf s.data.toList) (Cal.mOf s.data.toList) (Cal.dOf s.data.toList))).cell? ⟨w.heap.size, 1, none⟩ from rfl]; simp
      have f2 : ((w.alloc (cells3 (Cal.yOf s.data.toList) (Cal.mOf s.data.toList) (Cal.dOf s.data.toList))).drewN q).cell? ⟨w.heap.size, 2, none⟩ = some (.int .i64 (Cal.dOf s.data.toList)) := show (_ : World).cell? _ = _ from by rw [show ((w.alloc (cells3 (Cal.yOf s.data.toList) (Cal.mOf s.data.toList) (Cal.dOf s.data.toList))).drewN q).cell? ⟨w.heap.size, 2, none⟩ = (w.alloc (cells3 (Cal.yOf s.data.toList) (Cal.mOf s.data.toList) (Cal.dOf s.data.toList))).cell? ⟨w.heap.size, 2, none⟩ from rfl]; simp
      generalize (w.alloc (cells3 (Cal.yOf s.data.toList) (Cal.mOf s.data.toList) (Cal.dOf s.data.toList))).drewN q = W at *
      by_cases ho : Cal.Ok (Cal.yOf s.data.toList) (Cal.mOf s.data.toList) (Cal.dOf s.data.toList)
      · go_wp2
        go_quiet ((go_at_call 194; exact Calls.quiet_of_same (makeDay_ok' _ _ _ _ ho)))
        go_wp2
        go_ret2
        exact ⟨below_drewN hbW _, Or.inr ⟨HS.out, _, _, rfl, Or.inl ⟨ho, rfl, rfl⟩⟩⟩
      · go_wp2
        go_quiet ((go_at_call 194; exact Calls.quiet_of_same (makeDay_err' _ _ _ _ ho)))
        go_wp2
        go_ret2
        exact ⟨below_drewN hbW _, Or.inr ⟨HS.out, _, _, rfl, Or.inr ⟨ho, rfl, rfl⟩⟩⟩
end Ref
end Go.Proofs.YtghkalamlcfnnaaGreatDoor
end
section
namespace Go.Proofs.YtghkalamlcfnnaaGreatDoor
open Go Go.RowKit Lmd
namespace Rct
open Rul Day Cand Tp Tx
structure CutAt (l : List UInt8) (c : UInt8) (w : World) (k f : Nat) (xs : List ByteArray) (v : Value) (W : World) : Prop where
  rel : pieces c (mk l) = xs ++ pieces c (mk (l.drop f))
  own : W.ownsRow w.heap.size 9 1 v xs.length (cellsS xs)
  low : Below w.heap.size w W
  le : f ≤ k
  len : k ≤ l.length
  free : c ∉ (l.drop f).take (k - f)
  few : xs.length ≤ k
theorem cutAt_hit {l : List UInt8} {c : UInt8} {w : World} {k f : Nat} {xs : List ByteArray} {v : Value} {W : World} (h : CutAt l c w k f xs v W) (hk : l[k]? = some c) :
    pieces c (mk l) = (xs ++ [mk ((l.drop f).take (k - f))]) ++ pieces c (mk (l.drop (k + 1))) := by
  have hlt := (List.getElem?_eq_some_iff.1 hk).1
  have e : l.drop f = (l.drop f).take (k - f) ++ c :: l.drop (k + 1) := by
    have h1 : (l.drop f).drop (k - f) = c :: l.drop (k + 1) := by
      rw [List.drop_drop, show f + (k - f) = k by have := h.le; omega, List.drop_eq_getElem_cons hlt]
      congr 1
      exact (List.getElem?_eq_some_iff.1 hk).2
    rw [← h1, List.take_append_drop]
  have hp := pieces_more (r := l.drop (k + 1)) h.free
  rw [← e] at hp
  rw [h.rel, hp]
  simp
theorem cutAt_miss {l : List UInt8} {c y : UInt8} {w : World} {k f : Nat} {xs : List ByteArray} {v : Value} {W : World} (h : CutAt l c w k f xs v W) (hk : l[k]? = some y) (hne : y ≠ c) : CutAt l c w (k + 1) f xs v W := by
  refine ⟨h.rel, h.own, h.low, by have := h.le; omega, by have := (List.getElem?_eq_some_iff.1 hk).1; omega, ?_, by have := h.few; omega⟩
  have hlt := (List.getElem?_eq_some_iff.1 hk).1
  have hle := h.le
  have hd : (l.drop f)[k - f]? = some y := by rw [List.getElem?_drop, show f + (k - f) = k by omega]; exact hk
  obtain ⟨h3, h4⟩ := List.getElem?_eq_some_iff.1 hd
  rw [show k + 1 - f = (k - f) + 1 by omega, List.take_succ_eq_append_getElem h3, h4, List.mem_append]
  rintro (h5 | h5)
  · exact h.free h5
  · rw [List.mem_singleton] at h5; exact hne h5.symm
theorem cutAt_last {l : List UInt8} {c : UInt8} {w : World} {k f : Nat} {xs : List ByteArray} {v : Value} {W : World} (h : CutAt l c w k f xs v W) (hk : k = l.length) :
    pieces c (mk l) = xs ++ [mk (l.drop f)] := by
  rw [h.rel]
  congr 1
  refine pieces_last ?_
  have := h.free
  rwa [List.take_of_length_le (by rw [List.length_drop]; omega)] at this
theorem grown_below {w w' : World} {base B : Nat} {v : Value} {n : Nat} {e : TypeId} {xs : List Value} (ho : w.ownsRow base e 1 v n xs) (hg : w.grownBy w' v.ownBlock) (hB : B ≤ base) (hs : B ≤ w.heap.size) : Below B w w' :=
  ⟨hg.os, hg.tape, hg.output, hg.size, fun k hk => hg.block k (by omega) (fun e => by
    have := own_ge ho e.symm
    omega)⟩
def CutPost (l : List UInt8) (c : UInt8) (w : World) (e : Ending) (w' : World) : Prop :=
  ∃ v, e = .returned v ∧ w'.ownsRow w.heap.size 9 1 v (pieces c (mk l)).length (cellsS (pieces c (mk l))) ∧ Below w.heap.size w w'
set_option maxRecDepth 100000 in
set_option maxHeartbeats 1000000 in
theorem cut_any (l : List UInt8) (c : UInt8) (w : World) (hs : l.length ≤ 2000000) :
    Calls Tryz.prog 68 #[.string (mk l), .int .u8 (c.toNat : Int)] w (CutPost l c w) := by
  obtain ⟨i0, hi0, hz0, hz1, hz2⟩ := info_parts string_info
  obtain ⟨S, hS⟩ : ∃ S, mk l = S := ⟨_, rfl⟩
  have hsz : S.size = l.length := by rw [← hS]; rfl
  have hSD : S.data.toList = l := by rw [← hS]
  rw [hS]
  have HSD := Lib.hid hSD
  have HSZ := Lib.hid hsz
  have hSs : S.size ≤ 2000000 := by omega
  clear hS hSD hsz
  go_enter Tryz.func68, Tryz.ntmps68
  go_wp2_with fail
  go_loopw [5, 6, 7] (fun v f i wr => ∃ (k j : Nat) (xs : List ByteArray), i = .int .i64 k ∧ f = .int .i64 j ∧ CutAt l c w k j xs v wr) (fun _ _ i _ => S.size - (intOf i).toNat)
  case atStart => exact ⟨0, 0, [], rfl, rfl, rfl, ⟨rfl, .inl ⟨rfl, rfl⟩⟩, Below.refl _ _, Nat.le_refl _, Nat.zero_le _, by simp, Nat.le_refl _⟩
  case round =>
    obtain ⟨k, j, xs, rfl, rfl, hat⟩ := hrel
    obtain ⟨a0, c0, rfl⟩ := ownsRow_slice hat.own
    have hjk := hat.le
    have hkS : k ≤ S.size := by have := hat.len; have := HSZ.out; omega
    have hxk := hat.few
    by_cases hlt : k < S.size
    · obtain ⟨y, hy⟩ : ∃ y, l[k]? = some y := ⟨_, List.getElem?_eq_getElem (by have := HSZ.out; omega)⟩
      have hSy : (S[k] : UInt8) = y := at_of S k y hlt (by rw [HSD.out]; exact hy)
      have hi1 : (k : Int) < (S.size : Int) := by omega
      by_cases hc : y = c
      · subst hc
        have hhit := cutAt_hit hat hy
        have hext : S.extract j k = mk ((l.drop j).take (k - j)) := mk_of (by rw [ext_mid, HSD.out])
        have hj1 : (j : Int) ≤ (k : Int) := by omega
        have hj2 : (k : Int) ≤ (S.size : Int) := by omega
        have hj3 : j ≤ S.size := by omega
        have hown := hat.own
        have hsw := hat.low.size
        obtain ⟨P, hP⟩ : ∃ P, mk ((l.drop j).take (k - j)) = P := ⟨_, rfl⟩
        rw [hP] at hext hhit
        have HHIT := Lib.hid hhit
        have HOWN := Lib.hid hown
        have HAT := Lib.hid hat
        have hw1 : IntKind.i64.wrap ((k : Int) + 1) = ((k + 1 : Nat) : Int) := by
          rw [show (k : Int) + 1 = ((k + 1 : Nat) : Int) by omega]; exact IntWalk.i64_in _ (by omega)
        clear hhit hown hat hy hP
        go_wp2_with (first
          | (at_builtin
             refine wpList_append_own _ rfl (.tmp 19) (.tmp 24) _ rfl w.heap.size 9 i0 _ 1 16 Tryz.underlying33 hi0 hz0 hz1 hz2 rfl (by omega) (.slice a0 xs.length c0) xs.length (cellsS xs) rfl
               (HOWN.out.alloc _) ⟨wr.heap.size, 0, none⟩ 1 1 [.string P] rfl rfl (cell_one_new _ _ _) (fun u hu => by simp at hu; subst hu; rfl) (by simp only [maxLen]; omega) (by omega) (by simp; omega) ?_
             intro v1 wb hown' hg2 hnil
             have HOB := Lib.hid hown'
             have HG2 := Lib.hid hg2
             clear hown' hg2 hnil))
        go_roundw
        case rel =>
          refine ⟨k + 1, k + 1, xs ++ [P], by first | rfl | go_num, by first | rfl | go_num, HHIT.out, ?_, ?_, Nat.le_refl _, ?_, by simp, ?_⟩
          · have hcs : cellsS (xs ++ [P]) = cellsS xs ++ [.string P] := by simp [cellsS]
            rw [hcs, List.length_append]
            exact HOB.out
          · have h1 := HAT.out.low.alloc HAT.out.low.size (.cells #[.string P] 9)
            exact h1.trans (grown_below (HOWN.out.alloc _) HG2.out (Nat.le_refl _) h1.size)
          · have := HSZ.out; omega
          · rw [List.length_append, List.length_singleton]; omega
        case measure => simp [intOf]; omega
      · have hn1 : ((y.toNat : Int) == (c.toNat : Int)) = false := by
          rw [beq_eq_false_iff_ne]
          intro e
          exact hc (UInt8.toNat_inj.1 (by omega))
        have hms := cutAt_miss hat hy hc
        have HMS := Lib.hid hms
        clear hms hat hy hc
        go_wp2_with fail
        go_roundw
        case rel => exact ⟨k + 1, j, xs, by go_num, rfl, HMS.out⟩
        case measure => simp [intOf]; omega
    · have hi1 : ¬ (k : Int) < (S.size : Int) := by omega
      have hlast := cutAt_last hat (by have := HSZ.out; omega)
      have hext : S.extract j S.size = mk (l.drop j) := mk_of (by
        rw [ext_mid, HSD.out]
        exact List.take_of_length_le (by rw [List.length_drop]; have := HSZ.out; omega))
      have hj3 : j ≤ S.size := by omega
      have hj2 : (j : Int) ≤ (S.size : Int) := by omega
      obtain ⟨P, hP⟩ : ∃ P, mk (l.drop j) = P := ⟨_, rfl⟩
      rw [hP] at hext hlast
      have hown := hat.own
      have hsw := hat.low.size
      have HL := Lib.hid hlast
      have HOWN := Lib.hid hown
      have HAT := Lib.hid hat
      clear hlast hown hat hP
      go_wp2_with (first
        | (at_builtin
           refine wpList_append_own _ rfl (.tmp 28) (.tmp 32) _ rfl w.heap.size 9 i0 _ 1 16 Tryz.underlying33 hi0 hz0 hz1 hz2 rfl (by omega) (.slice a0 xs.length c0) xs.length (cellsS xs) rfl
             (HOWN.out.alloc _) ⟨wr.heap.size, 0, none⟩ 1 1 [.string P] rfl rfl (cell_one_new _ _ _) (fun u hu => by simp at hu; subst hu; rfl) (by simp only [maxLen]; omega) (by omega) (by simp; omega) ?_
           intro v1 wb hown' hg2 hnil
           have HOB := Lib.hid hown'
           have HG2 := Lib.hid hg2
           clear hown' hg2 hnil))
      go_ret
      have hcs : cellsS (xs ++ [P]) = cellsS xs ++ [.string P] := by simp [cellsS]
      refine ⟨_, rfl, ?_, ?_⟩
      · rw [HL.out, hcs, List.length_append]
        exact HOB.out
      · have h1 := HAT.out.low.alloc HAT.out.low.size (.cells #[.string P] 9)
        exact h1.trans (grown_below (HOWN.out.alloc _) HG2.out (Nat.le_refl _) h1.size)
theorem cut_lit (l : List UInt8) (c : UInt8) (n : Int) (w : World) (hs : l.length ≤ 2000000) (hn : ((c.toNat : Nat) : Int) = n) :
    Calls Tryz.prog 68 #[.string (mk l), .int .u8 n] w (CutPost l c w) := by
  rw [← hn]; exact cut_any l c w hs
end Rct
end Go.Proofs.YtghkalamlcfnnaaGreatDoor
end
section
namespace Go.Proofs.YtghkalamlcfnnaaGreatDoor
open Go Go.RowKit Lmd
namespace Rct
open Rul Day Cand Tp Tx Rrt
theorem nameL_inj : ∀ i, i < 7 → ∀ j, j < 7 → nameL.getD i ByteArray.empty = nameL.getD j ByteArray.empty → i = j := by decide
theorem idx_cases (x : ByteArray) : (idxN x = -1 ∧ ∀ j, j < 7 → nameL.getD j ByteArray.empty ≠ x) ∨ ∃ j, j < 7 ∧ idxN x = (j : Nat) ∧ nameL.getD j ByteArray.empty = x := by
  by_cases h : ∃ j, j < 7 ∧ nameL.getD j ByteArray.empty = x
  · obtain ⟨j, hj, rfl⟩ := h
    refine .inr ⟨j, hj, ?_, rfl⟩
    have hk := (idx_name (j : Int) (by omega) (by omega)).1
    unfold nameOf at hk
    simpa using hk
  · refine .inl ⟨?_, fun j hj e => h ⟨j, hj, e⟩⟩
    unfold idxN
    have hm := Lib.idxOfS_miss nameL 7 x (fun j hj e => h ⟨j, hj, e⟩)
    simpa [nameL] using hm
def upTo (x : ByteArray) (j : Nat) : Int := if 0 ≤ idxN x ∧ idxN x < (j : Int) then idxN x else -1
theorem upTo_zero (x : ByteArray) : upTo x 0 = -1 := by unfold upTo; rw [if_neg (by omega)]
theorem upTo_seven (x : ByteArray) : upTo x 7 = idxN x := by
  unfold upTo
  rcases idx_cases x with ⟨h, _⟩ | ⟨j, hj, h, _⟩
  · rw [h]; simp
  · rw [h, if_pos (by omega)]
theorem upTo_hit {x : ByteArray} {j : Nat} (hj : j < 7) (h : nameL.getD j ByteArray.empty = x) : upTo x (j + 1) = (j : Int) := by
  rcases idx_cases x with ⟨_, h2⟩ | ⟨i, hi, h1, h2⟩
  · exact absurd h (h2 j hj)
  · obtain rfl := nameL_inj i hi j hj (h2.trans h.symm)
    unfold upTo
    rw [h1, if_pos (by omega)]
theorem upTo_miss {x : ByteArray} {j : Nat} (h : nameL.getD j ByteArray.empty ≠ x) : upTo x (j + 1) = upTo x j := by
  rcases idx_cases x with ⟨h1, _⟩ | ⟨i, hi, h1, h2⟩
  · unfold upTo; rw [h1]; simp
  · have hne : i ≠ j := fun e => h (e ▸ h2)
    unfold upTo
    rw [h1]
    by_cases hlt : i < j
    · rw [if_pos (by omega), if_pos (by omega)]
    · rw [if_neg (by omega), if_neg (by omega)]
theorem weekNames_all (w : World) : Calls Tryz.prog 149 #[] w fun e w' => e = .returned (.slice (some ⟨w.heap.size, 0, none⟩) 7 7) ∧ Below w.heap.size w w' ∧ ∀ j, j < 7 → w'.cell? ⟨w.heap.size, j, none⟩ = some (.string (nameL.getD j ByteArray.empty)) := by
  refine (weekNames_new w).mono ?_
  rintro e w' ⟨rfl, rfl⟩
  refine ⟨rfl, (Below.refl _ w).alloc (Nat.le_refl _) _, fun j hj => ?_⟩
  have h := names_cell w (j : Int) (by omega) (by omega)
  simpa [nameOf] using h
theorem bytes_ne {a b : ByteArray} (h : a ≠ b) : (a.toList == b.toList) = false := by
  rw [beq_eq_false_iff_ne]
  intro e
  rw [ByteArray.toList_eq, ByteArray.toList_eq] at e
  exact h (by rw [mk_self a, mk_self b, e])
def WkPost (s : ByteArray) (w : World) (e : Ending) (w' : World) : Prop :=
  ∃ v, e = .returned (.tuple #[v, .bool (daysOk s)]) ∧ Ints.Reads w' v (if daysOk s = true then daysV s else []) ∧ (∀ b o n c, v = .slice (some ⟨b, o, none⟩) n c → w.heap.size ≤ b) ∧ Below w.heap.size w w'
structure WkAt (P : List ByteArray) (w : World) (k : Nat) (v : Value) (W : World) : Prop where
  own : W.ownsRow w.heap.size 3 1 v k (cellsOf ((P.take k).map idxN))
  low : Below w.heap.size w W
  le : k ≤ P.length
  good : ∀ x ∈ P.take k, 0 ≤ idxN x
set_option maxRecDepth 100000 in
set_option maxHeartbeats 2000000 in
theorem weekdaysOf_any (s : ByteArray) (w : World) (hs : s.size ≤ 1000000) :
    Calls Tryz.prog 195 #[.string s] w (WkPost s w) := by
  obtain ⟨i0, hi0, hz0, hz1, hz2⟩ := info_parts int_info
  obtain ⟨l, rfl⟩ : ∃ l, s = mk l := ⟨_, mk_self s⟩
  have hcut := cut_lit l 44 44 w (by have : (mk l).size = l.length := rfl; omega) rfl
  unfold CutPost at hcut
  obtain ⟨P, hP⟩ : ∃ P, pieces 44 (mk l) = P := ⟨_, rfl⟩
  have hPl : P.length ≤ 1000001 := by have := pieces_len 44 (mk l); rw [hP] at this; omega
  have hok : daysOk (mk l) = P.all fun x => decide (0 ≤ idxN x) := by unfold daysOk; rw [hP]
  have hdv : daysV (mk l) = P.map idxN := by unfold daysV; rw [hP]
  rw [hP] at hcut
  have HCUT := Lib.hid hcut
  have HOK := Lib.hid hok
  have HDV := Lib.hid hdv
  have hwn := fun W => weekNames_all W
  have HWN := Lib.hid hwn
  clear hcut hok hdv hP hs hwn
  go_enter Tryz.func195, Tryz.ntmps195
  go_wp2_with fail
  (with_reducible refine HCUT.out.mono ?_)
  rintro e1 w1 ⟨lv, rfl, hown, hb1⟩
  have hrd := rd_own hown rfl
  obtain ⟨la, lc, rfl⟩ := hrd.shape
  have HRD := Lib.hid hrd
  have HB1 := Lib.hid hb1
  clear hrd hown hb1 HCUT
  go_wp2_with fail
  go_loopw [5, 6] (fun v i wr => ∃ k : Nat, i = .int .i64 k ∧ WkAt P w1 k v wr) (fun _ i _ => P.length - (intOf i).toNat)
  case atStart => exact ⟨0, rfl, ⟨by simp [cellsOf], .inl ⟨rfl, rfl⟩⟩, Below.refl _ _, Nat.zero_le _, by simp⟩
  case round =>
    obtain ⟨k, rfl, hat⟩ := hrel
    obtain ⟨a0, c0, rfl⟩ := ownsRow_slice hat.own
    have hkl := hat.le
    by_cases hlt : k < P.length
    · obtain ⟨b0, o0, c1, e1, hc⟩ := (HRD.out.below hat.low).at (by intro h; rw [h] at hlt; exact absurd hlt (Nat.not_lt_zero _))
      obtain ⟨rfl, rfl⟩ : la = some ⟨b0, o0, none⟩ ∧ lc = c1 := by cases e1; exact ⟨rfl, rfl⟩
      obtain ⟨x, hx⟩ : ∃ x, P[k]? = some x := ⟨_, List.getElem?_eq_getElem hlt⟩
      have k1 := hc k x hx
      have hi1 : (k : Int) < (P.length : Int) := by omega
      have HAT := Lib.hid hat
      have HX := Lib.hid hx
      have HK1 := Lib.hid k1
      clear e1 hc hx hat k1
      go_wp2_with fail
      (with_reducible refine (HWN.out _).mono ?_)
      rintro e2 w2 ⟨rfl, hb2, hnm⟩
      have k2 := cell_later hb2 HK1.out
      have HB2 := Lib.hid hb2
      have HNM := Lib.hid hnm
      have HK2 := Lib.hid k2
      obtain ⟨B, hB⟩ : ∃ B, wr.heap.size = B := ⟨_, rfl⟩
      rw [hB] at HNM ⊢
      clear hb2 hnm k2 hB
      go_wp2_with fail
      go_loopw [7, 9] (fun kv j wi => ∃ i q : Nat, j = .int .i64 i ∧ i ≤ 7 ∧ kv = .int .i64 (upTo x i) ∧ wi = w2.drewN q) (fun _ j _ => 7 - (intOf j).toNat)
      case atStart => exact ⟨0, 0, rfl, by omega, by rw [upTo_zero], rfl⟩
      case round =>
        obtain ⟨i, q, rfl, hi7, rfl, rfl⟩ := hrel
        by_cases hil : i < 7
        · have n1 := HNM.out i hil
          have n2 := HK2.out
          obtain ⟨nm, hnm⟩ : ∃ nm, nameL.getD i ByteArray.empty = nm := ⟨_, rfl⟩
          rw [hnm] at n1
          have hi2 : (i : Int) < 7 := by omega
          by_cases e : nm = x
          · subst e
            have hup := upTo_hit hil hnm
            have HUP := Lib.hid hup
            clear hup hnm
            go_wp2_with fail
            go_quiet (fail)
            go_wp2_with fail
            go_roundw
            case rel => exact ⟨i + 1, _, by go_num, by omega, by rw [HUP.out], rfl⟩
            case measure => simp [intOf]; omega
          · have he := bytes_ne e
            have hup := upTo_miss (x := x) (j := i) (by rw [hnm]; exact e)
            have HUP := Lib.hid hup
            clear hup hnm e
            go_wp2_with fail
            go_quiet (fail)
            go_wp2_with fail
            go_roundw
            case rel => exact ⟨i + 1, _, by go_num, by omega, by rw [HUP.out], rfl⟩
            case measure => simp [intOf]; omega
        · obtain rfl : i = 7 := by omega
          rw [upTo_seven]
          obtain ⟨y, hy⟩ : ∃ y, idxN x = y := ⟨_, rfl⟩
          rw [hy]
          have HY := Lib.hid hy
          clear hy hil
          by_cases hneg : y < 0
          · have hno : daysOk (mk l) = false := by
              rw [HOK.out, List.all_eq_false]
              exact ⟨x, List.mem_of_getElem? HX.out, by rw [HY.out]; simpa using hneg⟩
            have HNO := Lib.hid hno
            clear hno
            go_wp2_with fail
            go_ret2
            refine ⟨_, by rw [HNO.out]; rfl, ?_, (fun b o n c h => by cases h), ?_⟩
            · rw [HNO.out]; exact .inl ⟨rfl, none, 0, rfl⟩
            · exact HB1.out.trans ((HAT.out.low.trans ((HB2.out.trans ((below_draw (Below.refl _ w2) q).mono HB2.out.size)).mono HAT.out.low.size)).mono HB1.out.size)
          · have hown := own_later HAT.out.own (HB2.out.trans ((below_draw (Below.refl _ w2) q).mono HB2.out.size))
            have hlow := HAT.out.low.trans ((HB2.out.trans ((below_draw (Below.refl _ w2) q).mono HB2.out.size)).mono HAT.out.low.size)
            have hs2 : w1.heap.size ≤ (w2.drewN q).heap.size := hlow.size
            have hs3 : w1.heap.size ≤ w2.heap.size := hs2
            have HOWN := Lib.hid hown
            have HLOW := Lib.hid hlow
            have hn0 : ¬ y < 0 := hneg
            clear hown hlow
            go_wp2_with (first
              | (at_builtin
                 refine wpList_append_own _ rfl (.tmp 37) (.tmp 39) _ rfl w1.heap.size 3 i0 _ 1 8 Tryz.underlying35 hi0 hz0 hz1 hz2 rfl (by omega) (.slice a0 k c0) k (cellsOf ((P.take k).map idxN)) rfl
                   (HOWN.out.alloc _) ⟨(w2.drewN q).heap.size, 0, none⟩ 1 1 [.int .i64 y] rfl rfl (cell_one_new _ _ _) (fun u hu => by simp at hu; subst hu; rfl) (by simp only [maxLen]; omega) (by omega) (by simp; omega) ?_
                 intro v1 wb hown' hg2 hnil
                 have HOB := Lib.hid hown'
                 have HG2 := Lib.hid hg2
                 clear hown' hg2 hnil))
            go_roundw
            case rel =>
              have htk : P.take (k + 1) = P.take k ++ [x] := by
                obtain ⟨h3, h4⟩ := List.getElem?_eq_some_iff.1 HX.out
                rw [List.take_succ_eq_append_getElem h3, h4]
              refine ⟨k + 1, by go_num, ?_, ?_, by omega, ?_⟩
              · rw [htk, List.map_append, List.map_singleton, cellsOf_snoc, HY.out]
                exact HOB.out
              · have h1 := HLOW.out.alloc hs2 (.cells #[.int .i64 y] 3)
                exact h1.trans (grown_below (HOWN.out.alloc _) HG2.out (Nat.le_refl _) h1.size)
              · rw [htk]
                intro z hz
                rcases List.mem_append.1 hz with hz | hz
                · exact HAT.out.good z hz
                · rw [List.mem_singleton] at hz; subst hz; rw [HY.out]; omega
            case measure => simp [intOf]; omega
    · have hk : k = P.length := by omega
      have hi1 : ¬ (k : Int) < (P.length : Int) := by omega
      have hyes : daysOk (mk l) = true := by
        rw [HOK.out, List.all_eq_true]
        intro z hz
        have := hat.good z (by rw [hk, List.take_length]; exact hz)
        simpa using this
      have hown := hat.own
      rw [hk, List.take_length] at hown
      have HYES := Lib.hid hyes
      have HOWN := Lib.hid hown
      have HLOW := Lib.hid hat.low
      have HK := Lib.hid hk
      clear hat hyes hown hk
      go_wp2_with fail
      go_ret2
      refine ⟨_, by rw [HYES.out]; rfl, ?_, (fun b o n c h => Nat.le_trans HB1.out.size (own_ge HOWN.out (j := b) (by cases h; rfl))), HB1.out.trans (HLOW.out.mono HB1.out.size)⟩
      rw [HYES.out, if_pos rfl, HDV.out]
      have h := HOWN.out
      have hl : P.length = (P.map idxN).length := by simp
      rw [hl] at h
      have h2 := reads_own h
      rw [List.length_map] at h2
      rw [HK.out]
      exact h2
end Rct
end Go.Proofs.YtghkalamlcfnnaaGreatDoor
end
section
namespace Go.Proofs.YtghkalamlcfnnaaGreatDoor
open Go Go.RowKit Lmd
namespace Rct
open Rul Day Cand Tp Tx Rrt Er Rf Ref
theorem rreadDay_any (s : ByteArray) (w : World) :
    Calls Tryz.prog 136 #[.string s] w fun e w' => e = .returned (.tuple #[.int .i64 (dayX s.data.toList), .int .i64 (dayC s.data.toList : Nat)]) ∧ Below w.heap.size w w' := by
  cases hs : Cal.shapeB s.data.toList with
  | false =>
    have hc : dayC s.data.toList = 1 := by unfold dayC; rw [hs]; rfl
    have hx : dayX s.data.toList = 0 := by unfold dayX; rw [hc]; rfl
    rw [hc, hx]
    by_cases hz : s.size = 10
    · refine (readDay_ten s w hz).mono ?_
      rintro e' w' ⟨hb, ⟨_, rfl⟩ | ⟨h, _⟩⟩
      · exact ⟨rfl, hb⟩
      · rw [hs] at h; cases h
    · refine (readDay_len s w hz).mono ?_
      rintro e' w' ⟨rfl, rfl⟩; exact ⟨rfl, Below.refl _ _⟩
  | true =>
    have hz : s.size = 10 := by
      unfold Cal.shapeB at hs
      simp only [Bool.and_eq_true, decide_eq_true_eq] at hs
      exact hs.1.1.1.1.1
    by_cases ho : Cal.Ok (Cal.yOf s.data.toList) (Cal.mOf s.data.toList) (Cal.dOf s.data.toList)
    · have hc : dayC s.data.toList = 0 := by unfold dayC; rw [if_pos hs, if_pos (Cal.okB_true ho)]
      have hx : dayX s.data.toList = Cal.num (Cal.yOf s.data.toList) (Cal.mOf s.data.toList) (Cal.dOf s.data.toList) := by unfold dayX; rw [if_pos hc]
      rw [hc, hx]
      refine (readDay_ten s w hz).mono ?_
      rintro e' w' ⟨hb, ⟨h, _⟩ | ⟨_, x, c, rfl, ⟨_, rfl, rfl⟩ | ⟨h, _⟩⟩⟩
      · rw [hs] at h; cases h
      · exact ⟨rfl, hb⟩
      · exact absurd ho h
    · have hc : dayC s.data.toList = 2 := by unfold dayC; rw [if_pos hs, if_neg (by rw [Cal.okB_false ho]; decide)]
      have hx : dayX s.data.toList = 0 := by unfold dayX; rw [hc]; rfl
      rw [hc, hx]
      refine (readDay_ten s w hz).mono ?_
      rintro e' w' ⟨hb, ⟨h, _⟩ | ⟨_, x, c, rfl, ⟨h, _⟩ | ⟨_, rfl, rfl⟩⟩⟩
      · rw [hs] at h; cases h
      · exact absurd h ho
      · exact ⟨rfl, hb⟩
theorem num9_any (s : ByteArray) (w : World) (hs : s.size ≤ 9223372036854775807) :
    Calls Tryz.prog 137 #[.string s, .int .i64 9] w fun e w' => e = .returned (.int .i64 (if numOk s.data.toList = true then numIs s.data.toList else -1)) ∧ ∃ q, w' = w.drewN q := by
  rw [← refNum_nine]
  have h := numberOf_any s.data.toList 9 w (by omega) (by simpa using hs)
  rw [← mk_self s] at h
  exact h
structure Bx (b : Nat) (a0 a1 a2 a3 a4 : Value) (W : World) : Prop where
  r0 : W.heap[b]? = some (.cells #[.string ⟨#[]⟩, .int .i64 0, .slice none 0 0, .int .i64 0, .int .i64 0] 37 (0, 0))
  r1 : W.heap[b + 1]? = some (.cells #[.string ⟨#[]⟩, .int .i64 0, .slice none 0 0, .int .i64 0, .int .i64 0] 37 (0, 0))
  r2 : W.heap[b + 2]? = some (.cells #[a0, a1, a2, a3, a4] 37 (0, 0))
theorem bx_below {b : Nat} {a0 a1 a2 a3 a4 : Value} {W W' : World} (h : Bx b a0 a1 a2 a3 a4 W) (hb : Below W.heap.size W W') : Bx b a0 a1 a2 a3 a4 W' :=
  ⟨row_below' h.r0 hb, row_below' h.r1 hb, row_below' h.r2 hb⟩
theorem bx_set {b i : Nat} {a0 a1 a2 a3 a4 u b0 b1 b2 b3 b4 : Value} {W : World} (h : Bx b a0 a1 a2 a3 a4 W) (he : (#[a0, a1, a2, a3, a4] : Array Value).setIfInBounds i u = #[b0, b1, b2, b3, b4]) : Bx b b0 b1 b2 b3 b4 (W.setCell ⟨b + 2, i, none⟩ u) := by
  refine ⟨?_, ?_, ?_⟩
  · rw [row_far (by show b ≠ b + 2; omega)]; exact h.r0
  · rw [row_far (by show b + 1 ≠ b + 2; omega)]; exact h.r1
  · rw [row_set h.r2 i u, he]
theorem res_rr {W : World} {b : Nat} {a0 a1 a2 a3 a4 er : Value} {tmps : Array Value} (h : W.heap[b]? = some (.cells #[a0, a1, a2, a3, a4] 37 (0, 0))) (h2 : tmps.getD 2 undef = .pointer (some ⟨b, 0, none⟩)) (h3 : tmps.getD 3 undef = er) :
    (results Tryz.f138 tmps).run Tryz.prog W = .ok (.tuple #[.agg #[a0, a1, a2, a3, a4], er]) W := by
  obtain ⟨q0, q1, q2, q3, q4, _⟩ := cells5 h
  have h2' : tmps[2]?.getD undef = .pointer (some ⟨b, 0, none⟩) := by simpa using h2
  have h3' : tmps[3]?.getD undef = er := by simpa using h3
  simp [results, Tryz.f138, go_sem, h2', h3', q0, q1, q2, q3, q4]
def RrPost (R : Nat × Ru) (w : World) (e : Ending) (w' : World) : Prop :=
  ∃ v, e = .returned (.tuple #[.agg #[.string R.2.fq, .int .i64 R.2.ev, v, .int .i64 R.2.ct, .int .i64 R.2.un], .int .i64 (R.1 : Nat)]) ∧ Ints.Reads w' v R.2.ds ∧ (∀ b o n c, v = .slice (some ⟨b, o, none⟩) n c → n ≠ 0 → w.heap.size ≤ b) ∧ Below w.heap.size w w'
theorem rr_none {c : Nat} {R : Nat × Ru} {w W : World} (hR : R = (c, zeroRu)) (hb : Below w.heap.size w W) :
    RrPost R w (.returned (.tuple #[.agg #[.string ⟨#[]⟩, .int .i64 0, .slice none 0 0, .int .i64 0, .int .i64 0], .int .i64 (c : Nat)])) (((((W.setCell ⟨w.heap.size, 0, none⟩ (.string ⟨#[]⟩)).setCell ⟨w.heap.size, 1, none⟩ (.int .i64 0)).setCell ⟨w.heap.size, 2, none⟩ (.slice none 0 0)).setCell ⟨w.heap.size, 3, none⟩ (.int .i64 0)).setCell ⟨w.heap.size, 4, none⟩ (.int .i64 0)) := by
  subst hR
  exact ⟨_, rfl, .inl ⟨rfl, none, 0, rfl⟩, (fun b o n c h => by cases h), put5_below hb (Nat.le_refl _)⟩
theorem pieces_cons (c : UInt8) (s : ByteArray) : ∃ f t, pieces c s = f :: t := by
  rcases h : pieces c s with _ | ⟨f, t⟩
  · exfalso
    by_cases hm : c ∈ s.data.toList
    · obtain ⟨a, r, e⟩ := List.append_of_mem hm
      obtain ⟨i, hi⟩ : ∃ i : Nat, Lib.indexByte s.data.toList c = i := by
        have hn : Lib.indexByte s.data.toList c ≠ -1 := by
          intro hneg
          have := pieces_miss hneg
          rw [h] at this; cases this
        rcases Lib.indexB_cases s ⟨#[c]⟩ with hx | ⟨i, hx, _⟩
        · rw [indexB_one] at hx; exact absurd hx hn
        · rw [indexB_one] at hx; exact ⟨i, hx⟩
      rw [pieces_hit hi] at h; cases h
    · have := pieces_last hm
      rw [← mk_self s] at this
      rw [h] at this; cases this
  · exact ⟨f, t, rfl⟩
def LsAt (w : World) (g : Nat) (v : Value) (xs : List ByteArray) : Prop :=
  (xs = [] ∧ ∃ a c, v = .slice a 0 c) ∨ ∃ off c, v = .slice (some ⟨g, off, none⟩) xs.length c ∧ ∀ (j : Nat) x, xs[j]? = some x → w.cell? ⟨g, off + j, none⟩ = some (.string x)
theorem reads_set2 {W : World} {b i : Nat} {v u : Value} {xs : List Int} (hr : Ints.Reads W v xs) (hv : ∀ k o n c, v = .slice (some ⟨k, o, none⟩) n c → b < k) : Ints.Reads (W.setCell ⟨b, i, none⟩ u) v xs := by
  rcases hr with ⟨h1, h2⟩ | ⟨k, off, cap, rfl, hc⟩
  · exact .inl ⟨h1, h2⟩
  · refine .inr ⟨k, off, cap, rfl, fun i' hi => ?_⟩
    have hk := hv _ _ _ _ rfl
    exact (World.cell?_setCell_other (w := W) (v := u) (a := ⟨b, i, none⟩) (b := ⟨k, off + i', none⟩) (by intro e; injection e with e1 _ _; omega)).trans (hc i' hi)
theorem num_call (s : ByteArray) (w : World) (hs : s.size ≤ 30000) {nn : Int} (hn : (if numOk s.data.toList = true then numIs s.data.toList else -1) = nn) :
    Calls Tryz.prog 137 #[.string s, .int .i64 9] w fun e w' => e = .returned (.int .i64 nn) ∧ Below w.heap.size w w' := by
  refine (num9_any s w (by omega)).mono ?_
  rintro e w' ⟨he, q, rfl⟩
  rw [hn] at he
  exact ⟨he, below_drewN (Below.refl _ _) q⟩
set_option maxRecDepth 100000 in
set_option maxHeartbeats 8000000 in
theorem readRule_any (s : ByteArray) (w : World) (hs : s.size ≤ 30000) :
    Calls Tryz.prog 138 #[.string s] w (RrPost (readS s) w) := by
  obtain ⟨R, hR⟩ : ∃ R, readS s = R := ⟨_, rfl⟩
  rw [hR]
  have hsl : s.data.toList.length = s.size := by simp
  obtain ⟨f, t0, hL⟩ := pieces_cons 32 s
  have hLs : ∀ x ∈ f :: t0, x.size ≤ 30000 := fun x hx => by
    rw [← hL] at hx
    exact Nat.le_trans (pieces_le hx) hs
  have hLl : (f :: t0).length ≤ 30001 := by rw [← hL]; have := pieces_len 32 s; omega
  have hrd : R = if s.toList = onceW then (0, { fq := s, ev := 1, ct := 0, un := -1, ds := [] }) else readCR (f :: t0) := by rw [← hR, readS, hL]
  have hfs : s.toList = onceW → f = s := fun h => by
    have h32 : (32 : UInt8) ∉ s.data.toList := by
      rw [← ByteArray.toList_eq, h]; decide
    have := pieces_last h32
    rw [← mk_self s, hL] at this
    injection this
  have hcut := fun W => cut_lit s.data.toList 32 32 W (by omega) rfl
  rw [← mk_self s] at hcut
  unfold CutPost at hcut
  rw [← mk_self s, hL] at hcut
  obtain ⟨W1, hW1⟩ : ∃ W1, ((w.alloc (.cells #[.string ⟨#[]⟩, .int .i64 0, .slice none 0 0, .int .i64 0, .int .i64 0] 37)).alloc (.cells #[.string ⟨#[]⟩, .int .i64 0, .slice none 0 0, .int .i64 0, .int .i64 0] 37)).alloc (.cells #[.string ⟨#[]⟩, .int .i64 1, .slice none 0 0, .int .i64 0, .int .i64 (-1)] 37) = W1 := ⟨_, rfl⟩
  have hbx : Bx w.heap.size (.string ⟨#[]⟩) (.int .i64 1) (.slice none 0 0) (.int .i64 0) (.int .i64 (-1)) W1 := by
    rw [← hW1]
    refine ⟨?_, ?_, ?_⟩
    · exact row_below' (row_below' (heap_new w _) ((Below.refl _ _).alloc (Nat.le_refl _) _)) ((Below.refl _ _).alloc (Nat.le_refl _) _)
    · have h := heap_new (w.alloc (.cells #[.string ⟨#[]⟩, .int .i64 0, .slice none 0 0, .int .i64 0, .int .i64 0] 37)) (.cells #[.string ⟨#[]⟩, .int .i64 0, .slice none 0 0, .int .i64 0, .int .i64 0] 37)
      rw [World.size_alloc] at h
      exact row_below' h ((Below.refl _ _).alloc (Nat.le_refl _) _)
    · have h := heap_new ((w.alloc (.cells #[.string ⟨#[]⟩, .int .i64 0, .slice none 0 0, .int .i64 0, .int .i64 0] 37)).alloc (.cells #[.string ⟨#[]⟩, .int .i64 0, .slice none 0 0, .int .i64 0, .int .i64 0] 37)) (.cells #[.string ⟨#[]⟩, .int .i64 1, .slice none 0 0, .int .i64 0, .int .i64 (-1)] 37)
      rw [World.size_alloc, World.size_alloc] at h
      exact h
  have hb1 : Below w.heap.size w W1 := by
    rw [← hW1]
    exact (((Below.refl _ w).alloc (Nat.le_refl _) _).alloc (by simp) _).alloc (by simp; omega) _
  have hz1 : W1.heap.size = w.heap.size + 3 := by rw [← hW1]; simp
  have HCUT := Lib.hid hcut
  have HRD := Lib.hid hrd
  have HFS := Lib.hid hfs
  have HLS := Lib.hid hLs
  have HW1 := Lib.hid hW1
  have HB1 := Lib.hid hb1
  have HBX := Lib.hid hbx
  have HZ1 := Lib.hid hz1
  obtain ⟨N, hN⟩ : ∃ N, (f :: t0).length = N := ⟨_, rfl⟩
  have hN1 : N = t0.length + 1 := hN.symm
  rw [hN] at HCUT hLl
  have HN := Lib.hid hN
  have HN1 := Lib.hid hN1
  clear hcut hrd hfs hLs hW1 hb1 hbx hz1 hR hL hsl hN hN1
  go_enter Tryz.func138, Tryz.ntmps138
  go_wp2_with fail
  rw [HW1.out]
  (with_reducible refine (HCUT.out _).mono ?_)
  rintro e1 w2 ⟨cv, rfl, hown, hb2⟩
  have hrc := reads_ownS hown HN.out.symm
  obtain ⟨g, cap, rfl, hcap, hgl, hce⟩ : ∃ g cap, cv = .slice (some ⟨g, 0, none⟩) N cap ∧ N ≤ cap ∧ g < w2.heap.size ∧ ∀ (j : Nat) x, (f :: t0)[j]? = some x → w2.cell? ⟨g, 0 + j, none⟩ = some (.string x) := by
    rcases hrc with ⟨h, _⟩ | ⟨g, cap, h1, h2, h3, h4⟩
    · cases h
    · rw [HN.out] at h1 h2
      exact ⟨g, cap, h1, h2, h3, h4⟩
  have hgw : W1.heap.size ≤ g := own_ge hown (j := g) rfl
  have hbx2 := bx_below HBX.out hb2
  have hlow2 := HB1.out.trans (hb2.mono HB1.out.size)
  obtain ⟨p0, p1, p2, p3, p4, pf3, pf4, pf1⟩ := cells5 hbx2.r2
  obtain ⟨pf0, pf2⟩ := froz5 hbx2.r2
  have k0 := hce 0 f rfl
  have hl0 : (0 : Int) < (N : Int) := by have := HN1.out; omega
  have hg3 : w.heap.size + 2 ≠ g := by have := HZ1.out; omega
  obtain ⟨W3, hW3⟩ : ∃ W3, w2.setCell ⟨w.heap.size + 2, 0, none⟩ (.string f) = W3 := ⟨_, rfl⟩
  have hbx3 : Bx w.heap.size (.string f) (.int .i64 1) (.slice none 0 0) (.int .i64 0) (.int .i64 (-1)) W3 := by rw [← hW3]; exact bx_set hbx2 rfl
  have hlow3 : Below w.heap.size w W3 := by rw [← hW3]; exact hlow2.setCell (p := ⟨w.heap.size + 2, 0, none⟩) (by show w.heap.size ≤ w.heap.size + 2; omega) _
  have hce3 : ∀ (j : Nat) x, (f :: t0)[j]? = some x → W3.cell? ⟨g, 0 + j, none⟩ = some (.string x) := fun j x h => by
    rw [← hW3]
    exact (World.cell?_setCell_other (w := w2) (v := .string f) (a := ⟨w.heap.size + 2, 0, none⟩) (b := ⟨g, 0 + j, none⟩) (by intro e; injection e with e1 _ _; exact hg3 e1)).trans (hce j x h)
  have HCE3 := Lib.hid hce3
  have HBX3 := Lib.hid hbx3
  have HLOW3 := Lib.hid hlow3
  have HW3 := Lib.hid hW3
  clear hown hrc hce hbx2 hlow2 hW3 hbx3 hlow3 hce3 hb2 HCUT
  go_upto_region 5 with fail
  rw [HW3.out]
  by_cases ho : s.toList = onceW
  · have hr : R = (0, { fq := s, ev := 1, ct := 0, un := -1, ds := [] }) := by rw [HRD.out, if_pos ho]
    obtain rfl := HFS.out ho
    subst hr
    simp only [onceW] at ho
    obtain ⟨z0, z1, z2, z3, z4, g3, g4, g1⟩ := cells5 HBX3.out.r0
    obtain ⟨g0, g2⟩ := froz5 HBX3.out.r0
    obtain ⟨p0, p1, p2, p3, p4, pf3, pf4, pf1⟩ := cells5 HBX3.out.r2
    obtain ⟨pf0, pf2⟩ := froz5 HBX3.out.r2
    go_wp2
    exact bodyPost_ret (res_rr (put5_row HBX3.out.r0) rfl rfl) rfl ⟨_, rfl, .inl ⟨rfl, none, 0, rfl⟩, (fun b o n c h => by cases h), put5_below HLOW3.out (Nat.le_refl _)⟩
  have ho' : (s.toList == [111, 110, 99, 101]) = false := by simpa using ho
  have hr : R = readCR (f :: t0) := by rw [HRD.out, if_neg ho]
  have HRR := Lib.hid hr
  clear hr HRD HFS ho p0 p1 p2 p3 p4 pf0 pf1 pf2 pf3 pf4 k0
  have k0 := HCE3.out 0 f rfl
  go_upto_region 7 with fail
  go_cut [49] from 23 to 49 (fun s49 wx => s49 = .bool (!headB (f :: t0)) ∧ Below W3.heap.size W3 wx)
  case first =>
    by_cases hname : Lib.containsS freqs f = false
    · obtain ⟨n1, n2, n3, n4, n5⟩ := not_name hname
      have q2 : (f.toList == [100, 97, 105, 108, 121]) = false := by simpa using n2
      have q3 : (f.toList == [119, 101, 101, 107, 108, 121]) = false := by simpa using n3
      have q4 : (f.toList == [109, 111, 110, 116, 104, 108, 121]) = false := by simpa using n4
      have q5 : (f.toList == [121, 101, 97, 114, 108, 121]) = false := by simpa using n5
      have hh : headB (f :: t0) = false := by
        rcases t0 with _ | ⟨n, t⟩
        · rfl
        · simp only [headB, hname, Bool.and_false]
      have HH := Lib.hid hh
      clear n1 n2 n3 n4 n5 hname hh
      go_wp2_with fail
      go_meet
      exact ⟨by rw [HH.out]; rfl, Below.refl _ _⟩
    · have hname' : Lib.containsS freqs f = true := by simpa using hname
      have hhb : headB (f :: t0) = (!(f.toList == [111, 110, 99, 101]) && !decide ((N : Int) < 2)) := by
        have := HN1.out
        rcases t0 with _ | ⟨n, t⟩
        · simp at this
          subst this
          simp [headB]
        · have h2 : ¬ (N : Int) < 2 := by simp at this; omega
          simp only [headB, hname', Bool.and_true, decide_eq_false h2, onceW, Bool.not_false]
      rw [ByteArray.toList_eq] at hhb
      have HH := Lib.hid hhb
      have HN0 := Lib.hid hname'
      clear hname hname' hhb
      rcases freqs_mem HN0.out with h | h | h | h | h
      all_goals (
        subst h
        go_wp2_with fail
        go_meet
        exact ⟨by rw [HH.out]; first | rfl | (cases decide ((N : Int) < 2) <;> rfl), Below.refl _ _⟩)
  case rest =>
    obtain ⟨rfl, hbc⟩ := hcut
    obtain ⟨b, hb⟩ : ∃ b, headB (f :: t0) = b := ⟨_, rfl⟩
    rw [hb]
    have hlow4 := HLOW3.out.trans (hbc.mono HLOW3.out.size)
    have hbx4 := bx_below HBX3.out hbc
    have hce4 := fun j x h => cell_later hbc (HCE3.out j x h)
    have HLOW4 := Lib.hid hlow4
    have HBX4 := Lib.hid hbx4
    have HCE4 := Lib.hid hce4
    have HB := Lib.hid hb
    clear hbc hb hlow4 hbx4 hce4 HLOW3 HBX3 HCE3 k0
    obtain ⟨z0, z1, z2, z3, z4, g3, g4, g1⟩ := cells5 HBX4.out.r0
    obtain ⟨g0, g2⟩ := froz5 HBX4.out.r0
    obtain ⟨y0, y1, y2, y3, y4, x3, x4, x1⟩ := cells5 HBX4.out.r1
    cases b with
    | false =>
      have hr : R = (1, zeroRu) := by
        rw [HRR.out]
        rcases t0 with _ | ⟨n, t⟩
        · rfl
        · simp only [readCR, HB.out]; exact if_neg (by simp)
      clear HRR
      go_wp2
      exact bodyPost_ret (res_rr (put5_row HBX4.out.r0) rfl rfl) rfl (rr_none hr HLOW4.out)
    | true =>
      obtain ⟨n, t, rfl⟩ : ∃ n t, t0 = n :: t := by
        rcases t0 with _ | ⟨n, t⟩
        · exact absurd HB.out (by simp [headB])
        · exact ⟨n, t, rfl⟩
      have hN2 : N = t.length + 1 + 1 := HN1.out
      have HN2 := Lib.hid hN2
      have hl1 : (1 : Int) < (N : Int) := by omega
      have k1 := HCE4.out 1 n rfl
      obtain ⟨q, hq⟩ : ∃ q, numOk n.data.toList = q := ⟨_, rfl⟩
      have HQ := Lib.hid hq
      obtain ⟨nn, hnn⟩ : ∃ nn, (if numOk n.data.toList = true then numIs n.data.toList else -1) = nn := ⟨_, rfl⟩
      have hnum := fun W => num_call n W (HLS.out n (by simp)) hnn
      have HNUM := Lib.hid hnum
      have HNN := Lib.hid hnn
      clear hq hnum hnn hN2
      go_wp2_with fail
      (with_reducible refine (HNUM.out _).mono ?_)
      rintro e2 w3 ⟨rfl, hb3⟩
      have hlow5 := HLOW4.out.trans (hb3.mono HLOW4.out.size)
      have hbx5 := bx_below HBX4.out hb3
      have hce5 := fun j x h => cell_later hb3 (HCE4.out j x h)
      obtain ⟨W5, hW5⟩ : ∃ W5, w3.setCell ⟨w.heap.size + 2, 1, none⟩ (.int .i64 nn) = W5 := ⟨_, rfl⟩
      have hbx6 : Bx w.heap.size (.string f) (.int .i64 nn) (.slice none 0 0) (.int .i64 0) (.int .i64 (-1)) W5 := by rw [← hW5]; exact bx_set hbx5 rfl
      have hlow6 : Below w.heap.size w W5 := by rw [← hW5]; exact hlow5.setCell (p := ⟨w.heap.size + 2, 1, none⟩) (by show w.heap.size ≤ w.heap.size + 2; omega) _
      have hce6 : ∀ (j : Nat) x, (f :: n :: t)[j]? = some x → W5.cell? ⟨g, 0 + j, none⟩ = some (.string x) := fun j x h => by
        rw [← hW5]
        exact (World.cell?_setCell_other (w := w3) (v := .int .i64 nn) (a := ⟨w.heap.size + 2, 1, none⟩) (b := ⟨g, 0 + j, none⟩) (by intro e; injection e with e1 _ _; exact hg3 e1)).trans (hce5 j x h)
      obtain ⟨p0, p1, p2, p3, p4, pf3, pf4, pf1⟩ := cells5 hbx5.r2
      obtain ⟨pf0, pf2⟩ := froz5 hbx5.r2
      have HCE6 := Lib.hid hce6
      have HBX6 := Lib.hid hbx6
      have HLOW6 := Lib.hid hlow6
      have HW5 := Lib.hid hW5
      clear hb3 hlow5 hbx5 hce5 hW5 hbx6 hlow6 hce6 k1 z0 z1 z2 z3 z4 g0 g1 g2 g3 g4 y0 y1 y2 y3 y4 x1 x3 x4 HBX4 HCE4 HLOW4 HNUM
      go_upto_region 10 with fail
      rw [HW5.out]
      clear p0 p1 p2 p3 p4 pf0 pf1 pf2 pf3 pf4
      obtain ⟨z0, z1, z2, z3, z4, g3, g4, g1⟩ := cells5 HBX6.out.r0
      obtain ⟨g0, g2⟩ := froz5 HBX6.out.r0
      obtain ⟨y0, y1, y2, y3, y4, x3, x4, x1⟩ := cells5 HBX6.out.r1
      obtain ⟨p0, p1, p2, p3, p4, pf3, pf4, pf1⟩ := cells5 HBX6.out.r2
      obtain ⟨pf0, pf2⟩ := froz5 HBX6.out.r2
      cases q with
      | false =>
        have hr : R = (1, zeroRu) := by
          rw [HRR.out]
          simp only [readCR, HQ.out]; exact if_neg (by simp)
        obtain rfl : -1 = nn := by have := HNN.out; rwa [HQ.out] at this
        clear HRR
        go_wp2
        exact bodyPost_ret (res_rr (put5_row HBX6.out.r0) rfl rfl) rfl (rr_none hr HLOW6.out)
      | true =>
        have hnn : numIs n.data.toList = nn := by have := HNN.out; rw [HQ.out] at this; simpa using this
        have hn0 := (num_of HQ.out).1
        rw [hnn] at hn0
        have hn1 : decide (nn < 0) = false := decide_eq_false (by omega)
        have hRu : R = (if tailC (midOf t).2 ≠ 0 then (tailC (midOf t).2, zeroRu)
            else if tailB (midOf t).2 = false then (1, zeroRu)
            else if bad (ruleOf f n t) ≠ 0 then (bad (ruleOf f n t), zeroRu) else (0, ruleOf f n t)) := by
          rw [HRR.out]
          simp only [readCR, HB.out, HQ.out]
          exact if_pos ⟨trivial, trivial⟩
        have HRU := Lib.hid hRu
        have HNV := Lib.hid hnn
        have hM2 : (2 : Int) ≤ (N : Int) := by omega
        have hM3 : 2 ≤ N := by omega
        clear hRu hnn HRR HNN HN
        go_upto_if 64 with fail
        generalize hptr : (if cap = 2 then some (⟨g, 0, none⟩ : Addr) else some ⟨g, 2, none⟩) = ptr
        generalize hM : N - 2 = M
        generalize hC : cap - 2 = C
        have hMt : M = t.length := by have := HN2.out; omega
        have hMC : M ≤ C := by omega
        have HP := Lib.hid hptr
        have HM := Lib.hid hMt
        have HMC := Lib.hid hMC
        have HCC := Lib.hid hC
        clear hptr hM hMt hC hMC hl0 hl1 hM2 hM3 hn0 hn1
        have hz5 : w.heap.size + 2 < W5.heap.size := (Array.getElem?_eq_some_iff.1 HBX6.out.r2).1
        go_cut [6, 7, 8] from 60 to 76 (fun s6 s7 s8 wx => ∃ v, LsAt wx g s6 (midOf t).2 ∧ Bx w.heap.size (.string f) (.int .i64 nn) v (.int .i64 0) (.int .i64 (-1)) wx ∧ Ints.Reads wx v (midOf t).1 ∧ (∀ b o n c, v = .slice (some ⟨b, o, none⟩) n c → w.heap.size + 2 < b) ∧ Below w.heap.size w wx)
        case first =>
          cases t with
          | nil =>
            obtain rfl : M = 0 := HM.out
            go_wp2_with fail
            go_meet
            exact ⟨.slice none 0 0, .inl ⟨rfl, _, _, rfl⟩, HBX6.out, .inl ⟨rfl, none, 0, rfl⟩, (fun b o n c h => by cases h), HLOW6.out⟩
          | cons d t =>
            obtain rfl : ptr = some ⟨g, 2, none⟩ := by
              rw [← HP.out]
              exact if_neg (by have := HN2.out; simp at this; omega)
            have hM0 : 0 < M := by have := HM.out; simp at this; omega
            have hM1 : (0 : Int) < (M : Int) := by omega
            have hM2 : (1 : Int) ≤ (M : Int) := by omega
            have hM3 : 1 ≤ M := by omega
            have k2 := HCE6.out 2 d rfl
            have hd := fun W => weekdaysOf_any d W (Nat.le_trans (HLS.out d (by simp)) (by decide))
            have HD := Lib.hid hd
            clear hd
            go_wp2_with fail
            (with_reducible refine (HD.out _).mono ?_)
            rintro e3 w6 ⟨v, rfl, hv0, hv1, hb6⟩
            have hbx7 := bx_below HBX6.out hb6
            have hlow7 := HLOW6.out.trans (hb6.mono HLOW6.out.size)
            have hce7 := fun j x h => cell_later hb6 (HCE6.out j x h)
            have HBX7 := Lib.hid hbx7
            have HLOW7 := Lib.hid hlow7
            have HCE7 := Lib.hid hce7
            have HV := Lib.hid (And.intro hv0 hv1)
            have HMO := Lib.hid HM.out
            obtain ⟨ok, hok⟩ : ∃ ok, daysOk d = ok := ⟨_, rfl⟩
            rw [hok] at HV ⊢
            have HOK := Lib.hid hok
            clear hbx7 hlow7 hce7 hv0 hv1 hok HD k2 hb6
            clear z0 z1 z2 z3 z4 g0 g1 g2 g3 g4 y0 y1 y2 y3 y4 x1 x3 x4 p0 p1 p2 p3 p4 pf0 pf1 pf2 pf3 pf4
            cases ok with
            | false =>
              have hm : midOf (d :: t) = ([], d :: t) := by simp only [midOf, HOK.out]; rfl
              have HMID := Lib.hid hm
              clear hm
              go_wp2_with fail
              go_meet
              rw [HMID.out]
              refine ⟨.slice none 0 0, .inr ⟨2, C, by rw [HMO.out], fun j x hx => ?_⟩, HBX7.out, .inl ⟨rfl, none, 0, rfl⟩, (fun b o n c h => by cases h), HLOW7.out⟩
              have h := HCE7.out (j + 2) x (by simpa using hx)
              rw [show 0 + (j + 2) = 2 + j by omega] at h
              exact h
            | true =>
              have hm : midOf (d :: t) = (daysV d, t) := by simp only [midOf, HOK.out]; rfl
              have HMID := Lib.hid hm
              clear hm
              have hrv : Ints.Reads w6 v (daysV d) := by have := HV.out.1; rwa [if_pos rfl] at this
              have HV2 := Lib.hid (And.intro hrv HV.out.2)
              clear hrv HV
              obtain ⟨p0, p1, p2, p3, p4, pf3, pf4, pf1⟩ := cells5 HBX7.out.r2
              obtain ⟨pf0, pf2⟩ := froz5 HBX7.out.r2
              obtain ⟨va, vc, rfl⟩ := HV2.out.1.shape
              obtain ⟨dl, hdl⟩ : ∃ dl, (daysV d).length = dl := ⟨_, rfl⟩
              rw [hdl] at HV2 ⊢
              clear hdl
              go_wp2_with fail
              all_goals go_meet
              all_goals (
                rw [HMID.out]
                have hne : ∀ b o n c, Value.slice va dl vc = .slice (some ⟨b, o, none⟩) n c → w.heap.size + 2 < b := fun b o n c h => by have := HV2.out.2 b o n c h; omega
                have hst5 : Rng.Stay (fun x => x = w.heap.size + 2) w6.heap.size w6 (w6.setCell ⟨w.heap.size + 2, 2, none⟩ (.slice va dl vc)) := (Rng.Stay.refl (fun x => x = w.heap.size + 2) w6.heap.size w6).setCell (p := ⟨w.heap.size + 2, 2, none⟩) (.inl rfl) (fun o ho => by rw [HBX7.out.r2] at ho; cases ho; rfl) _
                have hml : M = t.length + 1 := HMO.out
                have hMC := HMC.out
                have hrd := reads_stay HV2.out.1 hst5 (fun b o n c h _ => Nat.ne_of_gt (hne b o n c h)) (Nat.le_refl _)
                have hbx8 : Bx w.heap.size (.string f) (.int .i64 nn) (.slice va dl vc) (.int .i64 0) (.int .i64 (-1)) (w6.setCell ⟨w.heap.size + 2, 2, none⟩ (.slice va dl vc)) := bx_set HBX7.out rfl
                have hlow8 : Below w.heap.size w (w6.setCell ⟨w.heap.size + 2, 2, none⟩ (.slice va dl vc)) := HLOW7.out.setCell (p := ⟨w.heap.size + 2, 2, none⟩) (by show w.heap.size ≤ w.heap.size + 2; omega) _
                refine ⟨.slice va dl vc, ?_, ⟨hbx8.r0, hbx8.r1, hbx8.r2⟩, hrd, hne, hlow8⟩
                by_cases htn : t = []
                · have hm : M - 1 = 0 := by rw [htn] at hml; simp at hml; omega
                  first
                    | (refine .inl ⟨htn, some ⟨g, 2, none⟩, 0, ?_⟩; rw [hm]; done)
                    | (refine .inl ⟨htn, some ⟨g, 3, none⟩, C - 1, ?_⟩; rw [hm]; done)
                · have htl : 0 < t.length := List.length_pos_iff.2 htn
                  have hm : M - 1 = t.length := by omega
                  first
                    | (exfalso; omega)
                    | (rw [hm]
                       refine .inr ⟨3, C - 1, rfl, fun j x hx => ?_⟩
                       have h6 := HCE7.out (j + 3) x (by simpa using hx)
                       rw [show 0 + (j + 3) = 3 + j by omega] at h6
                       exact (World.cell?_setCell_other (w := w6) (v := .slice va dl vc) (a := ⟨w.heap.size + 2, 2, none⟩) (b := ⟨g, 3 + j, none⟩) (by intro e; injection e with e1 _ _; exact hg3 e1)).trans h6))
        case rest =>
          obtain ⟨v, hls, hbx7, hrv, hvb, hlow7⟩ := hcut
          obtain ⟨tl, htl⟩ : ∃ tl, (midOf t).2 = tl := ⟨_, rfl⟩
          obtain ⟨ds, hds⟩ : ∃ ds, (midOf t).1 = ds := ⟨_, rfl⟩
          have hRu := HRU.out
          unfold ruleOf at hRu
          rw [HNV.out, htl, hds] at hRu
          have hsz : ∀ x ∈ tl, x.size ≤ 30000 := by
            intro x hx
            rw [← htl] at hx
            refine HLS.out x ?_
            refine List.mem_cons_of_mem _ (List.mem_cons_of_mem _ ?_)
            cases t with
            | nil => simp [midOf] at hx
            | cons d t =>
              simp only [midOf] at hx
              split at hx
              · exact List.mem_cons_of_mem _ hx
              · exact hx
          have hln : ds.length < 50000 := by
            rw [← hds]
            cases t with
            | nil => simp [midOf]
            | cons d t =>
              simp only [midOf]
              split
              · have h3 := pieces_len 44 d
                have h4 := HLS.out d (by simp)
                simp only [daysV, List.length_map]; omega
              · simp
          rw [htl] at hls
          rw [hds] at hrv
          have HRU2 := Lib.hid hRu
          have HSZ := Lib.hid hsz
          have HBX7 := Lib.hid hbx7
          have HRV7 := Lib.hid hrv
          have HVB := Lib.hid hvb
          have HLOW7 := Lib.hid hlow7
          have hz7 : w.heap.size + 2 < wc.heap.size := (Array.getElem?_eq_some_iff.1 hbx7.r2).1
          clear hRu htl hds hsz hbx7 hrv hvb hlow7 HRU HP HM HMC HCC HCE6 HBX6 HLOW6 HLS
          clear z0 z1 z2 z3 z4 g0 g1 g2 g3 g4 y0 y1 y2 y3 y4 x1 x3 x4 p0 p1 p2 p3 p4 pf0 pf1 pf2 pf3 pf4
          obtain ⟨va, vc, rfl⟩ := HRV7.out.shape
          obtain ⟨z0, z1, z2, z3, z4, g3, g4, g1⟩ := cells5 HBX7.out.r0
          obtain ⟨g0, g2⟩ := froz5 HBX7.out.r0
          obtain ⟨y0, y1, y2, y3, y4, x3, x4, x1⟩ := cells5 HBX7.out.r1
          obtain ⟨dl, hdl⟩ : ∃ dl, ds.length = dl := ⟨_, rfl⟩
          have HDL := Lib.hid hdl
          have HLN := Lib.hid hln
          rw [hdl] at HBX7 HVB HRV7
          clear hdl hln
          rcases tl with _ | ⟨k, _ | ⟨x, _ | ⟨y, ts⟩⟩⟩
          · obtain ⟨sa, sc, rfl⟩ : ∃ a c, u6 = .slice a 0 c := by
              rcases hls with ⟨_, h⟩ | ⟨off, c, h, _⟩
              · exact h
              · exact ⟨_, _, h⟩
            clear hls
            have hru : R = if bad { fq := f, ev := nn, ct := 0, un := -1, ds := ds } ≠ 0 then (bad { fq := f, ev := nn, ct := 0, un := -1, ds := ds }, zeroRu) else (0, { fq := f, ev := nn, ct := 0, un := -1, ds := ds }) := by
              rw [HRU2.out]
              exact (if_neg (by decide)).trans (if_neg (by decide))
            have hbxW := HBX7.out
            have hlowW := HLOW7.out
            have hrvW := HRV7.out
            have hln := HLN.out
            have HRR2 := Lib.hid hru
            have HCK := Lib.hid (ruleError_any { fq := f, ev := nn, ct := 0, un := (-1), ds := ds } (.slice va dl vc) wc hrvW hln)
            have HBXW := Lib.hid hbxW
            have HLOwc := Lib.hid hlowW
            have HRVW := Lib.hid hrvW
            obtain ⟨p0, p1, p2, p3, p4, pf3, pf4, pf1⟩ := cells5 hbxW.r2
            obtain ⟨pf0, pf2⟩ := froz5 hbxW.r2
            clear hru hbxW hlowW hrvW
            go_wp2_with fail
            (with_reducible refine HCK.out.mono ?_)
            rintro e5 w9 ⟨rfl, hb9⟩
            have hbx9 := bx_below HBXW.out hb9
            have hlow9 := HLOwc.out.trans (hb9.mono HLOwc.out.size)
            have hrv9 := HRVW.out.below hb9
            obtain ⟨z0, z1, z2, z3, z4, g3, g4, g1⟩ := cells5 hbx9.r0
            obtain ⟨g0, g2⟩ := froz5 hbx9.r0
            obtain ⟨y0, y1, y2, y3, y4, x3, x4, x1⟩ := cells5 hbx9.r1
            obtain ⟨p0, p1, p2, p3, p4, pf3, pf4, pf1⟩ := cells5 hbx9.r2
            obtain ⟨pf0, pf2⟩ := froz5 hbx9.r2
            obtain ⟨bq, hbq⟩ : ∃ bq, bad { fq := f, ev := nn, ct := 0, un := (-1), ds := ds } = bq := ⟨_, rfl⟩
            have hru := HRR2.out
            rw [hbq] at hru ⊢
            have HRR3 := Lib.hid hru
            have HBX9 := Lib.hid hbx9.r0
            have HLOW9 := Lib.hid hlow9
            have HRV9 := Lib.hid hrv9
            clear hbq hru hb9 hbx9 hlow9 hrv9 HCK HBXW HLOwc HRVW HRR2
            cases bq with
            | succ bq =>
              have hr : R = (bq + 1, zeroRu) := by rw [HRR3.out, if_pos (by omega)]
              obtain ⟨eI, heI⟩ : ∃ eI : Int, ((bq + 1 : Nat) : Int) = eI := ⟨_, rfl⟩
              have hgt : decide ((0 : Int) < eI) = true := decide_eq_true (by omega)
              rw [heI]
              have HEI := Lib.hid heI
              have HR := Lib.hid hr
              clear hr heI HRR3
              go_wp2
              rw [← HEI.out]
              exact bodyPost_ret (res_rr (put5_row HBX9.out) rfl rfl) rfl (rr_none HR.out HLOW9.out)
            | zero =>
              have hr : R = (0, { fq := f, ev := nn, ct := 0, un := (-1), ds := ds }) := by rw [HRR3.out, if_neg (by omega)]
              subst hr
              go_wp2
              exact bodyPost_ret (res_rr (put5_row HBX9.out) rfl rfl) rfl ⟨_, rfl, put5_reads HRV9.out (fun b o n c h1 _ => by have := HVB.out b o n c h1; omega), (fun b o n c h1 _ => by have := HVB.out b o n c h1; omega), put5_below HLOW9.out (Nat.le_refl _)⟩
          · obtain ⟨off, sc, rfl, hce⟩ : ∃ off c, u6 = .slice (some ⟨g, off, none⟩) 1 c ∧ ∀ (j : Nat) x, [k][j]? = some x → wc.cell? ⟨g, off + j, none⟩ = some (.string x) := by
              rcases hls with ⟨h, _⟩ | ⟨off, c, h, h2⟩
              · cases h
              · exact ⟨off, c, h, h2⟩
            clear hls hce
            have hr : R = (1, zeroRu) := by
              rw [HRU2.out]
              exact (if_neg (by simp [tailC])).trans (if_pos rfl)
            clear HRU2
            go_wp2
            exact bodyPost_ret (res_rr (put5_row HBX7.out.r0) rfl rfl) rfl (rr_none hr HLOW7.out)
          · obtain ⟨off, sc, rfl, hce⟩ : ∃ off c, u6 = .slice (some ⟨g, off, none⟩) 2 c ∧ ∀ (j : Nat) y, [k, x][j]? = some y → wc.cell? ⟨g, off + j, none⟩ = some (.string y) := by
              rcases hls with ⟨h, _⟩ | ⟨off, c, h, h2⟩
              · cases h
              · exact ⟨off, c, h, h2⟩
            have hx0 := hce 0 k rfl
            rw [Nat.add_zero] at hx0
            have hx1 := hce 1 x rfl
            have hxs := HSZ.out x (by simp)
            obtain ⟨p0, p1, p2, p3, p4, pf3, pf4, pf1⟩ := cells5 HBX7.out.r2
            obtain ⟨pf0, pf2⟩ := froz5 HBX7.out.r2
            clear hls hce
            by_cases hk : k.toList = countW
            · have hk1 : (k.toList == [99, 111, 117, 110, 116]) = true := by simpa using hk
              obtain ⟨nx, hnx⟩ : ∃ nx, (if numOk x.data.toList = true then numIs x.data.toList else -1) = nx := ⟨_, rfl⟩
              have HNX := Lib.hid (fun W => num_call x W hxs hnx)
              have HNE := Lib.hid hnx
              have HK := Lib.hid hk
              clear hnx hk
              go_wp2_with fail
              (with_reducible refine (HNX.out _).mono ?_)
              rintro e3 w8 ⟨rfl, hb8⟩
              have hbx8 := bx_below HBX7.out hb8
              have hlow8 := HLOW7.out.trans (hb8.mono HLOW7.out.size)
              have hrv8 := HRV7.out.below hb8
              obtain ⟨W9, hW9⟩ : ∃ W9, w8.setCell ⟨w.heap.size + 2, 3, none⟩ (.int .i64 nx) = W9 := ⟨_, rfl⟩
              have hbx9 : Bx w.heap.size (.string f) (.int .i64 nn) (.slice va dl vc) (.int .i64 nx) (.int .i64 (-1)) W9 := by rw [← hW9]; exact bx_set hbx8 rfl
              have hlow9 : Below w.heap.size w W9 := by rw [← hW9]; exact hlow8.setCell (p := ⟨w.heap.size + 2, 3, none⟩) (by show w.heap.size ≤ w.heap.size + 2; omega) _
              have hrv9 : Ints.Reads W9 (.slice va dl vc) ds := by
                rw [← hW9]
                exact reads_set2 hrv8 HVB.out
              obtain ⟨p0, p1, p2, p3, p4, pf3, pf4, pf1⟩ := cells5 hbx8.r2
              obtain ⟨pf0, pf2⟩ := froz5 hbx8.r2
              have HW9 := Lib.hid hW9
              have HBXX := Lib.hid hbx9
              have HLOWX := Lib.hid hlow9
              have HRVX := Lib.hid hrv9
              clear hb8 hbx8 hlow8 hrv8 hW9 hbx9 hlow9 hrv9 HNX
              go_upto_region 25 with fail
              rw [HW9.out]
              clear p0 p1 p2 p3 p4 pf0 pf1 pf2 pf3 pf4 z0 z1 z2 z3 z4 g0 g1 g2 g3 g4 y0 y1 y2 y3 y4 x1 x3 x4 hx0 hx1
              obtain ⟨z0, z1, z2, z3, z4, g3, g4, g1⟩ := cells5 HBXX.out.r0
              obtain ⟨g0, g2⟩ := froz5 HBXX.out.r0
              obtain ⟨y0, y1, y2, y3, y4, x3, x4, x1⟩ := cells5 HBXX.out.r1
              obtain ⟨p0, p1, p2, p3, p4, pf3, pf4, pf1⟩ := cells5 HBXX.out.r2
              obtain ⟨pf0, pf2⟩ := froz5 HBXX.out.r2
              have eC : tailC [k, x] = 0 := by simp only [tailC]; exact if_pos HK.out
              have eB : tailB [k, x] = (numOk x.data.toList && decide (0 < numIs x.data.toList)) := by simp only [tailB]; exact if_pos HK.out
              have eT : tailCt [k, x] 0 = numIs x.data.toList := by simp only [tailCt]; exact if_pos HK.out
              have eU : tailUn [k, x] (-1) = -1 := by simp only [tailUn]; exact if_pos HK.out
              have HEE := Lib.hid (And.intro eC (And.intro eB (And.intro eT eU)))
              clear eC eB eT eU
              by_cases hlt : nx < 1
              · have hlt1 : decide (nx < 1) = true := decide_eq_true hlt
                have hr : R = (1, zeroRu) := by
                  have hne := HNE.out
                  rw [HRU2.out, HEE.out.1, HEE.out.2.1]
                  refine (if_neg (by decide)).trans (if_pos ?_)
                  by_cases h : numOk x.data.toList = true
                  · rw [if_pos h] at hne
                    rw [h, hne, decide_eq_false (by omega)]; rfl
                  · simp [h]
                have HR := Lib.hid hr
                clear hr hlt HRU2 HEE
                go_wp2
                exact bodyPost_ret (res_rr (put5_row HBXX.out.r0) rfl rfl) rfl (rr_none HR.out HLOWX.out)
              · have hlt1 : decide (nx < 1) = false := decide_eq_false hlt
                have hru : R = if bad { fq := f, ev := nn, ct := nx, un := (-1), ds := ds } ≠ 0 then (bad { fq := f, ev := nn, ct := nx, un := (-1), ds := ds }, zeroRu) else (0, { fq := f, ev := nn, ct := nx, un := (-1), ds := ds }) := by
                  have hne := HNE.out
                  have h : numOk x.data.toList = true := by
                    by_cases h : numOk x.data.toList = true
                    · exact h
                    · rw [if_neg h] at hne; omega
                  rw [if_pos h] at hne
                  rw [HRU2.out, HEE.out.1, HEE.out.2.1, HEE.out.2.2.1, HEE.out.2.2.2, hne, h, decide_eq_true (by omega)]
                  exact (if_neg (by decide)).trans (if_neg (by decide))
                have hbxW := HBXX.out
                have hlowW := HLOWX.out
                have hrvW := HRVX.out
                have hln := HLN.out
                clear hlt
                have HRR2 := Lib.hid hru
                have HCK := Lib.hid (ruleError_any { fq := f, ev := nn, ct := nx, un := (-1), ds := ds } (.slice va dl vc) W9 hrvW hln)
                have HBXW := Lib.hid hbxW
                have HLOQ := Lib.hid hlowW
                have HRVW := Lib.hid hrvW
                obtain ⟨p0, p1, p2, p3, p4, pf3, pf4, pf1⟩ := cells5 hbxW.r2
                obtain ⟨pf0, pf2⟩ := froz5 hbxW.r2
                clear hru hbxW hlowW hrvW
                go_wp2_with fail
                (with_reducible refine HCK.out.mono ?_)
                rintro e5 w9 ⟨rfl, hb9⟩
                have hbx9 := bx_below HBXW.out hb9
                have hlow9 := HLOQ.out.trans (hb9.mono HLOQ.out.size)
                have hrv9 := HRVW.out.below hb9
                obtain ⟨z0, z1, z2, z3, z4, g3, g4, g1⟩ := cells5 hbx9.r0
                obtain ⟨g0, g2⟩ := froz5 hbx9.r0
                obtain ⟨y0, y1, y2, y3, y4, x3, x4, x1⟩ := cells5 hbx9.r1
                obtain ⟨p0, p1, p2, p3, p4, pf3, pf4, pf1⟩ := cells5 hbx9.r2
                obtain ⟨pf0, pf2⟩ := froz5 hbx9.r2
                obtain ⟨bq, hbq⟩ : ∃ bq, bad { fq := f, ev := nn, ct := nx, un := (-1), ds := ds } = bq := ⟨_, rfl⟩
                have hru := HRR2.out
                rw [hbq] at hru ⊢
                have HRR3 := Lib.hid hru
                have HBX9 := Lib.hid hbx9.r0
                have HLOW9 := Lib.hid hlow9
                have HRV9 := Lib.hid hrv9
                clear hbq hru hb9 hbx9 hlow9 hrv9 HCK HBXW HLOQ HRVW HRR2
                cases bq with
                | succ bq =>
                  have hr : R = (bq + 1, zeroRu) := by rw [HRR3.out, if_pos (by omega)]
                  obtain ⟨eI, heI⟩ : ∃ eI : Int, ((bq + 1 : Nat) : Int) = eI := ⟨_, rfl⟩
                  have hgt : decide ((0 : Int) < eI) = true := decide_eq_true (by omega)
                  rw [heI]
                  have HEI := Lib.hid heI
                  have HR := Lib.hid hr
                  clear hr heI HRR3
                  go_wp2
                  rw [← HEI.out]
                  exact bodyPost_ret (res_rr (put5_row HBX9.out) rfl rfl) rfl (rr_none HR.out HLOW9.out)
                | zero =>
                  have hr : R = (0, { fq := f, ev := nn, ct := nx, un := (-1), ds := ds }) := by rw [HRR3.out, if_neg (by omega)]
                  subst hr
                  go_wp2
                  exact bodyPost_ret (res_rr (put5_row HBX9.out) rfl rfl) rfl ⟨_, rfl, put5_reads HRV9.out (fun b o n c h1 _ => by have := HVB.out b o n c h1; omega), (fun b o n c h1 _ => by have := HVB.out b o n c h1; omega), put5_below HLOW9.out (Nat.le_refl _)⟩
            · have hk1 : (k.toList == [99, 111, 117, 110, 116]) = false := by simpa using hk
              by_cases hk2 : k.toList = untilW
              · have hk3 : (k.toList == [117, 110, 116, 105, 108]) = true := by simpa using hk2
                obtain ⟨dc, hdc⟩ : ∃ dc, dayC x.data.toList = dc := ⟨_, rfl⟩
                obtain ⟨dx, hdx⟩ : ∃ dx, dayX x.data.toList = dx := ⟨_, rfl⟩
                have hcall := fun W => rreadDay_any x W
                rw [hdc, hdx] at hcall
                have HCALL := Lib.hid hcall
                have HK := Lib.hid hk2
                have eC : tailC [k, x] = dc := by simp only [tailC]; exact (if_neg hk).trans ((if_pos hk2).trans hdc)
                have eB : tailB [k, x] = true := by simp only [tailB]; exact (if_neg hk).trans (decide_eq_true hk2)
                have eT : tailCt [k, x] 0 = 0 := by simp only [tailCt]; exact if_neg hk
                have eU : tailUn [k, x] (-1) = dx := by simp only [tailUn]; exact (if_neg hk).trans ((if_pos hk2).trans hdx)
                have HEE := Lib.hid (And.intro eC (And.intro eB (And.intro eT eU)))
                clear eC eB eT eU hk hk2 hdc hdx hcall
                go_wp2_with fail
                (with_reducible refine (HCALL.out _).mono ?_)
                rintro e3 w8 ⟨rfl, hb8⟩
                have hbx8 := bx_below HBX7.out hb8
                have hlow8 := HLOW7.out.trans (hb8.mono HLOW7.out.size)
                have hrv8 := HRV7.out.below hb8
                have HBX8 := Lib.hid hbx8
                have HLOW8 := Lib.hid hlow8
                clear p0 p1 p2 p3 p4 pf0 pf1 pf2 pf3 pf4 z0 z1 z2 z3 z4 g0 g1 g2 g3 g4 y0 y1 y2 y3 y4 x1 x3 x4 hx0 hx1
                cases dc with
                | succ dc =>
                  have hr : R = (dc + 1, zeroRu) := by
                    rw [HRU2.out, HEE.out.1]
                    exact if_pos (by omega)
                  obtain ⟨eI, heI⟩ : ∃ eI : Int, ((dc + 1 : Nat) : Int) = eI := ⟨_, rfl⟩
                  have hgt : decide ((0 : Int) < eI) = true := decide_eq_true (by omega)
                  rw [heI]
                  have HEI := Lib.hid heI
                  have HR := Lib.hid hr
                  obtain ⟨z0, z1, z2, z3, z4, g3, g4, g1⟩ := cells5 hbx8.r0
                  obtain ⟨g0, g2⟩ := froz5 hbx8.r0
                  obtain ⟨y0, y1, y2, y3, y4, x3, x4, x1⟩ := cells5 hbx8.r1
                  clear hr heI HRU2 HEE hb8 hbx8 hlow8 hrv8 HCALL
                  go_wp2
                  rw [← HEI.out]
                  exact bodyPost_ret (res_rr (put5_row HBX8.out.r0) rfl rfl) rfl (rr_none HR.out HLOW8.out)
                | zero =>
                  obtain ⟨W9, hW9⟩ : ∃ W9, w8.setCell ⟨w.heap.size + 2, 4, none⟩ (.int .i64 dx) = W9 := ⟨_, rfl⟩
                  have hbxW : Bx w.heap.size (.string f) (.int .i64 nn) (.slice va dl vc) (.int .i64 0) (.int .i64 dx) W9 := by rw [← hW9]; exact bx_set hbx8 rfl
                  have hlowW : Below w.heap.size w W9 := by rw [← hW9]; exact hlow8.setCell (p := ⟨w.heap.size + 2, 4, none⟩) (by show w.heap.size ≤ w.heap.size + 2; omega) _
                  have hrvW : Ints.Reads W9 (.slice va dl vc) ds := by
                    rw [← hW9]
                    exact reads_set2 hrv8 HVB.out
                  obtain ⟨p0, p1, p2, p3, p4, pf3, pf4, pf1⟩ := cells5 hbx8.r2
                  obtain ⟨pf0, pf2⟩ := froz5 hbx8.r2
                  have HW9 := Lib.hid hW9
                  have HXX := Lib.hid (And.intro hbxW (And.intro hlowW hrvW))
                  clear hb8 hbx8 hlow8 hrv8 hW9 hbxW hlowW hrvW HCALL
                  go_upto_region 32 with fail
                  rw [HW9.out]
                  clear p0 p1 p2 p3 p4 pf0 pf1 pf2 pf3 pf4
                  obtain ⟨hbxW, hlowW, hrvW⟩ := HXX.out
                  have hru : R = if bad { fq := f, ev := nn, ct := 0, un := dx, ds := ds } ≠ 0 then (bad { fq := f, ev := nn, ct := 0, un := dx, ds := ds }, zeroRu) else (0, { fq := f, ev := nn, ct := 0, un := dx, ds := ds }) := by
                    rw [HRU2.out, HEE.out.1, HEE.out.2.1, HEE.out.2.2.1, HEE.out.2.2.2]
                    exact (if_neg (by decide)).trans (if_neg (by decide))
                  have hln := HLN.out
                  have HRR2 := Lib.hid hru
                  have HCK := Lib.hid (ruleError_any { fq := f, ev := nn, ct := 0, un := dx, ds := ds } (.slice va dl vc) W9 hrvW hln)
                  have HBXW := Lib.hid hbxW
                  have HLOQ := Lib.hid hlowW
                  have HRVW := Lib.hid hrvW
                  obtain ⟨p0, p1, p2, p3, p4, pf3, pf4, pf1⟩ := cells5 hbxW.r2
                  obtain ⟨pf0, pf2⟩ := froz5 hbxW.r2
                  clear hru hbxW hlowW hrvW
                  go_wp2_with fail
                  (with_reducible refine HCK.out.mono ?_)
                  rintro e5 w9 ⟨rfl, hb9⟩
                  have hbx9 := bx_below HBXW.out hb9
                  have hlow9 := HLOQ.out.trans (hb9.mono HLOQ.out.size)
                  have hrv9 := HRVW.out.below hb9
                  obtain ⟨z0, z1, z2, z3, z4, g3, g4, g1⟩ := cells5 hbx9.r0
                  obtain ⟨g0, g2⟩ := froz5 hbx9.r0
                  obtain ⟨y0, y1, y2, y3, y4, x3, x4, x1⟩ := cells5 hbx9.r1
                  obtain ⟨p0, p1, p2, p3, p4, pf3, pf4, pf1⟩ := cells5 hbx9.r2
                  obtain ⟨pf0, pf2⟩ := froz5 hbx9.r2
                  obtain ⟨bq, hbq⟩ : ∃ bq, bad { fq := f, ev := nn, ct := 0, un := dx, ds := ds } = bq := ⟨_, rfl⟩
                  have hru := HRR2.out
                  rw [hbq] at hru ⊢
                  have HRR3 := Lib.hid hru
                  have HBX9 := Lib.hid hbx9.r0
                  have HLOW9 := Lib.hid hlow9
                  have HRV9 := Lib.hid hrv9
                  clear hbq hru hb9 hbx9 hlow9 hrv9 HCK HBXW HLOQ HRVW HRR2
                  cases bq with
                  | succ bq =>
                    have hr : R = (bq + 1, zeroRu) := by rw [HRR3.out, if_pos (by omega)]
                    obtain ⟨eI, heI⟩ : ∃ eI : Int, ((bq + 1 : Nat) : Int) = eI := ⟨_, rfl⟩
                    have hgt : decide ((0 : Int) < eI) = true := decide_eq_true (by omega)
                    rw [heI]
                    have HEI := Lib.hid heI
                    have HR := Lib.hid hr
                    clear hr heI HRR3
                    go_wp2
                    rw [← HEI.out]
                    exact bodyPost_ret (res_rr (put5_row HBX9.out) rfl rfl) rfl (rr_none HR.out HLOW9.out)
                  | zero =>
                    have hr : R = (0, { fq := f, ev := nn, ct := 0, un := dx, ds := ds }) := by rw [HRR3.out, if_neg (by omega)]
                    subst hr
                    go_wp2
                    exact bodyPost_ret (res_rr (put5_row HBX9.out) rfl rfl) rfl ⟨_, rfl, put5_reads HRV9.out (fun b o n c h1 _ => by have := HVB.out b o n c h1; omega), (fun b o n c h1 _ => by have := HVB.out b o n c h1; omega), put5_below HLOW9.out (Nat.le_refl _)⟩
              · have hk3 : (k.toList == [117, 110, 116, 105, 108]) = false := by simpa using hk2
                have hr : R = (1, zeroRu) := by
                  have eC : tailC [k, x] = 0 := by simp only [tailC]; exact (if_neg hk).trans (if_neg hk2)
                  have eB : tailB [k, x] = false := by simp only [tailB]; exact (if_neg hk).trans (decide_eq_false hk2)
                  rw [HRU2.out, eC, eB]
                  exact (if_neg (by decide)).trans (if_pos rfl)
                have HR := Lib.hid hr
                clear hr hk hk2 HRU2
                go_wp2
                exact bodyPost_ret (res_rr (put5_row HBX7.out.r0) rfl rfl) rfl (rr_none (c := 1) HR.out HLOW7.out)
          · obtain ⟨Q, hQ⟩ : ∃ Q, (k :: x :: y :: ts).length = Q := ⟨_, rfl⟩
            have hQ3 : 3 ≤ Q := by rw [← hQ]; simp
            obtain ⟨off, sc, rfl⟩ : ∃ off c, u6 = .slice (some ⟨g, off, none⟩) Q c := by
              rcases hls with ⟨h, _⟩ | ⟨off, c, h, h2⟩
              · cases h
              · rw [hQ] at h; exact ⟨off, c, h⟩
            have hr : R = (1, zeroRu) := by
              rw [HRU2.out]
              exact (if_neg (by simp [tailC])).trans (if_pos rfl)
            have hq0 : (0 : Int) < (Q : Int) := by omega
            have hq2 : ((Q : Int) == 2) = false := by simp; omega
            have hq4 : ((Q : Int) != 2) = true := by simp; omega
            clear hls HRU2 hQ
            go_wp2
            exact bodyPost_ret (res_rr (put5_row HBX7.out.r0) rfl rfl) rfl (rr_none hr HLOW7.out)
end Rct
end Go.Proofs.YtghkalamlcfnnaaGreatDoor
end
