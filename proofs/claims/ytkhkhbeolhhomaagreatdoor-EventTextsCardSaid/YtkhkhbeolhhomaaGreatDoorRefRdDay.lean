/- The reference's ReadDay. -/
import Derived.Test.YtkhkhbeolhhomaaGreatDoorRefText
import Derived.RegionTactic
import Derived.BigRegion
import Derived.ChangeAlike
namespace Go.Proofs.YtkhkhbeolhhomaaGreatDoor
open Go.RowKit Lmd
namespace Ref
open Day

/-- the three numbers, when i signs have been read -/
def nA (l : List UInt8) (i : Nat) : Int := Cal.numV (l.take (min i 4))
def nB (l : List UInt8) (i : Nat) : Int := Cal.numV ((l.drop 5).take (min (i - 5) 2))
def nC (l : List UInt8) (i : Nat) : Int := Cal.numV ((l.drop 8).take (i - 8))
def kOf (i : Nat) : Int := if i ≤ 4 then 0 else if i ≤ 7 then 1 else 2
def okAt (l : List UInt8) (i : Nat) : Bool := if i = 4 ∨ i = 7 then decide (l[i]? = some 45) else (match l[i]? with | some c => Cal.isD c | none => false)
def okTo (l : List UInt8) (i : Nat) : Bool := (List.range i).all (okAt l)
theorem okTo_succ (l : List UInt8) (i : Nat) : okTo l (i + 1) = (okTo l i && okAt l i) := by simp [okTo, List.range_succ]
theorem ten (l : List UInt8) (h : l.length = 10) : ∃ a b c d e f g i j k, l = [a, b, c, d, e, f, g, i, j, k] := by
  match l, h with
  | [a, b, c, d, e, f, g, i, j, k], _ => exact ⟨a, b, c, d, e, f, g, i, j, k, rfl⟩
theorem okTo_ten (l : List UInt8) (h : l.length = 10) : okTo l 10 = Cal.shapeB l := by
  obtain ⟨a, b, c, d, e, f, g, i, j, k, rfl⟩ := ten l h
  simp only [okTo, okAt, Cal.shapeB, Cal.digs, List.range, List.range.loop, List.all_cons, List.all_nil]
  simp
  cases (decide (e = 45)) <;> cases (decide (i = 45)) <;> cases Cal.isD a <;> cases Cal.isD b <;> cases Cal.isD c <;> cases Cal.isD d <;> cases Cal.isD f <;> cases Cal.isD g <;> cases Cal.isD j <;> cases Cal.isD k <;> rfl
theorem okTo_bad (l : List UInt8) (i : Nat) (h : okAt l i = false) (hi : i < 10) (hl : l.length = 10) : Cal.shapeB l = false := by
  rw [← okTo_ten l hl]
  unfold okTo
  rw [List.all_eq_false]
  exact ⟨i, by simp; omega, by simp [h]⟩
theorem nA_lo (l : List UInt8) (i : Nat) (hi : i < 4) (hl : l.length = 10) : nA l (i + 1) = 10 * nA l i + ((l[i].toNat : Int) - 48) := by
  unfold nA
  rw [show min (i + 1) 4 = i + 1 from by omega, show min i 4 = i from by omega, List.take_succ_eq_append_getElem (by omega), Cal.numV_snoc]
theorem nA_hi (l : List UInt8) (i : Nat) (hi : 4 ≤ i) : nA l (i + 1) = nA l i := by
  unfold nA; rw [show min (i + 1) 4 = 4 from by omega, show min i 4 = 4 from by omega]
theorem nB_lo (l : List UInt8) (i : Nat) (hi : i < 5) : nB l (i + 1) = nB l i := by
  unfold nB; rw [show i + 1 - 5 = i - 5 from by omega]
theorem nB_mid (l : List UInt8) (i : Nat) (hi : 5 ≤ i) (h2 : i < 7) (hl : l.length = 10) : nB l (i + 1) = 10 * nB l i + ((l[i].toNat : Int) - 48) := by
  unfold nB
  rw [show min (i + 1 - 5) 2 = (i - 5) + 1 from by omega, show min (i - 5) 2 = i - 5 from by omega, List.take_succ_eq_append_getElem (by simp; omega), Cal.numV_snoc]
  simp [show 5 + (i - 5) = i from by omega]
theorem nB_hi (l : List UInt8) (i : Nat) (hi : 7 ≤ i) : nB l (i + 1) = nB l i := by
  unfold nB; rw [show min (i + 1 - 5) 2 = 2 from by omega, show min (i - 5) 2 = 2 from by omega]
theorem nC_lo (l : List UInt8) (i : Nat) (hi : i < 8) : nC l (i + 1) = nC l i := by
  unfold nC; rw [show i + 1 - 8 = i - 8 from by omega]
theorem nC_hi (l : List UInt8) (i : Nat) (hi : 8 ≤ i) (h2 : i < 10) (hl : l.length = 10) : nC l (i + 1) = 10 * nC l i + ((l[i].toNat : Int) - 48) := by
  unfold nC
  rw [show i + 1 - 8 = (i - 8) + 1 from by omega, List.take_succ_eq_append_getElem (by simp; omega), Cal.numV_snoc]
  simp [show 8 + (i - 8) = i from by omega]

theorem digs_of (l : List UInt8) (h : ∀ i (hi : i < l.length), Cal.isD l[i] = true) : Cal.digs l = true := by
  unfold Cal.digs
  rw [List.all_eq_true]
  intro x hx
  obtain ⟨i, hi, rfl⟩ := List.getElem_of_mem hx
  exact h i hi
theorem okTo_at (l : List UInt8) (i j : Nat) (h : okTo l i = true) (hj : j < i) : okAt l j = true := by
  unfold okTo at h
  rw [List.all_eq_true] at h
  exact h j (by simp; omega)
theorem okAt_dig (l : List UInt8) (j : Nat) (hj : j < l.length) (h : okAt l j = true) (h4 : j ≠ 4) (h7 : j ≠ 7) : Cal.isD l[j] = true := by
  unfold okAt at h
  rw [if_neg (by omega), List.getElem?_eq_getElem hj] at h
  exact h
theorem part_bd (l : List UInt8) (a k i : Nat) (hl : l.length = 10) (hk : k ≤ 4) (hi : a + k ≤ i ∨ k = 0) (hr : ∀ j, a ≤ j → j < a + k → j ≠ 4 ∧ j ≠ 7) (ha : a + k ≤ 10 ∨ k = 0) (h : okTo l i = true) :
    0 ≤ Cal.numV ((l.drop a).take k) ∧ Cal.numV ((l.drop a).take k) ≤ 9999999999 := by
  refine Cal.numV_small _ (by simp; omega) (digs_of _ fun j hj => ?_)
  have hj' : j < k ∧ a + j < 10 := by simp [hl] at hj; omega
  rw [List.getElem_take, List.getElem_drop]
  have hr' := hr (a + j) (by omega) (by omega)
  exact okAt_dig l (a + j) (by omega) (okTo_at l i (a + j) h (by omega)) hr'.1 hr'.2
theorem nA_bd (l : List UInt8) (i : Nat) (hl : l.length = 10) (hi : i ≤ 10) (h : okTo l i = true) : 0 ≤ nA l i ∧ nA l i ≤ 9999999999 := by
  have := part_bd l 0 (min i 4) i hl (by omega) (by omega) (fun j _ h => by omega) (by omega) h
  simpa [nA] using this
theorem nB_bd (l : List UInt8) (i : Nat) (hl : l.length = 10) (_ : i ≤ 10) (h : okTo l i = true) : 0 ≤ nB l i ∧ nB l i ≤ 9999999999 :=
  part_bd l 5 (min (i - 5) 2) i hl (by omega) (by omega) (fun j _ h => by omega) (by omega) h
theorem nC_bd (l : List UInt8) (i : Nat) (hl : l.length = 10) (hi : i ≤ 10) (h : okTo l i = true) : 0 ≤ nC l i ∧ nC l i ≤ 9999999999 :=
  part_bd l 8 (i - 8) i hl (by omega) (by omega) (fun j _ h => by omega) (by omega) h
theorem okAt_sign (l : List UInt8) (j : Nat) (hj : j < l.length) (h : j = 4 ∨ j = 7) : okAt l j = decide (l[j] = 45) := by
  unfold okAt
  rw [if_pos h, List.getElem?_eq_getElem hj]; simp
theorem okAt_num (l : List UInt8) (j : Nat) (hj : j < l.length) (h4 : j ≠ 4) (h7 : j ≠ 7) : okAt l j = Cal.isD l[j] := by
  unfold okAt
  rw [if_neg (by omega), List.getElem?_eq_getElem hj]

abbrev cells3 (a b c : Int) : Obj := .cells #[.int .i64 a, .int .i64 b, .int .i64 c] 3

set_option maxHeartbeats 400000 in
theorem readDay_len (s : ByteArray) (w : World) (h : s.size ≠ 10) :
    Calls Tryz.prog 179 #[.string s] w fun e w' => e = .returned (.tuple #[.int .i64 0, .int .i64 1]) ∧ w = w' := by
  have z3 : ((s.size : Int) != 10) = true := by rw [bne_iff_ne]; omega
  clear h
  go_enter Tryz.func179, Tryz.ntmps179
  go_wp2
  go_ret2
  exact ⟨rfl, rfl⟩

/-- what ReadDay answers at a text of ten signs -/
def RdPost (s : ByteArray) (w : World) (e : Ending) (w' : World) : Prop := Below w.heap.size w w' ∧
  (Cal.shapeB s.data.toList = false ∧ e = .returned (.tuple #[.int .i64 0, .int .i64 1]) ∨ Cal.shapeB s.data.toList = true ∧ ∃ x c : Int, e = .returned (.tuple #[.int .i64 x, .int .i64 c]) ∧
    (Cal.Ok (Cal.yOf s.data.toList) (Cal.mOf s.data.toList) (Cal.dOf s.data.toList) ∧ x = Cal.num (Cal.yOf s.data.toList) (Cal.mOf s.data.toList) (Cal.dOf s.data.toList) ∧ c = 0 ∨
      ¬ Cal.Ok (Cal.yOf s.data.toList) (Cal.mOf s.data.toList) (Cal.dOf s.data.toList) ∧ x = 0 ∧ c = 2))
theorem makeDay_ok' (y m d : Int) (w : World) (h : Cal.Ok y m d) :
    Calls Tryz.prog 241 #[.int .i64 y, .int .i64 m, .int .i64 d] w fun e w' => e = .returned (.tuple #[.int .i64 (Cal.num y m d), .int .i64 0]) ∧ w' = w :=
  (makeDay_ok y m d w h).mono fun _ _ h => ⟨h.1, h.2.symm⟩
theorem makeDay_err' (y m d : Int) (w : World) (h : ¬ Cal.Ok y m d) :
    Calls Tryz.prog 241 #[.int .i64 y, .int .i64 m, .int .i64 d] w fun e w' => e = .returned (.tuple #[.int .i64 0, .int .i64 2]) ∧ w' = w :=
  (makeDay_err y m d w h).mono fun _ _ h => ⟨h.1, h.2.symm⟩
theorem RdPost.bad {s : ByteArray} {w : World} {q : Nat} {o : Obj} (h : Cal.shapeB s.data.toList = false) : RdPost s w (.returned (.tuple #[.int .i64 0, .int .i64 1])) ((w.alloc o).drewN q) :=
  ⟨below_drewN ((Below.refl _ w).alloc (Nat.le_refl _) _) q, Or.inl ⟨h, rfl⟩⟩
theorem set3 (w : World) (q : Nat) (a b c x : Int) :
    ((w.alloc (cells3 a b c)).drewN q).setCell ⟨w.heap.size, 0, none⟩ (.int .i64 x) = (w.alloc (cells3 x b c)).drewN q ∧
    ((w.alloc (cells3 a b c)).drewN q).setCell ⟨w.heap.size, 1, none⟩ (.int .i64 x) = (w.alloc (cells3 a x c)).drewN q ∧
    ((w.alloc (cells3 a b c)).drewN q).setCell ⟨w.heap.size, 2, none⟩ (.int .i64 x) = (w.alloc (cells3 a b x)).drewN q := by
  have key : ∀ (j : Nat), ((w.alloc (cells3 a b c)).drewN q).setCell ⟨w.heap.size, j, none⟩ (.int .i64 x) = ((w.alloc (cells3 a b c)).setCell ⟨w.heap.size, j, none⟩ (.int .i64 x)).drewN q := fun _ => rfl
  refine ⟨?_, ?_, ?_⟩ <;> rw [key, World.setCell_alloc_at _ _ _ _ _ rfl] <;> rfl

set_option maxRecDepth 100000 in
set_option maxHeartbeats 4000000 in
theorem readDay_ten (s : ByteArray) (w : World) (hz : s.size = 10) :
    Calls Tryz.prog 179 #[.string s] w (RdPost s w) := by
  have z3 : ((s.size : Int) != 10) = false := by rw [hz]; rfl
  have z1 : s.size ≤ 10 := by omega
  have z2 : 10 ≤ s.size := by omega
  have HZ := Lib.hid hz
  clear hz
  have hL : s.data.toList.length = 10 := HZ.out
  have HL := Lib.hid hL
  clear hL
  go_enter Tryz.func179, Tryz.ntmps179
  go_wp2
  go_loopw [5, 6] (fun kk ii wr => ∃ i q : Nat, i ≤ 10 ∧ ii = .int .i64 i ∧ kk = .int .i64 (kOf i) ∧ okTo s.data.toList i = true ∧ wr = (w.alloc (cells3 (nA s.data.toList i) (nB s.data.toList i) (nC s.data.toList i))).drewN q) (fun _ ii _ => 10 - (intOf ii).toNat)
  case atStart => exact ⟨0, 0, by omega, rfl, rfl, rfl, rfl⟩
  case round =>
    obtain ⟨i, q, hi, rfl, rfl, hok, rfl⟩ := hrel
    have HOK := Lib.hid hok
    have bA := nA_bd s.data.toList i HL.out hi hok
    have bB := nB_bd s.data.toList i HL.out hi hok
    have bC := nC_bd s.data.toList i HL.out hi hok
    clear hok
    have hcase : i < 4 ∨ i = 4 ∨ (5 ≤ i ∧ i < 7) ∨ i = 7 ∨ (8 ≤ i ∧ i < 10) ∨ i = 10 := by omega
    rcases hcase with c1 | c1 | c1 | c1 | c1 | c1
    · have k0 : kOf i = 0 := by unfold kOf; rw [if_pos (by omega)]
      have k1 : kOf (i + 1) = 0 := by unfold kOf; rw [if_pos (by omega)]
      rw [k0]
      have K1 := Lib.hid k1
      have e4 : ((i : Int) == 4) = false := by rw [beq_eq_false_iff_ne]; omega
      have e7 : ((i : Int) == 7) = false := by rw [beq_eq_false_iff_ne]; omega
      have hi' : (i : Int) < 10 := by omega
      have hlt : i < s.size := by omega
      have NA : Hid (nA s.data.toList (i + 1) = 10 * nA s.data.toList i + ((s[i].toNat : Int) - 48)) := nA_lo s.data.toList i (by omega) HL.out
      have NB : Hid (nB s.data.toList (i + 1) = nB s.data.toList i) := nB_lo _ _ (by omega)
      have NC : Hid (nC s.data.toList (i + 1) = nC s.data.toList i) := nC_lo _ _ (by omega)
      have OKI : Hid (okAt s.data.toList i = Cal.isD s[i]) := okAt_num s.data.toList i (by have := HL.out; omega) (by omega) (by omega)
      clear k0 k1
      by_cases hd : 48 ≤ s[i].toNat ∧ s[i].toNat ≤ 57
      · have HD := Lib.hid (isD_yes hd)
        obtain ⟨d1, d2⟩ := hd
        go_wp2
        go_region
        rw [((set3 _ _ _ _ _ _).1)]
        go_wp2
        go_roundw
        case rel => exact ⟨i + 1, _, by omega, by go_num, by rw [K1.out], by rw [okTo_succ, HOK.out, OKI.out, HD.out]; rfl, by rw [NA.out, NB.out, NC.out]⟩
        case measure => simp [intOf]; omega
      · have HD : Hid (Cal.shapeB s.data.toList = false) := okTo_bad s.data.toList i (by rw [OKI.out]; exact isD_no hd) (by omega) HL.out
        by_cases d1 : s[i].toNat < 48
        · clear hd
          go_wp2
          go_ret2
          exact RdPost.bad HD.out
        · have d2 : 57 < s[i].toNat := by omega
          clear hd
          go_wp2
          go_ret2
          exact RdPost.bad HD.out
    · subst c1
      have q4 : 4 < s.size := by omega
      have OKI : Hid (okAt s.data.toList 4 = decide (s[4] = 45)) := okAt_sign s.data.toList 4 (by have := HL.out; omega) (by omega)
      have NA : Hid (nA s.data.toList (4 + 1) = nA s.data.toList 4) := nA_hi _ _ (by omega)
      have NB : Hid (nB s.data.toList (4 + 1) = nB s.data.toList 4) := nB_lo _ _ (by omega)
      have NC : Hid (nC s.data.toList (4 + 1) = nC s.data.toList 4) := nC_lo _ _ (by omega)
      rw [show kOf 4 = 0 from rfl]
      by_cases hs : s[4] = 45
      · have n4 : ((s[4].toNat : Int) != 45) = false := by rw [hs]; rfl
        have HS := Lib.hid hs
        clear hs
        go_wp2
        go_roundw
        case rel => exact ⟨4 + 1, q, by omega, rfl, rfl, by rw [okTo_succ, HOK.out, OKI.out, decide_eq_true HS.out]; rfl, by rw [NA.out, NB.out, NC.out]⟩
        case measure => simp [intOf]
      · have n4 : ((s[4].toNat : Int) != 45) = true := by
          rw [bne_iff_ne]; intro e; apply hs; apply UInt8.toNat.inj; exact Int.ofNat.inj e
        have HD : Hid (Cal.shapeB s.data.toList = false) := okTo_bad s.data.toList 4 (by rw [OKI.out]; exact decide_eq_false hs) (by omega) HL.out
        clear hs
        go_wp2
        go_ret2
        exact RdPost.bad HD.out
    · have k0 : kOf i = 1 := by unfold kOf; rw [if_neg (by omega), if_pos (by omega)]
      have k1 : kOf (i + 1) = 1 := by unfold kOf; rw [if_neg (by omega), if_pos (by omega)]
      rw [k0]
      have K1 := Lib.hid k1
      have e4 : ((i : Int) == 4) = false := by rw [beq_eq_false_iff_ne]; omega
      have e7 : ((i : Int) == 7) = false := by rw [beq_eq_false_iff_ne]; omega
      have hi' : (i : Int) < 10 := by omega
      have hlt : i < s.size := by omega
      have NA : Hid (nA s.data.toList (i + 1) = nA s.data.toList i) := nA_hi _ _ (by omega)
      have NB : Hid (nB s.data.toList (i + 1) = 10 * nB s.data.toList i + ((s[i].toNat : Int) - 48)) := nB_mid s.data.toList i (by omega) (by omega) HL.out
      have NC : Hid (nC s.data.toList (i + 1) = nC s.data.toList i) := nC_lo _ _ (by omega)
      have OKI : Hid (okAt s.data.toList i = Cal.isD s[i]) := okAt_num s.data.toList i (by have := HL.out; omega) (by omega) (by omega)
      clear k0 k1
      by_cases hd : 48 ≤ s[i].toNat ∧ s[i].toNat ≤ 57
      · have HD := Lib.hid (isD_yes hd)
        obtain ⟨d1, d2⟩ := hd
        go_wp2
        go_region
        rw [((set3 _ _ _ _ _ _).2.1)]
        go_wp2
        go_roundw
        case rel => exact ⟨i + 1, _, by omega, by go_num, by rw [K1.out], by rw [okTo_succ, HOK.out, OKI.out, HD.out]; rfl, by rw [NA.out, NB.out, NC.out]⟩
        case measure => simp [intOf]; omega
      · have HD : Hid (Cal.shapeB s.data.toList = false) := okTo_bad s.data.toList i (by rw [OKI.out]; exact isD_no hd) (by omega) HL.out
        by_cases d1 : s[i].toNat < 48
        · clear hd
          go_wp2
          go_ret2
          exact RdPost.bad HD.out
        · have d2 : 57 < s[i].toNat := by omega
          clear hd
          go_wp2
          go_ret2
          exact RdPost.bad HD.out
    · subst c1
      have q4 : 7 < s.size := by omega
      have OKI : Hid (okAt s.data.toList 7 = decide (s[7] = 45)) := okAt_sign s.data.toList 7 (by have := HL.out; omega) (by omega)
      have NA : Hid (nA s.data.toList (7 + 1) = nA s.data.toList 7) := nA_hi _ _ (by omega)
      have NB : Hid (nB s.data.toList (7 + 1) = nB s.data.toList 7) := nB_hi _ _ (by omega)
      have NC : Hid (nC s.data.toList (7 + 1) = nC s.data.toList 7) := nC_lo _ _ (by omega)
      rw [show kOf 7 = 1 from rfl]
      by_cases hs : s[7] = 45
      · have n4 : ((s[7].toNat : Int) != 45) = false := by rw [hs]; rfl
        have HS := Lib.hid hs
        clear hs
        go_wp2
        go_roundw
        case rel => exact ⟨7 + 1, q, by omega, rfl, rfl, by rw [okTo_succ, HOK.out, OKI.out, decide_eq_true HS.out]; rfl, by rw [NA.out, NB.out, NC.out]⟩
        case measure => simp [intOf]
      · have n4 : ((s[7].toNat : Int) != 45) = true := by
          rw [bne_iff_ne]; intro e; apply hs; apply UInt8.toNat.inj; exact Int.ofNat.inj e
        have HD : Hid (Cal.shapeB s.data.toList = false) := okTo_bad s.data.toList 7 (by rw [OKI.out]; exact decide_eq_false hs) (by omega) HL.out
        clear hs
        go_wp2
        go_ret2
        exact RdPost.bad HD.out
    · have k0 : kOf i = 2 := by unfold kOf; rw [if_neg (by omega), if_neg (by omega)]
      have k1 : kOf (i + 1) = 2 := by unfold kOf; rw [if_neg (by omega), if_neg (by omega)]
      rw [k0]
      have K1 := Lib.hid k1
      have e4 : ((i : Int) == 4) = false := by rw [beq_eq_false_iff_ne]; omega
      have e7 : ((i : Int) == 7) = false := by rw [beq_eq_false_iff_ne]; omega
      have hi' : (i : Int) < 10 := by omega
      have hlt : i < s.size := by omega
      have NA : Hid (nA s.data.toList (i + 1) = nA s.data.toList i) := nA_hi _ _ (by omega)
      have NB : Hid (nB s.data.toList (i + 1) = nB s.data.toList i) := nB_hi _ _ (by omega)
      have NC : Hid (nC s.data.toList (i + 1) = 10 * nC s.data.toList i + ((s[i].toNat : Int) - 48)) := nC_hi s.data.toList i (by omega) (by omega) HL.out
      have OKI : Hid (okAt s.data.toList i = Cal.isD s[i]) := okAt_num s.data.toList i (by have := HL.out; omega) (by omega) (by omega)
      clear k0 k1
      by_cases hd : 48 ≤ s[i].toNat ∧ s[i].toNat ≤ 57
      · have HD := Lib.hid (isD_yes hd)
        obtain ⟨d1, d2⟩ := hd
        go_wp2
        go_region
        rw [((set3 _ _ _ _ _ _).2.2)]
        go_wp2
        go_roundw
        case rel => exact ⟨i + 1, _, by omega, by go_num, by rw [K1.out], by rw [okTo_succ, HOK.out, OKI.out, HD.out]; rfl, by rw [NA.out, NB.out, NC.out]⟩
        case measure => simp [intOf]; omega
      · have HD : Hid (Cal.shapeB s.data.toList = false) := okTo_bad s.data.toList i (by rw [OKI.out]; exact isD_no hd) (by omega) HL.out
        by_cases d1 : s[i].toNat < 48
        · clear hd
          go_wp2
          go_ret2
          exact RdPost.bad HD.out
        · have d2 : 57 < s[i].toNat := by omega
          clear hd
          go_wp2
          go_ret2
          exact RdPost.bad HD.out
    · subst c1
      have HS : Hid (Cal.shapeB s.data.toList = true) := by rw [← okTo_ten _ HL.out]; exact HOK.out
      have hbW : Below w.heap.size w ((w.alloc (cells3 (Cal.yOf s.data.toList) (Cal.mOf s.data.toList) (Cal.dOf s.data.toList))).drewN q) := below_drewN ((Below.refl _ w).alloc (Nat.le_refl _) _) q
      have eA : Hid (nA s.data.toList 10 = Cal.yOf s.data.toList) := rfl
      have eB : Hid (nB s.data.toList 10 = Cal.mOf s.data.toList) := rfl
      have eC : Hid (nC s.data.toList 10 = Cal.dOf s.data.toList) := by unfold nC Cal.dOf; exact congrArg Cal.numV (List.take_of_length_le (by simp [HL.out]))
      rw [eA.out, eB.out, eC.out]
      have f0 : ((w.alloc (cells3 (Cal.yOf s.data.toList) (Cal.mOf s.data.toList) (Cal.dOf s.data.toList))).drewN q).cell? ⟨w.heap.size, 0, none⟩ = some (.int .i64 (Cal.yOf s.data.toList)) := show (_ : World).cell? _ = _ from by rw [show ((w.alloc (cells3 (Cal.yOf s.data.toList) (Cal.mOf s.data.toList) (Cal.dOf s.data.toList))).drewN q).cell? ⟨w.heap.size, 0, none⟩ = (w.alloc (cells3 (Cal.yOf s.data.toList) (Cal.mOf s.data.toList) (Cal.dOf s.data.toList))).cell? ⟨w.heap.size, 0, none⟩ from rfl]; simp
      have f1 : ((w.alloc (cells3 (Cal.yOf s.data.toList) (Cal.mOf s.data.toList) (Cal.dOf s.data.toList))).drewN q).cell? ⟨w.heap.size, 1, none⟩ = some (.int .i64 (Cal.mOf s.data.toList)) := show (_ : World).cell? _ = _ from by rw [show ((w.alloc (cells3 (Cal.yOf s.data.toList) (Cal.mOf s.data.toList) (Cal.dOf s.data.toList))).drewN q).cell? ⟨w.heap.size, 1, none⟩ = (w.alloc (cells3 (Cal.yOf s.data.toList) (Cal.mOf s.data.toList) (Cal.dOf s.data.toList))).cell? ⟨w.heap.size, 1, none⟩ from rfl]; simp
      have f2 : ((w.alloc (cells3 (Cal.yOf s.data.toList) (Cal.mOf s.data.toList) (Cal.dOf s.data.toList))).drewN q).cell? ⟨w.heap.size, 2, none⟩ = some (.int .i64 (Cal.dOf s.data.toList)) := show (_ : World).cell? _ = _ from by rw [show ((w.alloc (cells3 (Cal.yOf s.data.toList) (Cal.mOf s.data.toList) (Cal.dOf s.data.toList))).drewN q).cell? ⟨w.heap.size, 2, none⟩ = (w.alloc (cells3 (Cal.yOf s.data.toList) (Cal.mOf s.data.toList) (Cal.dOf s.data.toList))).cell? ⟨w.heap.size, 2, none⟩ from rfl]; simp
      generalize (w.alloc (cells3 (Cal.yOf s.data.toList) (Cal.mOf s.data.toList) (Cal.dOf s.data.toList))).drewN q = W at *
      by_cases ho : Cal.Ok (Cal.yOf s.data.toList) (Cal.mOf s.data.toList) (Cal.dOf s.data.toList)
      · go_wp2
        go_quiet ((go_at_call 241; exact Calls.quiet_of_same (makeDay_ok' _ _ _ _ ho)))
        go_wp2
        go_ret2
        exact ⟨below_drewN hbW _, Or.inr ⟨HS.out, _, _, rfl, Or.inl ⟨ho, rfl, rfl⟩⟩⟩
      · go_wp2
        go_quiet ((go_at_call 241; exact Calls.quiet_of_same (makeDay_err' _ _ _ _ ho)))
        go_wp2
        go_ret2
        exact ⟨below_drewN hbW _, Or.inr ⟨HS.out, _, _, rfl, Or.inr ⟨ho, rfl, rfl⟩⟩⟩
end Ref
end Go.Proofs.YtkhkhbeolhhomaaGreatDoor
