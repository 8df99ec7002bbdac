/- The reference's weekdaysOf a word. -/
import Derived.Test.YtkhkhbeolhhomaaGreatDoorRefCut
import Derived.Test.YtkhkhbeolhhomaaGreatDoorRuleRead
import Derived.Test.YtkhkhbeolhhomaaGreatDoorRefRuleText
namespace Go.Proofs.YtkhkhbeolhhomaaGreatDoor
open Go Go.RowKit Lmd
namespace Rct
open Rul Day Cand Tp Tx Rrt

theorem nameL_inj : ∀ i, i < 7 → ∀ j, j < 7 → nameL.getD i ByteArray.empty = nameL.getD j ByteArray.empty → i = j := by decide
theorem idx_cases (x : ByteArray) : (idxN x = -1 ∧ ∀ j, j < 7 → nameL.getD j ByteArray.empty ≠ x) ∨ ∃ j, j < 7 ∧ idxN x = (j : Nat) ∧ nameL.getD j ByteArray.empty = x := by
  by_cases h : ∃ j, j < 7 ∧ nameL.getD j ByteArray.empty = x
  · obtain ⟨j, hj, rfl⟩ := h
    refine .inr ⟨j, hj, ?_, rfl⟩
    have hk := (idx_name (j : Int) (by omega) (by omega)).1
    unfold nameOf at hk
    simpa using hk
  · refine .inl ⟨?_, fun j hj e => h ⟨j, hj, e⟩⟩
    unfold idxN
    have hm := Lib.idxOfS_miss nameL 7 x (fun j hj e => h ⟨j, hj, e⟩)
    simpa [nameL] using hm
/-- which of the first j names a word is (-1: none) -/
def upTo (x : ByteArray) (j : Nat) : Int := if 0 ≤ idxN x ∧ idxN x < (j : Int) then idxN x else -1
theorem upTo_zero (x : ByteArray) : upTo x 0 = -1 := by unfold upTo; rw [if_neg (by omega)]
theorem upTo_seven (x : ByteArray) : upTo x 7 = idxN x := by
  unfold upTo
  rcases idx_cases x with ⟨h, _⟩ | ⟨j, hj, h, _⟩
  · rw [h]; simp
  · rw [h, if_pos (by omega)]
theorem upTo_hit {x : ByteArray} {j : Nat} (hj : j < 7) (h : nameL.getD j ByteArray.empty = x) : upTo x (j + 1) = (j : Int) := by
  rcases idx_cases x with ⟨_, h2⟩ | ⟨i, hi, h1, h2⟩
  · exact absurd h (h2 j hj)
  · obtain rfl := nameL_inj i hi j hj (h2.trans h.symm)
    unfold upTo
    rw [h1, if_pos (by omega)]
theorem upTo_miss {x : ByteArray} {j : Nat} (h : nameL.getD j ByteArray.empty ≠ x) : upTo x (j + 1) = upTo x j := by
  rcases idx_cases x with ⟨h1, _⟩ | ⟨i, hi, h1, h2⟩
  · unfold upTo; rw [h1]; simp
  · have hne : i ≠ j := fun e => h (e ▸ h2)
    unfold upTo
    rw [h1]
    by_cases hlt : i < j
    · rw [if_pos (by omega), if_pos (by omega)]
    · rw [if_neg (by omega), if_neg (by omega)]
theorem weekNames_all (w : World) : Calls Tryz.prog 185 #[] w fun e w' => e = .returned (.slice (some ⟨w.heap.size, 0, none⟩) 7 7) ∧ Below w.heap.size w w' ∧ ∀ j, j < 7 → w'.cell? ⟨w.heap.size, j, none⟩ = some (.string (nameL.getD j ByteArray.empty)) := by
  refine (weekNames_new w).mono ?_
  rintro e w' ⟨rfl, rfl⟩
  refine ⟨rfl, (Below.refl _ w).alloc (Nat.le_refl _) _, fun j hj => ?_⟩
  have h := names_cell w (j : Int) (by omega) (by omega)
  simpa [nameOf] using h
theorem bytes_ne {a b : ByteArray} (h : a ≠ b) : (a.toList == b.toList) = false := by
  rw [beq_eq_false_iff_ne]
  intro e
  rw [ByteArray.toList_eq, ByteArray.toList_eq] at e
  exact h (by rw [mk_self a, mk_self b, e])
/-- what lies behind weekdaysOf -/
def WkPost (s : ByteArray) (w : World) (e : Ending) (w' : World) : Prop :=
  ∃ v, e = .returned (.tuple #[v, .bool (daysOk s)]) ∧ Ints.Reads w' v (if daysOk s = true then daysV s else []) ∧ (∀ b o n c, v = .slice (some ⟨b, o, none⟩) n c → w.heap.size ≤ b) ∧ Below w.heap.size w w'
/-- the state of its loop -/
structure WkAt (P : List ByteArray) (w : World) (k : Nat) (v : Value) (W : World) : Prop where
  own : W.ownsRow w.heap.size 3 1 v k (cellsOf ((P.take k).map idxN))
  low : Below w.heap.size w W
  le : k ≤ P.length
  good : ∀ x ∈ P.take k, 0 ≤ idxN x
set_option maxRecDepth 100000 in
set_option maxHeartbeats 2000000 in
theorem weekdaysOf_any (s : ByteArray) (w : World) (hs : s.size ≤ 1000000) :
    Calls Tryz.prog 242 #[.string s] w (WkPost s w) := by
  obtain ⟨i0, hi0, hz0, hz1, hz2⟩ := info_parts int_info
  obtain ⟨l, rfl⟩ : ∃ l, s = mk l := ⟨_, mk_self s⟩
  have hcut := cut_lit l 44 44 w (by have : (mk l).size = l.length := rfl; omega) rfl
  unfold CutPost at hcut
  obtain ⟨P, hP⟩ : ∃ P, pieces 44 (mk l) = P := ⟨_, rfl⟩
  have hPl : P.length ≤ 1000001 := by have := pieces_len 44 (mk l); rw [hP] at this; omega
  have hok : daysOk (mk l) = P.all fun x => decide (0 ≤ idxN x) := by unfold daysOk; rw [hP]
  have hdv : daysV (mk l) = P.map idxN := by unfold daysV; rw [hP]
  rw [hP] at hcut
  have HCUT := Lib.hid hcut
  have HOK := Lib.hid hok
  have HDV := Lib.hid hdv
  have hwn := fun W => weekNames_all W
  have HWN := Lib.hid hwn
  clear hcut hok hdv hP hs hwn
  go_enter Tryz.func242, Tryz.ntmps242
  go_wp2_with fail
  (with_reducible refine HCUT.out.mono ?_)
  rintro e1 w1 ⟨lv, rfl, hown, hb1⟩
  have hrd := rd_own hown rfl
  obtain ⟨la, lc, rfl⟩ := hrd.shape
  have HRD := Lib.hid hrd
  have HB1 := Lib.hid hb1
  clear hrd hown hb1 HCUT
  go_wp2_with fail
  go_loopw [5, 6] (fun v i wr => ∃ k : Nat, i = .int .i64 k ∧ WkAt P w1 k v wr) (fun _ i _ => P.length - (intOf i).toNat)
  case atStart => exact ⟨0, rfl, ⟨by simp [cellsOf], .inl ⟨rfl, rfl⟩⟩, Below.refl _ _, Nat.zero_le _, by simp⟩
  case round =>
    obtain ⟨k, rfl, hat⟩ := hrel
    obtain ⟨a0, c0, rfl⟩ := ownsRow_slice hat.own
    have hkl := hat.le
    by_cases hlt : k < P.length
    · obtain ⟨b0, o0, c1, e1, hc⟩ := (HRD.out.below hat.low).at (by intro h; rw [h] at hlt; exact absurd hlt (Nat.not_lt_zero _))
      obtain ⟨rfl, rfl⟩ : la = some ⟨b0, o0, none⟩ ∧ lc = c1 := by cases e1; exact ⟨rfl, rfl⟩
      obtain ⟨x, hx⟩ : ∃ x, P[k]? = some x := ⟨_, List.getElem?_eq_getElem hlt⟩
      have k1 := hc k x hx
      have hi1 : (k : Int) < (P.length : Int) := by omega
      have HAT := Lib.hid hat
      have HX := Lib.hid hx
      have HK1 := Lib.hid k1
      clear e1 hc hx hat k1
      go_wp2_with fail
      (with_reducible refine (HWN.out _).mono ?_)
      rintro e2 w2 ⟨rfl, hb2, hnm⟩
      have k2 := cell_later hb2 HK1.out
      have HB2 := Lib.hid hb2
      have HNM := Lib.hid hnm
      have HK2 := Lib.hid k2
      obtain ⟨B, hB⟩ : ∃ B, wr.heap.size = B := ⟨_, rfl⟩
      rw [hB] at HNM ⊢
      clear hb2 hnm k2 hB
      go_wp2_with fail
      go_loopw [7, 9] (fun kv j wi => ∃ i q : Nat, j = .int .i64 i ∧ i ≤ 7 ∧ kv = .int .i64 (upTo x i) ∧ wi = w2.drewN q) (fun _ j _ => 7 - (intOf j).toNat)
      case atStart => exact ⟨0, 0, rfl, by omega, by rw [upTo_zero], rfl⟩
      case round =>
        obtain ⟨i, q, rfl, hi7, rfl, rfl⟩ := hrel
        by_cases hil : i < 7
        · have n1 := HNM.out i hil
          have n2 := HK2.out
          obtain ⟨nm, hnm⟩ : ∃ nm, nameL.getD i ByteArray.empty = nm := ⟨_, rfl⟩
          rw [hnm] at n1
          have hi2 : (i : Int) < 7 := by omega
          by_cases e : nm = x
          · subst e
            have hup := upTo_hit hil hnm
            have HUP := Lib.hid hup
            clear hup hnm
            go_wp2_with fail
            go_quiet (fail)
            go_wp2_with fail
            go_roundw
            case rel => exact ⟨i + 1, _, by go_num, by omega, by rw [HUP.out], rfl⟩
            case measure => simp [intOf]; omega
          · have he := bytes_ne e
            have hup := upTo_miss (x := x) (j := i) (by rw [hnm]; exact e)
            have HUP := Lib.hid hup
            clear hup hnm e
            go_wp2_with fail
            go_quiet (fail)
            go_wp2_with fail
            go_roundw
            case rel => exact ⟨i + 1, _, by go_num, by omega, by rw [HUP.out], rfl⟩
            case measure => simp [intOf]; omega
        · obtain rfl : i = 7 := by omega
          rw [upTo_seven]
          obtain ⟨y, hy⟩ : ∃ y, idxN x = y := ⟨_, rfl⟩
          rw [hy]
          have HY := Lib.hid hy
          clear hy hil
          by_cases hneg : y < 0
          · have hno : daysOk (mk l) = false := by
              rw [HOK.out, List.all_eq_false]
              exact ⟨x, List.mem_of_getElem? HX.out, by rw [HY.out]; simpa using hneg⟩
            have HNO := Lib.hid hno
            clear hno
            go_wp2_with fail
            go_ret2
            refine ⟨_, by rw [HNO.out]; rfl, ?_, (fun b o n c h => by cases h), ?_⟩
            · rw [HNO.out]; exact .inl ⟨rfl, none, 0, rfl⟩
            · exact HB1.out.trans ((HAT.out.low.trans ((HB2.out.trans ((below_draw (Below.refl _ w2) q).mono HB2.out.size)).mono HAT.out.low.size)).mono HB1.out.size)
          · have hown := own_later HAT.out.own (HB2.out.trans ((below_draw (Below.refl _ w2) q).mono HB2.out.size))
            have hlow := HAT.out.low.trans ((HB2.out.trans ((below_draw (Below.refl _ w2) q).mono HB2.out.size)).mono HAT.out.low.size)
            have hs2 : w1.heap.size ≤ (w2.drewN q).heap.size := hlow.size
            have hs3 : w1.heap.size ≤ w2.heap.size := hs2
            have HOWN := Lib.hid hown
            have HLOW := Lib.hid hlow
            have hn0 : ¬ y < 0 := hneg
            clear hown hlow
            go_wp2_with (first
              | (at_builtin
                 refine wpList_append_own _ rfl (.tmp 37) (.tmp 39) _ rfl w1.heap.size 3 i0 _ 1 8 Tryz.underlying33 hi0 hz0 hz1 hz2 rfl (by omega) (.slice a0 k c0) k (cellsOf ((P.take k).map idxN)) rfl
                   (HOWN.out.alloc _) ⟨(w2.drewN q).heap.size, 0, none⟩ 1 1 [.int .i64 y] rfl rfl (cell_one_new _ _ _) (fun u hu => by simp at hu; subst hu; rfl) (by simp only [maxLen]; omega) (by omega) (by simp; omega) ?_
                 intro v1 wb hown' hg2 hnil
                 have HOB := Lib.hid hown'
                 have HG2 := Lib.hid hg2
                 clear hown' hg2 hnil))
            go_roundw
            case rel =>
              have htk : P.take (k + 1) = P.take k ++ [x] := by
                obtain ⟨h3, h4⟩ := List.getElem?_eq_some_iff.1 HX.out
                rw [List.take_succ_eq_append_getElem h3, h4]
              refine ⟨k + 1, by go_num, ?_, ?_, by omega, ?_⟩
              · rw [htk, List.map_append, List.map_singleton, cellsOf_snoc, HY.out]
                exact HOB.out
              · have h1 := HLOW.out.alloc hs2 (.cells #[.int .i64 y] 3)
                exact h1.trans (grown_below (HOWN.out.alloc _) HG2.out (Nat.le_refl _) h1.size)
              · rw [htk]
                intro z hz
                rcases List.mem_append.1 hz with hz | hz
                · exact HAT.out.good z hz
                · rw [List.mem_singleton] at hz; subst hz; rw [HY.out]; omega
            case measure => simp [intOf]; omega
    · have hk : k = P.length := by omega
      have hi1 : ¬ (k : Int) < (P.length : Int) := by omega
      have hyes : daysOk (mk l) = true := by
        rw [HOK.out, List.all_eq_true]
        intro z hz
        have := hat.good z (by rw [hk, List.take_length]; exact hz)
        simpa using this
      have hown := hat.own
      rw [hk, List.take_length] at hown
      have HYES := Lib.hid hyes
      have HOWN := Lib.hid hown
      have HLOW := Lib.hid hat.low
      have HK := Lib.hid hk
      clear hat hyes hown hk
      go_wp2_with fail
      go_ret2
      refine ⟨_, by rw [HYES.out]; rfl, ?_, (fun b o n c h => Nat.le_trans HB1.out.size (own_ge HOWN.out (j := b) (by cases h; rfl))), HB1.out.trans (HLOW.out.mono HB1.out.size)⟩
      rw [HYES.out, if_pos rfl, HDV.out]
      have h := HOWN.out
      have hl : P.length = (P.map idxN).length := by simp
      rw [hl] at h
      have h2 := reads_own h
      rw [List.length_map] at h2
      rw [HK.out]
      exact h2
end Rct
end Go.Proofs.YtkhkhbeolhhomaaGreatDoor
