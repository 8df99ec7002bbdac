/- The reference's Cut of a text by a byte: the pieces between. -/
import Derived.Test.YtkhkhbeolhhomaaGreatDoorJ1
import Derived.Test.YtkhkhbeolhhomaaGreatDoorTexts
import Derived.Test.YtkhkhbeolhhomaaGreatDoorJ8
import Derived.Maps.AppendAt
namespace Go.Proofs.YtkhkhbeolhhomaaGreatDoor
open Go Go.RowKit Lmd
namespace Rct
open Rul Day Cand Tp Tx

/-- the state of the loop of Cut -/
structure CutAt (l : List UInt8) (c : UInt8) (w : World) (k f : Nat) (xs : List ByteArray) (v : Value) (W : World) : Prop where
  rel : pieces c (mk l) = xs ++ pieces c (mk (l.drop f))
  own : W.ownsRow w.heap.size 9 1 v xs.length (cellsS xs)
  low : Below w.heap.size w W
  le : f ≤ k
  len : k ≤ l.length
  free : c ∉ (l.drop f).take (k - f)
  few : xs.length ≤ k
theorem cutAt_hit {l : List UInt8} {c : UInt8} {w : World} {k f : Nat} {xs : List ByteArray} {v : Value} {W : World} (h : CutAt l c w k f xs v W) (hk : l[k]? = some c) :
    pieces c (mk l) = (xs ++ [mk ((l.drop f).take (k - f))]) ++ pieces c (mk (l.drop (k + 1))) := by
  have hlt := (List.getElem?_eq_some_iff.1 hk).1
  have e : l.drop f = (l.drop f).take (k - f) ++ c :: l.drop (k + 1) := by
    have h1 : (l.drop f).drop (k - f) = c :: l.drop (k + 1) := by
      rw [List.drop_drop, show f + (k - f) = k by have := h.le; omega, List.drop_eq_getElem_cons hlt]
      congr 1
      exact (List.getElem?_eq_some_iff.1 hk).2
    rw [← h1, List.take_append_drop]
  have hp := pieces_more (r := l.drop (k + 1)) h.free
  rw [← e] at hp
  rw [h.rel, hp]
  simp
theorem cutAt_miss {l : List UInt8} {c y : UInt8} {w : World} {k f : Nat} {xs : List ByteArray} {v : Value} {W : World} (h : CutAt l c w k f xs v W) (hk : l[k]? = some y) (hne : y ≠ c) : CutAt l c w (k + 1) f xs v W := by
  refine ⟨h.rel, h.own, h.low, by have := h.le; omega, by have := (List.getElem?_eq_some_iff.1 hk).1; omega, ?_, by have := h.few; omega⟩
  have hlt := (List.getElem?_eq_some_iff.1 hk).1
  have hle := h.le
  have hd : (l.drop f)[k - f]? = some y := by rw [List.getElem?_drop, show f + (k - f) = k by omega]; exact hk
  obtain ⟨h3, h4⟩ := List.getElem?_eq_some_iff.1 hd
  rw [show k + 1 - f = (k - f) + 1 by omega, List.take_succ_eq_append_getElem h3, h4, List.mem_append]
  rintro (h5 | h5)
  · exact h.free h5
  · rw [List.mem_singleton] at h5; exact hne h5.symm
theorem cutAt_last {l : List UInt8} {c : UInt8} {w : World} {k f : Nat} {xs : List ByteArray} {v : Value} {W : World} (h : CutAt l c w k f xs v W) (hk : k = l.length) :
    pieces c (mk l) = xs ++ [mk (l.drop f)] := by
  rw [h.rel]
  congr 1
  refine pieces_last ?_
  have := h.free
  rwa [List.take_of_length_le (by rw [List.length_drop]; omega)] at this
theorem grown_below {w w' : World} {base B : Nat} {v : Value} {n : Nat} {e : TypeId} {xs : List Value} (ho : w.ownsRow base e 1 v n xs) (hg : w.grownBy w' v.ownBlock) (hB : B ≤ base) (hs : B ≤ w.heap.size) : Below B w w' :=
  ⟨hg.os, hg.tape, hg.output, hg.size, fun k hk => hg.block k (by omega) (fun e => by
    have := own_ge ho e.symm
    omega)⟩
/-- what lies behind Cut -/
def CutPost (l : List UInt8) (c : UInt8) (w : World) (e : Ending) (w' : World) : Prop :=
  ∃ v, e = .returned v ∧ w'.ownsRow w.heap.size 9 1 v (pieces c (mk l)).length (cellsS (pieces c (mk l))) ∧ Below w.heap.size w w'
set_option maxRecDepth 100000 in
set_option maxHeartbeats 1000000 in
theorem cut_any (l : List UInt8) (c : UInt8) (w : World) (hs : l.length ≤ 2000000) :
    Calls Tryz.prog 125 #[.string (mk l), .int .u8 (c.toNat : Int)] w (CutPost l c w) := by
  obtain ⟨i0, hi0, hz0, hz1, hz2⟩ := info_parts string_info
  obtain ⟨S, hS⟩ : ∃ S, mk l = S := ⟨_, rfl⟩
  have hsz : S.size = l.length := by rw [← hS]; rfl
  have hSD : S.data.toList = l := by rw [← hS]
  rw [hS]
  have HSD := Lib.hid hSD
  have HSZ := Lib.hid hsz
  have hSs : S.size ≤ 2000000 := by omega
  clear hS hSD hsz
  go_enter Tryz.func125, Tryz.ntmps125
  go_wp2_with fail
  go_loopw [5, 6, 7] (fun v f i wr => ∃ (k j : Nat) (xs : List ByteArray), i = .int .i64 k ∧ f = .int .i64 j ∧ CutAt l c w k j xs v wr) (fun _ _ i _ => S.size - (intOf i).toNat)
  case atStart => exact ⟨0, 0, [], rfl, rfl, rfl, ⟨rfl, .inl ⟨rfl, rfl⟩⟩, Below.refl _ _, Nat.le_refl _, Nat.zero_le _, by simp, Nat.le_refl _⟩
  case round =>
    obtain ⟨k, j, xs, rfl, rfl, hat⟩ := hrel
    obtain ⟨a0, c0, rfl⟩ := ownsRow_slice hat.own
    have hjk := hat.le
    have hkS : k ≤ S.size := by have := hat.len; have := HSZ.out; omega
    have hxk := hat.few
    by_cases hlt : k < S.size
    · obtain ⟨y, hy⟩ : ∃ y, l[k]? = some y := ⟨_, List.getElem?_eq_getElem (by have := HSZ.out; omega)⟩
      have hSy : (S[k] : UInt8) = y := at_of S k y hlt (by rw [HSD.out]; exact hy)
      have hi1 : (k : Int) < (S.size : Int) := by omega
      by_cases hc : y = c
      · subst hc
        have hhit := cutAt_hit hat hy
        have hext : S.extract j k = mk ((l.drop j).take (k - j)) := mk_of (by rw [ext_mid, HSD.out])
        have hj1 : (j : Int) ≤ (k : Int) := by omega
        have hj2 : (k : Int) ≤ (S.size : Int) := by omega
        have hj3 : j ≤ S.size := by omega
        have hown := hat.own
        have hsw := hat.low.size
        obtain ⟨P, hP⟩ : ∃ P, mk ((l.drop j).take (k - j)) = P := ⟨_, rfl⟩
        rw [hP] at hext hhit
        have HHIT := Lib.hid hhit
        have HOWN := Lib.hid hown
        have HAT := Lib.hid hat
        have hw1 : IntKind.i64.wrap ((k : Int) + 1) = ((k + 1 : Nat) : Int) := by
          rw [show (k : Int) + 1 = ((k + 1 : Nat) : Int) by omega]; exact IntWalk.i64_in _ (by omega)
        clear hhit hown hat hy hP
        go_wp2_with (first
          | (at_builtin
             refine wpList_append_own _ rfl (.tmp 19) (.tmp 24) _ rfl w.heap.size 9 i0 _ 1 16 Tryz.underlying30 hi0 hz0 hz1 hz2 rfl (by omega) (.slice a0 xs.length c0) xs.length (cellsS xs) rfl
               (HOWN.out.alloc _) ⟨wr.heap.size, 0, none⟩ 1 1 [.string P] rfl rfl (cell_one_new _ _ _) (fun u hu => by simp at hu; subst hu; rfl) (by simp only [maxLen]; omega) (by omega) (by simp; omega) ?_
             intro v1 wb hown' hg2 hnil
             have HOB := Lib.hid hown'
             have HG2 := Lib.hid hg2
             clear hown' hg2 hnil))
        go_roundw
        case rel =>
          refine ⟨k + 1, k + 1, xs ++ [P], by first | rfl | go_num, by first | rfl | go_num, HHIT.out, ?_, ?_, Nat.le_refl _, ?_, by simp, ?_⟩
          · have hcs : cellsS (xs ++ [P]) = cellsS xs ++ [.string P] := by simp [cellsS]
            rw [hcs, List.length_append]
            exact HOB.out
          · have h1 := HAT.out.low.alloc HAT.out.low.size (.cells #[.string P] 9)
            exact h1.trans (grown_below (HOWN.out.alloc _) HG2.out (Nat.le_refl _) h1.size)
          · have := HSZ.out; omega
          · rw [List.length_append, List.length_singleton]; omega
        case measure => simp [intOf]; omega
      · have hn1 : ((y.toNat : Int) == (c.toNat : Int)) = false := by
          rw [beq_eq_false_iff_ne]
          intro e
          exact hc (UInt8.toNat_inj.1 (by omega))
        have hms := cutAt_miss hat hy hc
        have HMS := Lib.hid hms
        clear hms hat hy hc
        go_wp2_with fail
        go_roundw
        case rel => exact ⟨k + 1, j, xs, by go_num, rfl, HMS.out⟩
        case measure => simp [intOf]; omega
    · have hi1 : ¬ (k : Int) < (S.size : Int) := by omega
      have hlast := cutAt_last hat (by have := HSZ.out; omega)
      have hext : S.extract j S.size = mk (l.drop j) := mk_of (by
        rw [ext_mid, HSD.out]
        exact List.take_of_length_le (by rw [List.length_drop]; have := HSZ.out; omega))
      have hj3 : j ≤ S.size := by omega
      have hj2 : (j : Int) ≤ (S.size : Int) := by omega
      obtain ⟨P, hP⟩ : ∃ P, mk (l.drop j) = P := ⟨_, rfl⟩
      rw [hP] at hext hlast
      have hown := hat.own
      have hsw := hat.low.size
      have HL := Lib.hid hlast
      have HOWN := Lib.hid hown
      have HAT := Lib.hid hat
      clear hlast hown hat hP
      go_wp2_with (first
        | (at_builtin
           refine wpList_append_own _ rfl (.tmp 28) (.tmp 32) _ rfl w.heap.size 9 i0 _ 1 16 Tryz.underlying30 hi0 hz0 hz1 hz2 rfl (by omega) (.slice a0 xs.length c0) xs.length (cellsS xs) rfl
             (HOWN.out.alloc _) ⟨wr.heap.size, 0, none⟩ 1 1 [.string P] rfl rfl (cell_one_new _ _ _) (fun u hu => by simp at hu; subst hu; rfl) (by simp only [maxLen]; omega) (by omega) (by simp; omega) ?_
           intro v1 wb hown' hg2 hnil
           have HOB := Lib.hid hown'
           have HG2 := Lib.hid hg2
           clear hown' hg2 hnil))
      go_ret
      have hcs : cellsS (xs ++ [P]) = cellsS xs ++ [.string P] := by simp [cellsS]
      refine ⟨_, rfl, ?_, ?_⟩
      · rw [HL.out, hcs, List.length_append]
        exact HOB.out
      · have h1 := HAT.out.low.alloc HAT.out.low.size (.cells #[.string P] 9)
        exact h1.trans (grown_below (HOWN.out.alloc _) HG2.out (Nat.le_refl _) h1.size)
theorem cut_lit (l : List UInt8) (c : UInt8) (n : Int) (w : World) (hs : l.length ≤ 2000000) (hn : ((c.toNat : Nat) : Int) = n) :
    Calls Tryz.prog 125 #[.string (mk l), .int .u8 n] w (CutPost l c w) := by
  rw [← hn]; exact cut_any l c w hs
end Rct
end Go.Proofs.YtkhkhbeolhhomaaGreatDoor
