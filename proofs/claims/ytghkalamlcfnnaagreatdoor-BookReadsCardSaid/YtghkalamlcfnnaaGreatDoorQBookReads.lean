/- The walk of the law BookReads. -/
import Derived.Test.YtghkalamlcfnnaaGreatDoorQBkRRead
import Derived.Test.YtghkalamlcfnnaaGreatDoorQD6
import Derived.Test.YtghkalamlcfnnaaGreatDoorQD7
import Derived.Test.YtghkalamlcfnnaaGreatDoorQD5
import Derived.Test.YtghkalamlcfnnaaGreatDoorQB3
namespace Go.Proofs.YtghkalamlcfnnaaGreatDoor
open Go Go.RowKit Go.Shelf Lmd
attribute [local go_sem] Oper.semAt_some
namespace Bk
open Evt Tp Rul Day Cand Er

set_option maxRecDepth 100000 in
set_option maxHeartbeats 16000000 in
theorem bookReads_any (s : ByteArray) (er : Nat → Addr) (n0 : Int) (w : World) (hE : Errs w er) (hv : Env w er n0) (hs : s.size ≤ 9223372036854775807) :
    Calls Tryz.prog 7 #[.string s] w fun r w' => r = .returned (.bool true) ∧ Below w.heap.size w w' := by
  obtain ⟨l, rfl⟩ : ∃ l, s = mk l := ⟨_, str_mk s⟩
  have hz : (mk l).size = l.length := rfl
  have HV := Lib.hid hv
  have HE := Lib.hid hE
  have HBK := Lib.hid (booked_any er w hv.errs)
  rw [hz] at hs
  clear hv hE
  go_enter Tryz.func7, Tryz.ntmps7
  go_wp2_with fail
  (with_reducible refine HBK.out.mono ?_)
  rintro e1 w1 ⟨rfl, hb1⟩
  have HB1 := Lib.hid hb1
  clear hb1 HBK
  go_upto_region 2 with fail
  go_cut [20] from 9 (fun s20 wc => wc = w1 ∧ ∃ q : Bool, s20 = .bool q ∧ (q = false → l.length ≤ 10001))
  case first =>
    by_cases h1 : 4000 < l.length
    · have i1 : (4000 : Int) < (l.length : Int) := by omega
      by_cases h2 : l.length = 10001
      · have H2 := Lib.hid h2
        have i2 : ((l.length : Int) != 10001) = false := by rw [bne_eq_false_iff_eq]; omega
        clear h1 h2
        go_wp2_with fail
        go_meet
        exact ⟨rfl, _, rfl, fun _ => by have := H2.out; omega⟩
      · have i2 : ((l.length : Int) != 10001) = true := by rw [bne_iff_ne]; omega
        clear h1 h2
        go_wp2_with fail
        go_meet
        exact ⟨rfl, true, rfl, fun h => by cases h⟩
    · have i1 : ¬ (4000 : Int) < (l.length : Int) := by omega
      have H1 := Lib.hid h1
      clear h1
      go_wp2_with fail
      go_meet
      exact ⟨rfl, _, rfl, fun _ => by have := H1.out; omega⟩
  case rest =>
    obtain ⟨rfl, q, rfl, hq⟩ := hcut
    cases q with
    | true =>
      clear hq
      go_wp2
      go_ret
      exact ⟨rfl, HB1.out⟩
    | false =>
      have hl := hq rfl
      clear hq
      have HRD := Lib.hid (read_any wc (mk l) er n0 (HV.out.below HB1.out))
      go_wp2_with fail
      (with_reducible refine HRD.out.mono ?_)
      rintro e3 w3 ⟨hb3, h3⟩
      have HB3 := Lib.hid (HB1.out.trans (hb3.mono HB1.out.size))
      have HRR := Lib.hid (readBook_any l w3 (by omega))
      clear hb3 HRD
      rw [hz] at h3
      by_cases hbig : 10000 < l.length
      · rw [if_pos hbig] at h3
        subst h3
        have HBIG := Lib.hid hbig
        clear hbig
        simp only [errV]
        go_wp2_with fail
        (with_reducible refine HRR.out.mono ?_)
        rintro e4 w4 ⟨hb4, h4⟩
        rw [hz, if_pos HBIG.out] at h4
        subst h4
        have HB4 := Lib.hid (HB3.out.trans (hb4.mono HB3.out.size))
        clear hb4
        go_upto_region 6 with fail
        generalize hW5 : (w4.alloc _).alloc _ = W5
        have hb5 : Below w4.heap.size w4 W5 := by rw [← hW5]; exact ((Below.refl _ w4).alloc (Nat.le_refl _) _).alloc (by simp) _
        have hx : W5.heap[w4.heap.size + 1]? = some (.cells #[.int .i64 2, .int .i64 (-1)] 64 (0, 0)) := by
          rw [← hW5]
          have h := heap_new (w4.alloc (.cells #[.slice none 0 0] 27)) (.cells #[.int .i64 2, .int .i64 (-1)] 64)
          rwa [World.size_alloc] at h
        obtain ⟨c0, c1, -⟩ := Rp.cells2 hx
        have HB5 := Lib.hid (HB4.out.trans (hb5.mono HB4.out.size))
        have hfa := Cd2.faulted_bare er 1 (by omega) W5 (HE.out.below HB5.out)
        rw [show (((1 : Nat) + 1 : Nat) : Int) = 2 from rfl] at hfa
        simp only [errV] at hfa
        have HFA := Lib.hid hfa
        clear hW5 hb5 hx hfa
        go_wp2_with fail
        (with_reducible refine HFA.out.mono ?_)
        rintro e6 w6 ⟨rfl, hb6⟩
        have HB6 := Lib.hid (HB5.out.trans (hb6.mono HB5.out.size))
        clear hb6
        go_wp2
        go_ret
        exact ⟨rfl, HB6.out⟩
      · rw [if_neg hbig] at h3
        have hbk := @book_read (mk l)
        have hle := readB_le (mk l)
        have HBIG := Lib.hid hbig
        clear hbig
        obtain ⟨⟨k, i, L⟩, hkl⟩ : ∃ q, readB (mk l) = q := ⟨_, rfl⟩
        rw [hkl] at h3 hbk hle
        dsimp only at h3 hbk hle
        have HKL := Lib.hid hkl
        clear hkl
        cases k with
        | zero =>
          rw [if_pos rfl] at h3
          obtain ⟨rfl, hbk3⟩ := h3
          have hbl : textB L = l := hbk rfl
          have HBL := Lib.hid hbl
          have HK3 := Lib.hid hbk3
          clear hbk hbl hle hbk3
          obtain ⟨p, hp⟩ : ∃ p, wc.heap.size = p := ⟨_, rfl⟩
          rw [hp] at HK3 ⊢
          clear hp
          go_wp2_with fail
          (with_reducible refine HRR.out.mono ?_)
          rintro e4 w4 ⟨hb4, h4⟩
          rw [hz, if_neg HBIG.out, HKL.out, if_pos rfl] at h4
          obtain ⟨v, ys, rfl, her, hys⟩ := h4
          obtain ⟨va, vc, rfl⟩ := her.shape
          have HB4 := Lib.hid (HB3.out.trans (hb4.mono HB3.out.size))
          have HK4 := Lib.hid (HK3.out.below hb4)
          have HER := Lib.hid her
          have HYS := Lib.hid hys
          clear hb4 her hys
          go_upto_region 6 with fail
          generalize hW5 : (w4.alloc _).alloc _ = W5
          have hb5 : Below w4.heap.size w4 W5 := by rw [← hW5]; exact ((Below.refl _ w4).alloc (Nat.le_refl _) _).alloc (by simp) _
          have hy : W5.heap[w4.heap.size]? = some (.cells #[.slice va ys.length vc] 27 (0, 0)) := by
            rw [← hW5]; exact (Below.heap_alloc _ _ _ (by simp)).trans (heap_new w4 _)
          have hx : W5.heap[w4.heap.size + 1]? = some (.cells #[.int .i64 0, .int .i64 (-1)] 64 (0, 0)) := by
            rw [← hW5]
            have h := heap_new (w4.alloc (.cells #[.slice va ys.length vc] 27)) (.cells #[.int .i64 0, .int .i64 (-1)] 64)
            rwa [World.size_alloc] at h
          obtain ⟨c0, c1, -⟩ := Rp.cells2 hx
          obtain ⟨d0, -⟩ := cell1r hy
          have HB5 := Lib.hid (HB4.out.trans (hb5.mono HB4.out.size))
          have HAS := Lib.hid (asBook_any W5 _ _ _ L _ ys er (HV.out.below HB5.out).tb (HK4.out.below hb5) (HER.out.below hb5) HYS.out)
          have htx := fun W (hw : Below W5.heap.size W5 W) => text_any W _ _ _ L er ((HV.out.below HB5.out).tb.below hw) ((HK4.out.below hb5).below hw) (HK4.out.below hb5).textLe
          rw [HBL.out] at htx
          have HTX := Lib.hid htx
          clear hW5 hb5 hx hy htx
          go_wp2_with fail
          (with_reducible refine HAS.out.mono ?_)
          rintro e6 w6 ⟨rfl, hb6⟩
          have HB6 := Lib.hid hb6
          clear hb6
          go_wp2_with fail
          (with_reducible refine (HTX.out _ HB6.out).mono ?_)
          rintro e7 w7 ⟨rfl, hb7⟩
          have HB7 := Lib.hid (HB5.out.trans ((HB6.out.trans (hb7.mono HB6.out.size)).mono HB5.out.size))
          clear hb7
          go_wp2
          go_ret
          exact ⟨by simp, HB7.out⟩
        | succ q =>
          rw [if_neg (by simp)] at h3
          obtain ⟨f, rfl, hf⟩ := h3
          obtain ⟨n, hn⟩ : ∃ n : Int, ((q + 1 : Nat) : Int) = n := ⟨_, rfl⟩
          have hn0 : 0 < n := by omega
          have HN := Lib.hid hn
          have HF := Lib.hid hf
          have HQ := Lib.hid hle
          clear hbk hle hf hn
          go_wp2_with fail
          (with_reducible refine HRR.out.mono ?_)
          rintro e4 w4 ⟨hb4, h4⟩
          rw [hz, if_neg HBIG.out, HKL.out, if_neg (by simp)] at h4
          dsimp only at h4
          rw [HN.out] at h4
          subst h4
          have HB4 := Lib.hid (HB3.out.trans (hb4.mono HB3.out.size))
          have HF4 := Lib.hid (row_below HF.out hb4)
          clear hb4
          go_upto_region 6 with fail
          generalize hW5 : (w4.alloc _).alloc _ = W5
          have hb5 : Below w4.heap.size w4 W5 := by rw [← hW5]; exact ((Below.refl _ w4).alloc (Nat.le_refl _) _).alloc (by simp) _
          have hx : W5.heap[w4.heap.size + 1]? = some (.cells #[.int .i64 n, .int .i64 (i : Int)] 64 (0, 0)) := by
            rw [← hW5]
            have h := heap_new (w4.alloc (.cells #[.slice none 0 0] 27)) (.cells #[.int .i64 n, .int .i64 (i : Int)] 64)
            rwa [World.size_alloc] at h
          obtain ⟨c0, c1, -⟩ := Rp.cells2 hx
          have HB5 := Lib.hid (HB4.out.trans (hb5.mono HB4.out.size))
          have hfa := Cd2.faulted_at er q (by have := HQ.out; omega) f (i : Int) W5 (HE.out.below HB5.out) (row_below HF4.out hb5)
          rw [HN.out] at hfa
          have HFA := Lib.hid hfa
          clear hW5 hb5 hx hfa
          go_wp2_with fail
          (with_reducible refine HFA.out.mono ?_)
          rintro e6 w6 ⟨rfl, hb6⟩
          have HB6 := Lib.hid (HB5.out.trans (hb6.mono HB5.out.size))
          clear hb6
          go_wp2
          go_ret
          exact ⟨rfl, HB6.out⟩
end Bk
end Go.Proofs.YtghkalamlcfnnaaGreatDoor
