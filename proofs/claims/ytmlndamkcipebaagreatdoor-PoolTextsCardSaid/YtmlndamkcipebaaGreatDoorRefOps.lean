/- The reference's OpsOf. -/
import Derived.Test.YtmlndamkcipebaaGreatDoorRefHead
namespace Go.Proofs.YtmlndamkcipebaaGreatDoor
open Go Go.RowKit Lmd
namespace Rf
open Rul Day Tp Cand Pk

/-- what lies behind OpsOf -/
def ROpsPost (d : List UInt8) (w : World) (e : Ending) (w' : World) : Prop :=
  ∃ v, e = .returned (.tuple #[v, .bool (opsF d).isSome]) ∧ (∀ l, opsF d = some l → w'.ownsRow w.heap.size 111 3 v l.length (cellsOp l)) ∧ Below w.heap.size w w'
theorem rop_info : (Tryz.prog.info? 111).map (fun i => (i.zero, i.size, i.bytes)) = some (some (.agg #[.int .i64 0, .int .i64 0, .string ⟨#[]⟩]), 3, 32) := by kernel_rfl
/-- the state of the loop of OpsOf -/
structure ROpAt (d : List UInt8) (w : World) (D : List Pk.Op) (r : List UInt8) (v : Value) (W : World) : Prop where
  rel : opsF d = (opsF r).map (D ++ ·)
  own : W.ownsRow w.heap.size 111 3 v D.length (cellsOp D)
  below : Below w.heap.size w W
  len : D.length + r.length ≤ d.length
theorem h44 (r : List UInt8) (hr : r.length ≤ 9223372036854775000) : ∀ W, Calls Tryz.prog 49 #[.string (mk r), .int .u8 44] W fun e w' => e = .returned (.tuple #[.int .i64 (hdN 44 r), .int .i64 (hdK 44 r : Nat)]) ∧ ∃ q, w' = W.drewN q := fun W => head_any 44 r W hr
theorem h59 (r : List UInt8) (hr : r.length ≤ 9223372036854775000) : ∀ W, Calls Tryz.prog 49 #[.string (mk r), .int .u8 59] W fun e w' => e = .returned (.tuple #[.int .i64 (hdN 59 r), .int .i64 (hdK 59 r : Nat)]) ∧ ∃ q, w' = W.drewN q := fun W => head_any 59 r W hr
theorem h58 (r : List UInt8) (hr : r.length ≤ 9223372036854775000) : ∀ W, Calls Tryz.prog 49 #[.string (mk r), .int .u8 58] W fun e w' => e = .returned (.tuple #[.int .i64 (hdN 58 r), .int .i64 (hdK 58 r : Nat)]) ∧ ∃ q, w' = W.drewN q := fun W => head_any 58 r W hr
theorem ROpAt.bad {d : List UInt8} {w : World} {D : List Pk.Op} {x : UInt8} {r : List UInt8} {v : Value} {W : World} (h : ROpAt d w D (x :: r) v W) (hf : (fst1 (x :: r)).1 = false) : opsF d = none := by
  rw [h.rel, opsF_bad (by simp) hf]; rfl
theorem rops_no {d : List UInt8} {w W : World} {v : Value} (h : opsF d = none) (hb : Below w.heap.size w W) : ROpsPost d w (.returned (.tuple #[v, .bool false])) W := by
  refine ⟨_, by rw [h]; rfl, ?_, hb⟩
  intro l hl
  rw [h] at hl
  cases hl
set_option maxRecDepth 100000 in
set_option maxHeartbeats 1000000 in
theorem opsOf_any (d : List UInt8) (w : World) (hs : d.length ≤ 1100000) :
    Calls Tryz.prog 73 #[.string (mk d)] w (ROpsPost d w) := by
  obtain ⟨i0, hi0, ho0, ho1, ho2⟩ := info_parts rop_info
  go_enter Tryz.func73, Tryz.ntmps73
  go_wp2_with fail
  go_loopw [0, 4] (fun dv v4 wr => ∃ D r, dv = .string (mk r) ∧ (∃ a c, v4 = .slice a D.length c) ∧ ROpAt d w D r v4 wr) (fun dv _ _ => (match dv with | .string s => s.size | _ => 0))
  case atStart => exact ⟨[], d, rfl, ⟨none, 0, rfl⟩, by cases opsF d <;> simp, ⟨by simp [cellsOp], .inl ⟨rfl, rfl⟩⟩, Below.refl _ _, by simp⟩
  case round =>
    obtain ⟨D, r, rfl, ⟨a4, c4, rfl⟩, hat⟩ := hrel
    cases r with
    | nil =>
      have hok : opsF d = some D := by rw [hat.rel, opsF_nil]; simp
      have HOK := Lib.hid hok
      have HAT := Lib.hid hat
      have he : (mk []).size = 0 := rfl
      clear hok hat
      go_wp2_with fail
      go_ret2
      refine ⟨_, by rw [HOK.out]; rfl, ?_, HAT.out.below⟩
      intro l hl
      rw [HOK.out] at hl
      cases hl
      exact HAT.out.own
    | cons x r =>
      have hlen := hat.len
      rw [List.length_cons] at hlen
      obtain ⟨S, hS⟩ : ∃ S, mk (x :: r) = S := ⟨_, rfl⟩
      have hsz : S.size = r.length + 1 := by rw [← hS]; simp [ByteArray.size]
      have h0 : 0 < S.size := by omega
      have h1s : 1 ≤ S.size := by omega
      have hSs : S.size ≤ 2000000 := by omega
      have hSx : (S[0] : UInt8) = x := at_of S 0 x h0 (by rw [← hS]; rfl)
      have hext : S.extract 1 S.size = mk r := mk_of (by rw [ext_mid, ← hS]; simp [ByteArray.size])
      have hsl : ∀ (a n : Nat), 1 + a + n ≤ S.size → S.extract (1 + a) (1 + a + n) = mk ((r.drop a).take n) := fun a n h => mk_of (by
        rw [ext_mid, ← hS]
        show ((x :: r).drop (1 + a)).take (1 + a + n - (1 + a)) = _
        rw [Nat.add_comm 1 a, List.drop_succ_cons]
        congr 1; omega)
      have hse : ∀ a : Nat, 1 + a ≤ S.size → S.extract (1 + a) S.size = mk (r.drop a) := fun a h => mk_of (by
        rw [ext_mid, ← hS]
        show ((x :: r).drop (1 + a)).take ((x :: r).length - (1 + a)) = _
        rw [Nat.add_comm 1 a, List.drop_succ_cons]
        exact List.take_of_length_le (by rw [List.length_drop, List.length_cons]; omega))
      rw [hS]
      have HSE := Lib.hid hse
      have HAT := Lib.hid hat
      have HSZ := Lib.hid hsz
      have HSL := Lib.hid hsl
      have HSI := Lib.hid (show ∀ (a : Nat) (y : UInt8) (h : 1 + a < S.size), r[a]? = some y → (S[1 + a] : UInt8) = y from fun a y h hy => at_of S (1 + a) y h (by rw [← hS, Nat.add_comm]; simpa using hy))
      clear hat hS hsz hsl hse
      have hb0 := HAT.out.below
      by_cases hc : x = 99
      · subst hc
        have hh := h44 r (by omega)
        have HH := Lib.hid hh
        clear hh
        go_wp2_with fail
        (with_reducible refine (HH.out _).mono ?_)
        rintro e1 w1 ⟨rfl, q, rfl⟩
        clear HH
        by_cases hn : 0 ≤ hdN 44 r
        · obtain ⟨g1, g2, g3, g4, g5, g6⟩ := hd_drop hn
          obtain ⟨k, hk⟩ : ∃ k, hdK 44 r = k := ⟨_, rfl⟩
          obtain ⟨at_, hat⟩ : ∃ a, hdN 44 r = a := ⟨_, rfl⟩
          rw [hk] at g3 g4 g5 ⊢
          rw [hat] at hn g2 ⊢
          have hR := g3
          obtain ⟨R, hRe⟩ : ∃ R, lenR 44 r = R := ⟨_, rfl⟩
          rw [hRe] at hR
          have hRl : R.length ≤ 1100000 := by rw [← hR, List.length_drop]; omega
          obtain ⟨u, hu⟩ : ∃ u : Nat, u = 1 + k := ⟨_, rfl⟩
          have hu1 : IntKind.i64.wrap ((1 : Int) + (k : Int)) = (u : Int) := by
            rw [show (1 : Int) + (k : Int) = (u : Int) by omega]; exact IntWalk.i64_in _ (by omega)
          have hu2 : u ≤ S.size := by have := HSZ.out; omega
          have hu3 : (u : Int) ≤ (S.size : Int) := by omega
          have hxu : S.extract u S.size = mk R := by rw [hu, HSE.out k (by have := HSZ.out; omega), hR]
          have hh2 := h59 R (by omega)
          have HH2 := Lib.hid hh2
          have HG1 := Lib.hid g1
          have HG2 := Lib.hid g2
          have HK := Lib.hid hk
          have HR := Lib.hid hR
          have HRE := Lib.hid hRe
          have HU := Lib.hid hu
          have hatb : at_ < 1000000000 := by omega
          clear hh2 g1 g2 g3 g5 g6 hk hat hR hRe hu
          go_wp2_with fail
          (with_reducible refine (HH2.out _).mono ?_)
          rintro e2 w2 ⟨rfl, q2, rfl⟩
          clear HH2
          by_cases hn1 : 1 ≤ hdN 59 R
          · obtain ⟨g1, g2, g3, g4, g5, g6⟩ := hd_drop (c := 59) (l := R) (by omega)
            obtain ⟨j, hj⟩ : ∃ k, hdK 59 R = k := ⟨_, rfl⟩
            obtain ⟨n, hnn⟩ : ∃ a, hdN 59 R = a := ⟨_, rfl⟩
            rw [hj] at g3 g4 g5 ⊢
            rw [hnn] at hn1 g2 ⊢
            obtain ⟨z, hz⟩ : ∃ z : Nat, z = 1 + (k + j) := ⟨_, rfl⟩
            have hkj : k + j ≤ r.length := by rw [← HR.out, List.length_drop] at g4; omega
            have hz1 : IntKind.i64.wrap ((u : Int) + (j : Int)) = (z : Int) := by
              have hu := HU.out
              rw [show (u : Int) + (j : Int) = (z : Int) by omega]; exact IntWalk.i64_in _ (by omega)
            have hz2 : z ≤ S.size := by have := HSZ.out; omega
            have hz3 : (z : Int) ≤ (S.size : Int) := by omega
            have hxz : S.extract z S.size = mk (lenR 59 R) := by
              rw [hz, HSE.out (k + j) (by have := HSZ.out; omega), ← List.drop_drop, HR.out, g3]
            have hop : fst1 (99 :: r) = (true, ⟨at_, n, []⟩, lenR 59 R) := by
              rw [fst_c, if_pos]
              · unfold copyOp copyR
                rw [HRE.out, ← HG2.out, ← g2]
              · unfold copyOk
                rw [HG1.out, HRE.out, g1, ← g2]; simp; omega
            have HOP := Lib.hid hop
            have hnb : n < 1000000000 := by omega
            have hrl : (lenR 59 R).length ≤ r.length := Nat.le_trans (lenR_le 59 R) (by rw [← HR.out, List.length_drop]; omega)
            have HRL := Lib.hid hrl
            clear g1 g2 g3 g5 g6 hj hnn hz hop hrl
            have hnew := heap_new (wr.drewN (q + q2)) (.cells #[.int .i64 at_, .int .i64 n, .string ⟨#[]⟩] 111)
            have hown : (wr.drewN (q + q2)).ownsRow w.heap.size 111 3 (.slice a4 D.length c4) D.length (cellsOp D) := own_later3 HAT.out.own (below_draw (Below.refl _ wr) _)
            have hbn : Below wr.heap.size wr ((wr.drewN (q + q2)).alloc (.cells #[.int .i64 at_, .int .i64 n, .string ⟨#[]⟩] 111)) := (below_draw (Below.refl wr.heap.size wr) _).alloc (Nat.le_refl _) _
            have hsb := hb0.size
            have HNEW := Lib.hid hnew
            have HOWN := Lib.hid hown
            have HBN := Lib.hid hbn
            have hdl : D.length < 1100001 := by omega
            clear hnew hown hbn
            go_wp2_with (first
              | (at_builtin
                 refine wpList_append_own _ rfl (.tmp 36) (.tmp 40) _ rfl w.heap.size 111 i0 _ 3 32 Tryz.underlying107 hi0 ho0 ho1 ho2 rfl (by omega) (.slice a4 D.length c4) D.length (cellsOp D) rfl
                   (HOWN.out.alloc _) ⟨wr.heap.size, 0, none⟩ 1 1 [.int .i64 at_, .int .i64 n, .string ⟨#[]⟩] rfl rfl
                   (fun j u hu => by
                     have hc := cells3 HNEW.out
                     rw [Addr.add_lit]
                     match j, hu with
                     | 0, hu => cases hu; exact hc.1
                     | 1, hu => cases hu; exact hc.2.1
                     | 2, hu => cases hu; exact hc.2.2.1
                     | j + 3, hu => cases hu) (fun u hu => by simp at hu; rcases hu with rfl | rfl | rfl <;> rfl) (by simp only [maxLen]; omega) (by omega) (by simp; omega) ?_
                 intro v1 wb hown' hg hnil
                 have hbb : Below w.heap.size w wb := (hb0.trans (HBN.out.mono hsb)).grown hg (by simp; omega) (fun j ej => own_ge3 HAT.out.own ej)
                 obtain ⟨a1, c2, e1⟩ : ∃ a1 c2, v1 = .slice a1 (D.length + 1) c2 := ownsRow_slice3 hown'
                 subst e1
                 have HOB := Lib.hid hown'
                 have HBB := Lib.hid hbb
                 clear hown' hg hnil hbb))
            go_roundw
            case rel =>
              refine ⟨D ++ [⟨at_, n, []⟩], lenR 59 R, rfl, ⟨a1, c2, by simp⟩, ?_, ?_, HBB.out, ?_⟩
              · rw [HAT.out.rel, opsF_one (by simp) (by rw [HOP.out]), HOP.out]
                cases opsF (lenR 59 R) <;> simp
              · rw [cellsOp_snoc, List.length_append]; exact HOB.out
              · have h1 := HAT.out.len
                have h2 := HRL.out
                rw [List.length_append, List.length_cons, List.length_nil]
                rw [List.length_cons] at h1
                omega
            case measure =>
              have h1 := HRL.out
              have h2 := HSZ.out
              show (mk (lenR 59 R)).size < S.size
              have h3 : (mk (lenR 59 R)).size = (lenR 59 R).length := by simp [ByteArray.size]
              omega
          · have hbad : opsF d = none := HAT.out.bad (by
              rw [fst_c, if_neg]
              unfold copyOk
              rw [HRE.out]
              by_cases h9 : 0 ≤ hdN 59 R
              · obtain ⟨g1, g2, _⟩ := hd_drop h9
                rw [g1, ← g2]; simp; omega
              · rw [(hd_neg h9).1]; simp)
            have hn2 : hdN 59 R < 1 := by omega
            have HBAD := Lib.hid hbad
            clear hbad hn1
            go_wp2_with fail
            go_ret2
            exact rops_no HBAD.out (below_draw hb0 _)
        · have hbad : opsF d = none := HAT.out.bad (by rw [fst_c, if_neg]; unfold copyOk; rw [(hd_neg hn).1]; simp)
          have hn2 : hdN 44 r < 0 := by omega
          have HBAD := Lib.hid hbad
          clear hbad hn
          go_wp2_with fail
          go_ret2
          exact rops_no HBAD.out (below_draw hb0 _)
      · have hc1 : ((x.toNat : Int) == 99) = false := by
          rw [beq_eq_false_iff_ne]
          intro e
          exact hc (UInt8.toNat_inj.1 (by show x.toNat = 99; omega))
        by_cases hi : x = 105
        · subst hi
          have hh := h58 r (by omega)
          have HH := Lib.hid hh
          clear hh hc
          go_wp2_with fail
          (with_reducible refine (HH.out _).mono ?_)
          rintro e1 w1 ⟨rfl, q, rfl⟩
          clear HH
          by_cases hn1 : 1 ≤ hdN 58 r
          · obtain ⟨g1, g2, g3, g4, g5, g6⟩ := hd_drop (c := 58) (l := r) (by omega)
            obtain ⟨k, hk⟩ : ∃ k, hdK 58 r = k := ⟨_, rfl⟩
            obtain ⟨j, hj⟩ : ∃ j : Nat, hdN 58 r = (j : Int) := ⟨(hdN 58 r).toNat, by omega⟩
            obtain ⟨R, hRe⟩ : ∃ R, lenR 58 r = R := ⟨_, rfl⟩
            rw [hk] at g3 g4 g5 ⊢
            rw [hj] at hn1 g2 ⊢
            rw [hRe] at g3
            obtain ⟨u, hu⟩ : ∃ u : Nat, u = 1 + k := ⟨_, rfl⟩
            obtain ⟨z, hz⟩ : ∃ z : Nat, z = 1 + k + j := ⟨_, rfl⟩
            obtain ⟨c, hcz⟩ : ∃ c : Nat, c = r.length := ⟨_, rfl⟩
            obtain ⟨f, hf⟩ : ∃ f : Nat, f = R.length := ⟨_, rfl⟩
            have hRl : R.length = r.length - k := by rw [← g3, List.length_drop]
            have hjb : j < 1000000000 := by omega
            have hw1 : IntKind.i64.wrap ((S.size : Int) - 1) = (c : Int) := by
              rw [show (S.size : Int) - 1 = (c : Int) by have := HSZ.out; omega]; exact IntWalk.i64_in _ (by omega)
            have hw2 : IntKind.i64.wrap ((c : Int) - (k : Int)) = (f : Int) := by
              rw [show (c : Int) - (k : Int) = (f : Int) by omega]; exact IntWalk.i64_in _ (by omega)
            have hu1 : IntKind.i64.wrap ((1 : Int) + (k : Int)) = (u : Int) := by
              rw [show (1 : Int) + (k : Int) = (u : Int) by omega]; exact IntWalk.i64_in _ (by omega)
            have hz1 : IntKind.i64.wrap ((u : Int) + (j : Int)) = (z : Int) := by
              rw [show (u : Int) + (j : Int) = (z : Int) by omega]; exact IntWalk.i64_in _ (by omega)
            have hfst : fst1 (105 :: r) = if j < R.length ∧ R[j]? = some 59 then (true, ⟨0, (j : Int), R.take j⟩, R.drop (j + 1)) else (false, noOp, []) := by
              rw [fst_i]
              unfold insOk insOp insR
              rw [g1, hRe, ← g2]
              have e : ((j : Int)).toNat = j := by simp
              rw [e]
              by_cases hh : j < R.length ∧ R[j]? = some 59
              · rw [if_pos hh, if_pos]
                simp [hh.2]; omega
              · rw [if_neg hh, if_neg]
                intro hb
                simp at hb
                exact hh ⟨by omega, hb.2⟩
            have HFST := Lib.hid hfst
            have hni : ¬ (j : Int) < 1 := by omega
            clear g1 g2 g5 g6 hk hj hRe hfst
            by_cases hfj : f ≤ j
            · have hbad : opsF d = none := HAT.out.bad (by rw [HFST.out, if_neg (by omega)])
              have hfj2 : (f : Int) ≤ (j : Int) := by omega
              have HBAD := Lib.hid hbad
              clear hbad hfj hu hz hcz hf hRl g3 g4
              go_wp2_with fail
              go_ret2
              exact rops_no HBAD.out (below_draw hb0 _)
            · have hfj2 : ¬ (f : Int) ≤ (j : Int) := by omega
              obtain ⟨y, hy⟩ : ∃ y, R[j]? = some y := ⟨_, List.getElem?_eq_getElem (by omega)⟩
              have hzS : z < S.size := by have := HSZ.out; omega
              have hSy : (S[z] : UInt8) = y := by
                have e : z = 1 + (k + j) := by omega
                subst e
                exact HSI.out (k + j) y hzS (by rw [← hy, ← g3, List.getElem?_drop])
              have hz3 : (z : Int) < (S.size : Int) := by omega
              by_cases h59 : y = 59
              · subst h59
                have hop : fst1 (105 :: r) = (true, ⟨0, (j : Int), R.take j⟩, R.drop (j + 1)) := by rw [HFST.out, if_pos ⟨by omega, hy⟩]
                have hxu : S.extract u z = mk (R.take j) := by
                  rw [hu, hz, HSL.out k j (by have := HSZ.out; omega), g3]
                obtain ⟨u2, hu2⟩ : ∃ u2 : Nat, u2 = 2 + k := ⟨_, rfl⟩
                obtain ⟨z2, hz2⟩ : ∃ z2 : Nat, z2 = 1 + (k + (j + 1)) := ⟨_, rfl⟩
                have hv1 : IntKind.i64.wrap ((2 : Int) + (k : Int)) = (u2 : Int) := by
                  rw [show (2 : Int) + (k : Int) = (u2 : Int) by omega]; exact IntWalk.i64_in _ (by omega)
                have hv2 : IntKind.i64.wrap ((u2 : Int) + (j : Int)) = (z2 : Int) := by
                  rw [show (u2 : Int) + (j : Int) = (z2 : Int) by omega]; exact IntWalk.i64_in _ (by omega)
                have hxz : S.extract z2 S.size = mk (R.drop (j + 1)) := by
                  rw [hz2, HSE.out (k + (j + 1)) (by have := HSZ.out; omega), ← List.drop_drop, g3]
                have hb1 : u ≤ z := by omega
                have hb2 : z ≤ S.size := by omega
                have hb3 : (u : Int) ≤ (z : Int) := by omega
                have hb4 : (z : Int) ≤ (S.size : Int) := by omega
                have hb5 : z2 ≤ S.size := by have := HSZ.out; omega
                have hb6 : (z2 : Int) ≤ (S.size : Int) := by omega
                have HOP := Lib.hid hop
                have hrl : (R.drop (j + 1)).length ≤ r.length := by rw [List.length_drop]; omega
                have HRL := Lib.hid hrl
                clear hop hrl hy hfj hu hz hcz hf hRl g3 hu2 hz2 h0
                have hnew := heap_new (wr.drewN q) (.cells #[.int .i64 0, .int .i64 (j : Int), .string (mk (R.take j))] 111)
                have hown : (wr.drewN q).ownsRow w.heap.size 111 3 (.slice a4 D.length c4) D.length (cellsOp D) := own_later3 HAT.out.own (below_draw (Below.refl _ wr) _)
                have hbn : Below wr.heap.size wr ((wr.drewN q).alloc (.cells #[.int .i64 0, .int .i64 (j : Int), .string (mk (R.take j))] 111)) := (below_draw (Below.refl wr.heap.size wr) _).alloc (Nat.le_refl _) _
                have hsb := hb0.size
                have HNEW := Lib.hid hnew
                have HOWN := Lib.hid hown
                have HBN := Lib.hid hbn
                have hdl : D.length < 1100001 := by omega
                clear hnew hown hbn
                go_wp2_with (first
                  | (at_builtin
                     refine wpList_append_own _ rfl (.tmp 74) (.tmp 85) _ rfl w.heap.size 111 i0 _ 3 32 Tryz.underlying107 hi0 ho0 ho1 ho2 rfl (by omega) (.slice a4 D.length c4) D.length (cellsOp D) rfl
                       (HOWN.out.alloc _) ⟨wr.heap.size, 0, none⟩ 1 1 [.int .i64 0, .int .i64 (j : Int), .string (mk (R.take j))] rfl rfl
                       (fun i u hu => by
                         have hc := cells3 HNEW.out
                         rw [Addr.add_lit]
                         match i, hu with
                         | 0, hu => cases hu; exact hc.1
                         | 1, hu => cases hu; exact hc.2.1
                         | 2, hu => cases hu; exact hc.2.2.1
                         | i + 3, hu => cases hu) (fun u hu => by simp at hu; rcases hu with rfl | rfl | rfl <;> rfl) (by simp only [maxLen]; omega) (by omega) (by simp; omega) ?_
                     intro v1 wb hown' hg hnil
                     have hbb : Below w.heap.size w wb := (hb0.trans (HBN.out.mono hsb)).grown hg (by simp; omega) (fun i ej => own_ge3 HAT.out.own ej)
                     obtain ⟨a1, c2, e1⟩ : ∃ a1 c2, v1 = .slice a1 (D.length + 1) c2 := ownsRow_slice3 hown'
                     subst e1
                     have HOB := Lib.hid hown'
                     have HBB := Lib.hid hbb
                     clear hown' hg hnil hbb))
                go_roundw
                case rel =>
                  refine ⟨D ++ [⟨0, (j : Int), R.take j⟩], R.drop (j + 1), rfl, ⟨a1, c2, by simp⟩, ?_, ?_, HBB.out, ?_⟩
                  · rw [HAT.out.rel, opsF_one (by simp) (by rw [HOP.out]), HOP.out]
                    cases opsF (R.drop (j + 1)) <;> simp
                  · rw [cellsOp_snoc, List.length_append]; exact HOB.out
                  · have h1 := HAT.out.len
                    have h2 := HRL.out
                    rw [List.length_append, List.length_cons, List.length_nil]
                    rw [List.length_cons] at h1
                    omega
                case measure =>
                  have h1 := HRL.out
                  have h2 := HSZ.out
                  show (mk (R.drop (j + 1))).size < S.size
                  have h3 : (mk (R.drop (j + 1))).size = (R.drop (j + 1)).length := by simp [ByteArray.size]
                  omega
              · have hbad : opsF d = none := HAT.out.bad (by rw [HFST.out, if_neg (by rw [hy]; simp; exact fun _ => h59)])
                have hy3 : ((y.toNat : Int) != 59) = true := by
                  rw [bne_iff_ne]
                  intro e
                  exact h59 (UInt8.toNat_inj.1 (by show y.toNat = 59; omega))
                have HBAD := Lib.hid hbad
                clear hbad hy hfj hu hz hcz hf hRl g3 g4 h59
                go_wp2_with fail
                go_ret2
                exact rops_no HBAD.out (below_draw hb0 _)
          · have hbad : opsF d = none := HAT.out.bad (by
              rw [fst_i, if_neg]
              unfold insOk
              by_cases h9 : 0 ≤ hdN 58 r
              · obtain ⟨g1, g2, _⟩ := hd_drop h9
                rw [g1, ← g2]; simp; omega
              · rw [(hd_neg h9).1]; simp)
            have hn2 : hdN 58 r < 1 := by omega
            have HBAD := Lib.hid hbad
            clear hbad hn1
            go_wp2_with fail
            go_ret2
            exact rops_no HBAD.out (below_draw hb0 _)
        · have hf : fst1 (x :: r) = (false, noOp, []) := fst_x r hc hi
          have hi1 : ((x.toNat : Int) == 105) = false := by
            rw [beq_eq_false_iff_ne]
            intro e
            exact hi (UInt8.toNat_inj.1 (by show x.toNat = 105; omega))
          have hbad : opsF d = none := HAT.out.bad (by rw [hf])
          have HBAD := Lib.hid hbad
          clear hbad hf hc hi
          go_wp2_with fail
          go_ret2
          exact rops_no HBAD.out hb0
end Rf
end Go.Proofs.YtmlndamkcipebaaGreatDoor
