/- pack.first: the first operation of a delta. -/
import Derived.Test.YtmlndamkcipebaaDoorPackNum
import Derived.Test.YtmlndamkcipebaaDoorPackPlain
import Derived.Test.YtmlndamkcipebaaDoorGen
import Derived.IntWalk
import Derived.Deep.RegionLaw
namespace Go.Proofs.YtmlndamkcipebaaDoor
open Go Go.RowKit Lmd
namespace Pk
open Rul Day Tp Cand

def opV (o : Op) : Value := .agg #[.int .i64 o.at_, .int .i64 o.n, .string (mk o.text)]
theorem cells3 {w : World} {b : Nat} {a0 a1 a2 : Value} {t : TypeId} (h : w.heap[b]? = some (.cells #[a0, a1, a2] t (0, 0))) :
    w.cell? ⟨b, 0, none⟩ = some a0 ∧ w.cell? ⟨b, 1, none⟩ = some a1 ∧ w.cell? ⟨b, 2, none⟩ = some a2 ∧ w.frozen? ⟨b, 0, none⟩ = false ∧ w.frozen? ⟨b, 1, none⟩ = false ∧ w.frozen? ⟨b, 2, none⟩ = false := by
  simp [World.cell?, World.frozen?, h]
theorem lenR_le (c : UInt8) (l : List UInt8) : (lenR c l).length ≤ l.length := by
  unfold lenR Lib.cut
  split
  · rw [List.length_drop]; omega
  · simp
theorem put3_row {W : World} {b : Nat} {c0 c1 c2 : Value} {t : TypeId} (h : W.heap[b]? = some (.cells #[c0, c1, c2] t (0, 0))) {a0 a1 a2 : Value} : (((W.setCell ⟨b, 0, none⟩ a0).setCell ⟨b, 1, none⟩ a1).setCell ⟨b, 2, none⟩ a2).heap[b]? = some (.cells #[a0, a1, a2] t (0, 0)) :=
  row_set (row_set (row_set h 0 a0) 1 a1) 2 a2
theorem put3_below {B b : Nat} {w W : World} (h : Below B w W) (hb : B ≤ b) {a0 a1 a2 : Value} : Below B w (((W.setCell ⟨b, 0, none⟩ a0).setCell ⟨b, 1, none⟩ a1).setCell ⟨b, 2, none⟩ a2) :=
  ((h.setCell (p := ⟨b, 0, none⟩) hb a0).setCell (p := ⟨b, 1, none⟩) hb a1).setCell (p := ⟨b, 2, none⟩) hb a2
theorem drew_row' {W : World} {b : Nat} {o : Obj} (h : W.heap[b]? = some o) : W.drew.heap[b]? = some o := h
theorem below_drew' {B : Nat} {a w : World} (h : Below B a w) : Below B a w.drew := below_draw h 1
theorem res_first {W : World} {b : Nat} {a0 a1 a2 r q : Value} {tmps : Array Value} (h : W.heap[b]? = some (.cells #[a0, a1, a2] 100 (0, 0))) (h2 : tmps.getD 2 undef = .pointer (some ⟨b, 0, none⟩)) (h3 : tmps.getD 3 undef = r) (h4 : tmps.getD 4 undef = q) :
    (results Tryd.f87 tmps).run Tryd.prog W = .ok (.tuple #[.agg #[a0, a1, a2], r, q]) W := by
  obtain ⟨q0, q1, q2, _⟩ := cells3 h
  have h2' : tmps[2]?.getD undef = .pointer (some ⟨b, 0, none⟩) := by simpa using h2
  have h3' : tmps[3]?.getD undef = r := by simpa using h3
  have h4' : tmps[4]?.getD undef = q := by simpa using h4
  simp [results, Tryd.f87, go_sem, h2', h3', h4', q0, q1, q2]
theorem fst_c (r : List UInt8) : fst1 (99 :: r) = if copyOk r = true then (true, copyOp r, copyR r) else (false, noOp, []) := rfl
theorem fst_i (r : List UInt8) : fst1 (105 :: r) = if insOk r = true then (true, insOp r, insR r) else (false, noOp, []) := rfl
theorem fst_x {x : UInt8} (r : List UInt8) (h1 : ¬ x = 99) (h2 : ¬ x = 105) : fst1 (x :: r) = (false, noOp, []) := by
  unfold fst1
  split
  · rename_i h; cases h; exact absurd rfl h1
  · rename_i h; cases h; exact absurd rfl h2
  · rfl
/-- what lies behind pack.first -/
def FstPost (d : List UInt8) (w : World) (e : Ending) (w' : World) : Prop :=
  ∃ x0 x1 x2 r, e = .returned (.tuple #[.agg #[.int .i64 x0, .int .i64 x1, .string x2], .string r, .bool (fst1 d).1]) ∧ ((fst1 d).1 = true → x0 = (fst1 d).2.1.at_ ∧ x1 = (fst1 d).2.1.n ∧ x2 = mk (fst1 d).2.1.text ∧ r = mk (fst1 d).2.2) ∧ Below w.heap.size w w'
theorem fst_end {d : List UInt8} {w W : World} {b : Nat} {a0 a1 : Int} {a2 : ByteArray} {tmps : Array Value} {r' : ByteArray} {q : Bool} (row : W.heap[b]? = some (.cells #[.int .i64 a0, .int .i64 a1, .string a2] 100 (0, 0))) (h2 : tmps.getD 2 undef = .pointer (some ⟨b, 0, none⟩)) (h3 : tmps.getD 3 undef = .string r') (h4 : tmps.getD 4 undef = .bool q)
    (hq : (fst1 d).1 = q) (hok : q = true → Value.agg #[.int .i64 a0, .int .i64 a1, .string a2] = opV (fst1 d).2.1 ∧ r' = mk (fst1 d).2.2) (hlow : Below w.heap.size w W) : bodyPost Tryd.prog Tryd.f87 (FstPost d w) .ret { tmps := tmps, defers := [] } W :=
  bodyPost_ret (res_first row h2 h3 h4) rfl ⟨a0, a1, a2, r', by rw [hq], by
    rw [hq]
    intro h
    obtain ⟨e1, e2⟩ := hok h
    unfold opV at e1
    simp at e1
    exact ⟨e1.1, e1.2.1, e1.2.2, e2⟩, hlow⟩
set_option maxRecDepth 100000 in
set_option maxHeartbeats 1000000 in
theorem first_any (x : UInt8) (r : List UInt8) (m : Int) (w : World) (hs : r.length ≤ 1000000) (hE : ELib w) (htab : Lib.TabIs Tryd.prog w "internal/strconv.uint64pow10" .u64 Lib.pow10Tab) (hm : w.cell? ⟨13, 0, none⟩ = some (.int .i64 m)) :
    Calls Tryd.prog 87 #[.string (mk (x :: r))] w (FstPost (x :: r) w) := by
  obtain ⟨S, hS⟩ : ∃ S, mk (x :: r) = S := ⟨_, rfl⟩
  have hsz : S.size = r.length + 1 := by rw [← hS]; simp [ByteArray.size]
  have h0 : 0 < S.size := by omega
  have hSx : (S[0] : UInt8) = x := at_of S 0 x h0 (by rw [← hS]; rfl)
  have hext : S.extract 1 S.size = mk r := mk_of (by rw [ext_mid, ← hS]; simp [ByteArray.size])
  rw [hS]
  obtain ⟨w1, hw1⟩ : ∃ w1, w.alloc (.cells #[.int .i64 0, .int .i64 0, .string ⟨#[]⟩] 100) = w1 := ⟨_, rfl⟩
  have hb1 : Below w.heap.size w w1 := by rw [← hw1]; exact (Below.refl _ w).alloc (Nat.le_refl _) _
  have hz1 : w1.heap.size = w.heap.size + 1 := by rw [← hw1]; simp
  have hx1 := heap_new w (.cells #[.int .i64 0, .int .i64 0, .string ⟨#[]⟩] 100)
  rw [hw1] at hx1
  have hEn := fun (c : UInt8) (l : List UInt8) (hl : l.length ≤ 1000000) W (h : Below w1.heap.size w1 W) => packNumber_any c (mk l) m W (by simp [ByteArray.size]; omega) ((hE.below hb1).below h) (Frame.tab_below (g := 12) (by kernel_rfl) h (Frame.tab_below (g := 12) (by kernel_rfl) hb1 htab)) (cell_later h (cell_later hb1 hm))
  have HN := Lib.hid hEn
  have HB1 := Lib.hid hb1
  have HX1 := Lib.hid hx1
  have HW1 := Lib.hid hw1
  have HZ1 := Lib.hid hz1
  have HS := Lib.hid hS
  have HSZ := Lib.hid hsz
  have h1s : 1 ≤ S.size := by omega
  clear hS hsz hEn hb1 hx1 hw1 hE htab hm
  by_cases hc : x = 99
  · subst hc
    have hn1 := HN.out 44 r hs w1 (Below.refl _ _)
    have HN1 := Lib.hid hn1
    have hlr : (lenR 44 r).length ≤ 1000000 := Nat.le_trans (lenR_le 44 r) hs
    clear hn1
    go_enter Tryd.func87, Tryd.ntmps87
    go_wp2_with fail
    rw [HW1.out]
    refine HN1.out.mono ?_
    rintro e1 w2 ⟨n1, rfl, hn1, hb2⟩
    have HB2 := Lib.hid hb2
    have HN1' := Lib.hid hn1
    have hn2 := HN.out 59 (lenR 44 r) hlr w2 hb2
    have HN2 := Lib.hid hn2
    clear hn1 hn2 hb2 HN1
    obtain ⟨a1, ha1⟩ : ∃ a1, lenOk 44 r = a1 := ⟨_, rfl⟩
    obtain ⟨R1, hR1⟩ : ∃ R1, mk (lenR 44 r) = R1 := ⟨_, rfl⟩
    rw [ha1] at HN1' ⊢
    rw [hR1] at HN2 ⊢
    have HA1 := Lib.hid ha1
    clear ha1 hR1
    go_wp2_with fail
    refine HN2.out.mono ?_
    rintro e2 w3 ⟨n2, rfl, hn2, hb3⟩
    have HB3 := Lib.hid (HB2.out.trans (hb3.mono HB2.out.size))
    have HN2' := Lib.hid hn2
    obtain ⟨b1, hb1⟩ : ∃ b1, lenOk 59 (lenR 44 r) = b1 := ⟨_, rfl⟩
    rw [hb1] at HN2' ⊢
    have HB1' := Lib.hid hb1
    have hx3 := row_below HX1.out HB3.out
    have HX3 := Lib.hid hx3
    obtain ⟨k0, k1, k2, f0, f1, f2⟩ := cells3 hx3
    clear hn2 hb3 hb1 HN2 HB2 hx3
    have hlow := HB1.out.trans (HB3.out.mono HB1.out.size)
    have HLOW := Lib.hid hlow
    clear hlow
    cases a1 with
    | false =>
      have hf : copyOk r = false := by unfold copyOk; rw [HA1.out]; rfl
      have HF := Lib.hid hf
      clear hf
      go_wp2
      exact fst_end (put3_row HX3.out) rfl rfl rfl (by rw [fst_c, HF.out]; rfl) (fun h => by cases h) (put3_below HLOW.out (Nat.le_refl _))
    | true =>
      cases b1 with
      | false =>
        have hf : copyOk r = false := by unfold copyOk; rw [HB1'.out, Bool.and_false]; rfl
        have HF := Lib.hid hf
        clear hf
        go_wp2
        exact fst_end (put3_row HX3.out) rfl rfl rfl (by rw [fst_c, HF.out]; rfl) (fun h => by cases h) (put3_below HLOW.out (Nat.le_refl _))
      | true =>
        obtain rfl := HN1'.out rfl
        obtain rfl := HN2'.out rfl
        have hf : copyOk r = decide (0 < lenN 59 (lenR 44 r)) := by unfold copyOk; rw [HA1.out, HB1'.out]; rfl
        obtain ⟨N1, hN1⟩ : ∃ N1, lenN 44 r = N1 := ⟨_, rfl⟩
        obtain ⟨N2, hN2⟩ : ∃ N2, lenN 59 (lenR 44 r) = N2 := ⟨_, rfl⟩
        have hop : copyOp r = ⟨N1, N2, []⟩ := by unfold copyOp; rw [hN1, hN2]
        rw [hN2] at hf ⊢
        rw [hN1]
        have HF := Lib.hid hf
        have HOP := Lib.hid hop
        clear hf hop hN1 hN2
        go_wp2
        refine fst_end (put3_row HX3.out) rfl rfl rfl ?_ ?_ (put3_below HLOW.out (Nat.le_refl _))
        · rw [fst_c, HF.out]
          by_cases h : 0 < N2
          · simp [h]
          · simp [h]
        · intro h
          have h2 : 0 < N2 := by simpa using h
          rw [fst_c, HF.out]
          simp only [h2, decide_true, if_true]
          exact ⟨by rw [HOP.out]; rfl, rfl⟩
  · by_cases hi : x = 105
    · subst hi
      have hn1 := HN.out 58 r hs w1 (Below.refl _ _)
      have HN1 := Lib.hid hn1
      have hlr : (lenR 58 r).length ≤ 1000000 := Nat.le_trans (lenR_le 58 r) hs
      clear hn1 hc
      go_enter Tryd.func87, Tryd.ntmps87
      go_wp2_with fail
      rw [HW1.out]
      refine HN1.out.mono ?_
      rintro e1 w2 ⟨n1, rfl, hn1, hb2⟩
      have HB2 := Lib.hid hb2
      have HN1' := Lib.hid hn1
      obtain ⟨a1, ha1⟩ : ∃ a1, lenOk 58 r = a1 := ⟨_, rfl⟩
      rw [ha1] at HN1' ⊢
      have HA1 := Lib.hid ha1
      have hx2 := row_below HX1.out hb2
      have HX2 := Lib.hid hx2
      obtain ⟨k0, k1, k2, f0, f1, f2⟩ := cells3 hx2
      have hlow := HB1.out.trans (hb2.mono HB1.out.size)
      have HLOW0 := Lib.hid hlow
      obtain ⟨R, hR⟩ : ∃ R, lenR 58 r = R := ⟨_, rfl⟩
      obtain ⟨T, hT⟩ : ∃ T, mk R = T := ⟨_, rfl⟩
      rw [hR] at hlr ⊢
      rw [hT]
      have hTR : T.data.toList = R := by rw [← hT]
      have hTz : T.size = R.length := by rw [← hT]; simp [ByteArray.size]
      have HTR := Lib.hid hTR
      have HR := Lib.hid hR
      clear hn1 ha1 hb2 hx2 hlow HN1 hR hT hTR
      cases a1 with
      | false =>
        have hf : insOk r = false := by unfold insOk; rw [HA1.out]; rfl
        have HF := Lib.hid hf
        clear hf hTz
        go_wp2
        exact fst_end (put3_row HX2.out) rfl rfl rfl (by rw [fst_i, HF.out]; rfl) (fun h => by cases h) (put3_below HLOW0.out (Nat.le_refl _))
      | true =>
        obtain rfl := HN1'.out rfl
        obtain ⟨n, hn⟩ : ∃ n, lenN 58 r = n := ⟨_, rfl⟩
        rw [hn]
        have hnb := (len_split HA1.out).2
        rw [hn] at hnb
        obtain ⟨j, rfl⟩ : ∃ j : Nat, n = (j : Int) := ⟨n.toNat, by omega⟩
        have HNN := Lib.hid hn
        have hok : insOk r = (decide ((1 : Int) ≤ j) && decide ((j : Int) < (R.length : Int)) && decide (R[j]? = some 59)) := by
          unfold insOk; rw [HA1.out, hn, HR.out]; simp
        have HOK := Lib.hid hok
        clear hn hok HN1'
        by_cases h1 : 1 ≤ j
        · by_cases h2 : j < R.length
          · obtain ⟨y, hy⟩ : ∃ y, R[j]? = some y := ⟨_, List.getElem?_eq_getElem h2⟩
            have hjT : j < T.size := by omega
            have hTy : (T[j] : UInt8) = y := at_of T j y hjT (by rw [HTR.out]; exact hy)
            have HY := Lib.hid hy
            have hj1 : (1 : Int) ≤ (j : Int) := by omega
            have hj2 : ¬ ((j : Int) < 1) := by omega
            have hj3 : ¬ ((T.size : Int) ≤ (j : Int)) := by omega
            have hj4 : (j : Int) < (T.size : Int) := by omega
            have hj5 : j + 1 ≤ T.size := by omega
            have hj7 : j ≤ T.size := by omega
            have hj6 : (j : Int) + 1 ≤ (T.size : Int) := by omega
            have hTs : T.size ≤ 1000000 := by omega
            have HTZ := Lib.hid hTz
            clear hy hTz h2
            by_cases h3 : y = 59
            · subst h3
              have hf : insOk r = true := by rw [HOK.out, HY.out]; simp; have := HTZ.out; omega
              have HF := Lib.hid hf
              clear hf HOK
              have hext0 : T.extract 0 j = mk (R.take j) := mk_of (by rw [ext_take, HTR.out])
              have hext1 : T.extract (j + 1) T.size = mk (R.drop (j + 1)) := mk_of (by
                rw [ext_mid, HTR.out]
                exact List.take_of_length_le (by rw [List.length_drop]; have := HTZ.out; omega))
              have hop : insOp r = ⟨0, j, R.take j⟩ ∧ insR r = R.drop (j + 1) := by
                unfold insOp insR
                rw [HNN.out, HR.out]
                simp
              have HOP := Lib.hid hop
              clear hop
              go_upto_region 10 with fail
              go_cut [3, 4] from 40 (fun s3 s4 wx => s3 = .string (mk (R.drop (j + 1))) ∧ s4 = .bool true ∧ wx.heap[w.heap.size]? = some (.cells #[.int .i64 0, .int .i64 j, .string (mk (R.take j))] 100 (0, 0)) ∧ Below w.heap.size w wx)
              case first =>
                have hs1 : IntKind.i64.wrap ((j : Int) + 1) = (j : Int) + 1 := IntWalk.i64_in _ (by omega)
                have hs2 : (0 : Int) ≤ (j : Int) + 1 := by omega
                have hs3 : ((j : Int) + 1).toNat = j + 1 := by omega
                go_region_law (fail)
                all_goals simp only [List.getElem_toArray, List.getElem_cons_succ, List.getElem_cons_zero, Act.put, List.setIfInBounds_toArray, List.set_cons_succ, List.set_cons_zero]
                all_goals go_wp2_with fail
                all_goals go_meet
                all_goals exact ⟨rfl, rfl, drew_row' (put3_row HX2.out), below_drew' (put3_below HLOW0.out (Nat.le_refl _))⟩
              case rest =>
                obtain ⟨rfl, rfl, hrow, hbx⟩ := hcut
                go_wp2
                exact fst_end hrow rfl rfl rfl (by rw [fst_i, HF.out]; rfl) (fun _ => by rw [fst_i, HF.out]; exact ⟨by rw [if_pos rfl, HOP.out.1]; rfl, by rw [if_pos rfl, HOP.out.2]⟩) hbx
            · have hf : insOk r = false := by rw [HOK.out, HY.out]; simp [h3]
              have HF := Lib.hid hf
              have hy3 : ((y.toNat : Int) != 59) = true := by
                rw [bne_iff_ne]
                intro e
                exact h3 (UInt8.toNat_inj.1 (by show y.toNat = 59; omega))
              clear hf HOK h3
              go_wp2
              exact fst_end (put3_row HX2.out) rfl rfl rfl (by rw [fst_i, HF.out]; rfl) (fun h => by cases h) (put3_below HLOW0.out (Nat.le_refl _))
          · have hf : insOk r = false := by rw [HOK.out]; simp; omega
            have HF := Lib.hid hf
            have hj3 : (T.size : Int) ≤ (j : Int) := by omega
            have hj2 : ¬ ((j : Int) < 1) := by omega
            clear hf hTz HOK
            go_wp2
            exact fst_end (put3_row HX2.out) rfl rfl rfl (by rw [fst_i, HF.out]; rfl) (fun h => by cases h) (put3_below HLOW0.out (Nat.le_refl _))
        · have hf : insOk r = false := by rw [HOK.out]; simp; omega
          have HF := Lib.hid hf
          have hj2 : (j : Int) < 1 := by omega
          clear hf hTz HOK
          go_wp2
          exact fst_end (put3_row HX2.out) rfl rfl rfl (by rw [fst_i, HF.out]; rfl) (fun h => by cases h) (put3_below HLOW0.out (Nat.le_refl _))
    · have hf : fst1 (x :: r) = (false, noOp, []) := fst_x r hc hi
      have HF := Lib.hid hf
      have hc1 : ((x.toNat : Int) == 99) = false := by
        rw [beq_eq_false_iff_ne]
        intro e
        exact hc (UInt8.toNat_inj.1 (by show x.toNat = 99; omega))
      have hi1 : ((x.toNat : Int) == 105) = false := by
        rw [beq_eq_false_iff_ne]
        intro e
        exact hi (UInt8.toNat_inj.1 (by show x.toNat = 105; omega))
      obtain ⟨k0, k1, k2, f0, f1, f2⟩ := cells3 HX1.out
      clear hf hc hi
      go_enter Tryd.func87, Tryd.ntmps87
      go_wp2
      rw [HW1.out]
      exact fst_end HX1.out rfl rfl rfl (by rw [HF.out]) (fun h => by cases h) HB1.out
end Pk
end Go.Proofs.YtmlndamkcipebaaDoor
