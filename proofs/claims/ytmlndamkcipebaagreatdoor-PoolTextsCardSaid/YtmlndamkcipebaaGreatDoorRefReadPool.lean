/- The reference's ReadPool. -/
import Derived.Test.YtmlndamkcipebaaGreatDoorRefPool2
import Derived.Test.YtmlndamkcipebaaGreatDoorRefFault
import Derived.Test.YtmlndamkcipebaaGreatDoorRefHead
import Derived.Test.YtmlndamkcipebaaGreatDoorPooled
import Derived.RegionTactic
import Derived.ChangeAlike
namespace Go.Proofs.YtmlndamkcipebaaGreatDoor
open Go Go.RowKit Lmd
namespace Rp
open Rul Day Cand Tp Pl Pk Rf

theorem rIs_base_le {w : World} {base b2 p : Nat} {v : Value} {xs : List (List UInt8)} (h : RIs w base p v xs) (hb : b2 ≤ base) : RIs w b2 p v xs :=
  ⟨h.row, ⟨h.own.1, h.own.2.imp id (by
    rintro ⟨g, cap, cur, h1, h2, h3⟩
    exact ⟨g, cap, cur, h1, Nat.le_trans hb h2, h3⟩)⟩, Nat.le_trans hb h.ge, h.few, h.small⟩
theorem res_rp {W : World} {b : Nat} {a0 a1 r : Value} {tmps : Array Value} (h : W.heap[b]? = some (.cells #[a0, a1] 46 (0, 0))) (h2 : tmps.getD 2 undef = r) (h3 : tmps.getD 3 undef = .pointer (some ⟨b, 0, none⟩)) :
    (results Tryz.f19 tmps).run Tryz.prog W = .ok (.tuple #[r, .agg #[a0, a1]]) W := by
  obtain ⟨q0, q1, _⟩ := cells2 h
  have h2' : tmps[2]?.getD undef = r := by simpa using h2
  have h3' : tmps[3]?.getD undef = .pointer (some ⟨b, 0, none⟩) := by simpa using h3
  simp [results, Tryz.f19, go_sem, h2', h3', q0, q1]
theorem take_no1 {l : List UInt8} (h : ¬ 0 ≤ hdN 58 l) : takeX l = (1, [], []) := by
  unfold takeX; rw [(hd_neg h).1, if_neg (by simp)]
theorem take_big {l : List UInt8} {j : Nat} (h : 0 ≤ hdN 58 l) (hj : hdN 58 l = (j : Int)) (hb : 10000 < j) : takeX l = (2, [], []) := by
  obtain ⟨g1, g2, _⟩ := hd_drop h
  unfold takeX
  rw [if_pos g1, if_pos (by omega)]
theorem take_no2 {l : List UInt8} {j : Nat} (h : 0 ≤ hdN 58 l) (hj : hdN 58 l = (j : Int)) (hb : ¬ 10000 < j) (hy : (lenR 58 l)[j]? ≠ some 10) : takeX l = (1, [], []) := by
  obtain ⟨g1, g2, _⟩ := hd_drop h
  have e : (lenN 58 l).toNat = j := by omega
  unfold takeX
  rw [if_pos g1, if_neg (by omega), e, if_neg hy]
theorem take_yes {l : List UInt8} {j : Nat} (h : 0 ≤ hdN 58 l) (hj : hdN 58 l = (j : Int)) (hb : ¬ 10000 < j) (hy : (lenR 58 l)[j]? = some 10) : takeX l = (0, (lenR 58 l).take j, (lenR 58 l).drop (j + 1)) := by
  obtain ⟨g1, g2, _⟩ := hd_drop h
  have e : (lenN 58 l).toNat = j := by omega
  unfold takeX
  rw [if_pos g1, if_neg (by omega), e, if_pos hy]
/-- what lies behind ReadPool -/
def RRpPost (l : List UInt8) (w : World) (er : Ending) (w' : World) : Prop :=
  if 1048576 < l.length then er = .returned (.tuple #[.pointer none, .agg #[.int .i64 2, .int .i64 (-1)]]) ∧ Below w.heap.size w w'
  else if (Pl.readF [] l).1 = 0 then ∃ p v, er = .returned (.tuple #[.pointer (some ⟨p, 0, none⟩), .agg #[.int .i64 0, .int .i64 (-1)]]) ∧ RIs w' w.heap.size p v (Pl.readF [] l).2 ∧ Below w.heap.size w w'
  else er = .returned (.tuple #[.pointer none, .agg #[.int .i64 ((Pl.readF [] l).1 : Nat), .int .i64 ((Pl.readF [] l).2.length : Nat)]]) ∧ Below w.heap.size w w'
theorem rp_bad {l : List UInt8} {w W : World} {xs : List (List UInt8)} {c : Nat} (hbig : ¬ 1048576 < l.length) (h : Pl.readF [] l = (c, xs)) (hc : c ≠ 0) (hb : Below w.heap.size w W) : RRpPost l w (.returned (.tuple #[.pointer none, .agg #[.int .i64 (c : Nat), .int .i64 (xs.length : Nat)]])) W := by
  unfold RRpPost
  rw [if_neg hbig, h, if_neg hc]
  exact ⟨rfl, hb⟩
/-- the state of the loop of ReadPool -/
structure RpAt (l0 : List UInt8) (w : World) (p : Nat) (v : Value) (xs : List (List UInt8)) (l : List UInt8) (W : World) : Prop where
  rel : Pl.readF [] l0 = Pl.readF xs l
  rl : RIs W w.heap.size p v xs
  low : Below w.heap.size w W
  len : l.length ≤ l0.length
theorem rpAt_bad {l0 : List UInt8} {w : World} {p : Nat} {v : Value} {xs : List (List UInt8)} {x : UInt8} {r : List UInt8} {W : World} {c : Nat} (h : RpAt l0 w p v xs (x :: r) W) (hc : c ≠ 0) (hn : takeX (x :: r) = (c, [], [])) : Pl.readF [] l0 = (c, xs) := by
  have hb := readF_bad1 (xs := xs) (l := x :: r) (by simp) (by rw [hn]; exact hc)
  rw [h.rel, hb, hn]
theorem rpAt_bad2 {l0 : List UInt8} {w : World} {p : Nat} {v : Value} {xs : List (List UInt8)} {x : UInt8} {r t rest : List UInt8} {W : World} {c : Nat} (h : RpAt l0 w p v xs (x :: r) W) (hn : takeX (x :: r) = (0, t, rest)) (hf : freshC xs t = c) (hc : c ≠ 0) : Pl.readF [] l0 = (c, xs) := by
  have hb := readF_bad2 (xs := xs) (l := x :: r) (by simp) (by rw [hn]) (by rw [hn, hf]; exact hc)
  rw [h.rel, hb, hn, hf]
theorem rpAt_step {l0 : List UInt8} {w : World} {p : Nat} {v : Value} {xs : List (List UInt8)} {x : UInt8} {r t rest : List UInt8} {W : World} (h : RpAt l0 w p v xs (x :: r) W) (hn : takeX (x :: r) = (0, t, rest)) (hf : freshC xs t = 0) : Pl.readF [] l0 = Pl.readF (putL xs t) rest := by
  rw [h.rel, readF_step (by simp) (by rw [hn]) (by rw [hn, hf]), hn]
theorem hd58 (r : List UInt8) (h : r.length ≤ 1048576) (W : World) : Calls Tryz.prog 49 #[.string (mk r), .int .u8 58] W fun e w' => e = .returned (.tuple #[.int .i64 (hdN 58 r), .int .i64 (hdK 58 r : Nat)]) ∧ ∃ q, w' = W.drewN q := head_any 58 r W (by omega)
set_option maxRecDepth 100000 in
set_option maxHeartbeats 4000000 in
theorem readPool_any (l : List UInt8) (w0 : World) (hs : l.length ≤ 9223372036854775000) :
    Calls Tryz.prog 19 #[.string (mk l)] w0 (RRpPost l w0) := by
  have hsz : (mk l).size = l.length := rfl
  by_cases hbig : 1048576 < l.length
  · have hb1 : (1048576 : Int) < (l.length : Int) := by omega
    have hba := fun W => bare_any 2 W
    have HBA := Lib.hid hba
    obtain ⟨w, hw⟩ : ∃ w, w0.alloc (.cells #[.int .i64 0, .int .i64 0] 46) = w := ⟨_, rfl⟩
    have hx := heap_new w0 (.cells #[.int .i64 0, .int .i64 0] 46)
    have hbw : Below w0.heap.size w0 w := by rw [← hw]; exact (Below.refl _ w0).alloc (Nat.le_refl _) _
    rw [hw] at hx
    have HX := Lib.hid hx
    have HBW := Lib.hid hbw
    have HW := Lib.hid hw
    clear hba hx hbw hw
    go_enter Tryz.func19, Tryz.ntmps19
    go_wp2_with fail
    rw [HW.out]
    (with_reducible refine (HBA.out _).mono ?_)
    rintro e1 w1 ⟨rfl, hb2⟩
    have hx1 := row_below' HX.out hb2
    obtain ⟨k0, k1, f0, f1⟩ := cells2 hx1
    have HX1 := Lib.hid hx1
    have HB2 := Lib.hid (HBW.out.trans (hb2.mono HBW.out.size))
    clear hx1 hb2
    go_wp2_with fail
    refine bodyPost_ret (res_rp (put2_row HX1.out) rfl rfl) rfl ?_
    unfold RRpPost
    rw [if_pos hbig]
    exact ⟨rfl, put2_below HB2.out (Nat.le_refl _)⟩
  · have hb1 : ¬ (1048576 : Int) < (l.length : Int) := by omega
    obtain ⟨w, hw⟩ : ∃ w, w0.alloc (.cells #[.int .i64 0, .int .i64 0] 46) = w := ⟨_, rfl⟩
    have hx := heap_new w0 (.cells #[.int .i64 0, .int .i64 0] 46)
    have hbw : Below w0.heap.size w0 w := by rw [← hw]; exact (Below.refl _ w0).alloc (Nat.le_refl _) _
    have hwz : w.heap.size = w0.heap.size + 1 := by rw [← hw]; simp
    rw [hw] at hx
    obtain ⟨W1, hW1⟩ : ∃ W1, w.alloc (.cells #[.slice none 0 0] 28) = W1 := ⟨_, rfl⟩
    have hB1 : Below w.heap.size w W1 := by rw [← hW1]; exact (Below.refl _ w).alloc (Nat.le_refl _) _
    have hx1 := heap_new w (.cells #[.slice none 0 0] 28)
    rw [hW1] at hx1
    have hat0 : RpAt l w w.heap.size (.slice none 0 0) [] l W1 := ⟨rfl, ⟨hx1, ⟨rfl, .inl ⟨rfl, rfl⟩⟩, Nat.le_refl _, by simp, by simp⟩, hB1, Nat.le_refl _⟩
    have HAT0 := Lib.hid hat0
    have HW1 := Lib.hid hW1
    have HX := Lib.hid hx
    have HBW := Lib.hid hbw
    have HWZ := Lib.hid hwz
    have HW := Lib.hid hw
    clear hat0 hx1 hB1 hW1 hsz hx hbw hwz hw
    go_enter Tryz.func19, Tryz.ntmps19
    go_wp2_with fail
    rw [HW.out, HW1.out, ← HWZ.out]
    go_loopw [0] (fun sv wr => ∃ r xs v, sv = .string (mk r) ∧ RpAt l w w.heap.size v xs r wr) (fun sv _ => (match sv with | .string s => s.size | _ => 0))
    case atStart => exact ⟨l, [], _, rfl, HAT0.out⟩
    case round =>
      obtain ⟨r, xs, v, rfl, hat⟩ := hrel
      obtain ⟨a0, c0, rfl⟩ := ownsRow_slice hat.rl.own
      have hfew := hat.rl.few
      have hxr := row_below' HX.out hat.low
      obtain ⟨b0, b1, f0, f1⟩ := cells2 hxr
      have HXR := Lib.hid hxr
      clear hxr
      cases r with
      | nil =>
        have HAT := Lib.hid hat
        have he : (mk []).size = 0 := rfl
        have hfi := fun W => fine_any W
        have HFI := Lib.hid hfi
        clear hat hfi
        go_wp2_with fail
        (with_reducible refine (HFI.out _).mono ?_)
        rintro e1 w1 ⟨rfl, hb2⟩
        have hx1 := row_below' HXR.out hb2
        obtain ⟨k0, k1, f0, f1⟩ := cells2 hx1
        have HX1 := Lib.hid hx1
        have HB2 := Lib.hid hb2
        clear hx1 hb2 b0 b1
        go_wp2_with fail
        refine bodyPost_ret (res_rp (put2_row HX1.out) rfl rfl) rfl ?_
        unfold RRpPost
        rw [if_neg hbig, HAT.out.rel, Pl.readF_nil, if_pos rfl]
        have hlow1 := HAT.out.low.trans (HB2.out.mono HAT.out.low.size)
        refine ⟨w.heap.size, .slice a0 xs.length c0, rfl, ?_, put2_below (HBW.out.trans (hlow1.mono HBW.out.size)) (Nat.le_refl _)⟩
        have hr1 := HAT.out.rl.below HB2.out
        have hfar := ((Far.refl (fun k => k = w0.heap.size) w1).set (p := ⟨w0.heap.size, 0, none⟩) rfl (.int .i64 0)).set (p := ⟨w0.heap.size, 1, none⟩) rfl (.int .i64 (-1))
        refine rIs_base_le (hr1.far hfar ?_ ?_) (by rw [HWZ.out]; omega)
        · have := HWZ.out; omega
        · intro g hg e
          have h1 := own_ge hr1.own hg
          have := HWZ.out
          omega
      | cons x r0 =>
        have hlen := hat.len
        obtain ⟨r, hr⟩ : ∃ r, x :: r0 = r := ⟨_, rfl⟩
        have hbd1 := fun c (h1 : c ≠ 0) h2 => rpAt_bad (c := c) hat h1 h2
        have hbd2 := fun c t rest h1 h2 h3 => rpAt_bad2 (t := t) (rest := rest) (c := c) hat h1 h2 h3
        have hstp := fun t rest h1 h2 => rpAt_step (t := t) (rest := rest) hat h1 h2
        have hrne : 1 ≤ r.length := by rw [← hr]; simp
        rw [hr] at hat hlen hbd1 hbd2 hstp ⊢
        obtain ⟨S, hS⟩ : ∃ S, mk r = S := ⟨_, rfl⟩
        have hsz : S.size = r.length := by rw [← hS]; rfl
        have h0 : (0 : Int) < (S.size : Int) := by omega
        have hSs : S.size ≤ 2000000 := by omega
        have hsl : ∀ (a n : Nat), a + n ≤ S.size → S.extract a (a + n) = mk ((r.drop a).take n) := fun a n h => mk_of (by
          rw [ext_mid, ← hS]
          show (r.drop a).take (a + n - a) = _
          congr 1; omega)
        have hse : ∀ a : Nat, a ≤ S.size → S.extract a S.size = mk (r.drop a) := fun a h => mk_of (by
          rw [ext_mid, ← hS]
          exact List.take_of_length_le (by rw [List.length_drop]; show r.length - a ≤ (mk r).size - a; exact Nat.le_refl _))
        have HSI := Lib.hid (show ∀ (a : Nat) (y : UInt8) (h : a < S.size), r[a]? = some y → (S[a] : UInt8) = y from fun a y h hy => at_of S a y h (by rw [← hS]; exact hy))
        have hh := fun W => hd58 r (by omega) W
        rw [hS] at hh ⊢
        have HH := Lib.hid hh
        have HAT := Lib.hid hat
        have HSZ := Lib.hid hsz
        have HSL := Lib.hid hsl
        have HSE := Lib.hid hse
        have HBD1 := Lib.hid hbd1
        have HBD2 := Lib.hid hbd2
        have HSTP := Lib.hid hstp
        have kp : wr.cell? ⟨w.heap.size, 0, none⟩ = some (.slice a0 xs.length c0) := cell_of hat.rl.row rfl
        have hb0 := hat.low
        clear hat hS hsz hsl hse hr hh hbd1 hbd2 hstp
        by_cases hn5 : 0 ≤ hdN 58 r
        · obtain ⟨g1, g2, g3, g4, g5, g6⟩ := hd_drop hn5
          obtain ⟨k, hk⟩ : ∃ k, hdK 58 r = k := ⟨_, rfl⟩
          obtain ⟨j, hj⟩ : ∃ j : Nat, hdN 58 r = (j : Int) := ⟨(hdN 58 r).toNat, by omega⟩
          obtain ⟨R, hRe⟩ : ∃ R, lenR 58 r = R := ⟨_, rfl⟩
          have htb := fun h => take_big hn5 hj h
          have hno := fun a (h : R[j]? ≠ some 10) => take_no2 hn5 hj a (by rw [hRe]; exact h)
          have hye := fun a (h : R[j]? = some 10) => take_yes hn5 hj a (by rw [hRe]; exact h)
          rw [hRe] at hye g3
          rw [hk] at g3 g4 g5 HH
          rw [hj] at g2 HH
          obtain ⟨z, hz⟩ : ∃ z : Nat, z = k + j := ⟨_, rfl⟩
          obtain ⟨z1, hz1⟩ : ∃ z1 : Nat, z1 = z + 1 := ⟨_, rfl⟩
          obtain ⟨f, hf⟩ : ∃ f : Nat, f = R.length := ⟨_, rfl⟩
          have hRl : R.length = r.length - k := by rw [← g3, List.length_drop]
          have hjb : j < 1000000000 := by omega
          have hw2 : IntKind.i64.wrap ((S.size : Int) - (k : Int)) = (f : Int) := by
            rw [show (S.size : Int) - (k : Int) = (f : Int) by have := HSZ.out; omega]; exact IntWalk.i64_in _ (by omega)
          have hw3 : IntKind.i64.wrap ((k : Int) + (j : Int)) = (z : Int) := by
            rw [show (k : Int) + (j : Int) = (z : Int) by omega]; exact IntWalk.i64_in _ (by omega)
          have hw4 : IntKind.i64.wrap ((z : Int) + 1) = (z1 : Int) := by
            rw [show (z : Int) + 1 = (z1 : Int) by omega]; exact IntWalk.i64_in _ (by omega)
          have hj0 : ¬ (j : Int) < 0 := by omega
          have HG3 := Lib.hid g3
          clear hn5 g1 g2 g3 g5 g6 hk hj hRe
          by_cases hjbig : 10000 < j
          · have hjb2 : (10000 : Int) < (j : Int) := by omega
            have HBAD := Lib.hid (HBD1.out 2 (by decide) (htb hjbig))
            clear htb hno hye hjbig hz hz1 hf hRl g4
            go_wp2_with fail
            (with_reducible refine (HH.out _).mono ?_)
            rintro e5 w5 ⟨rfl, q5, rfl⟩
            go_wp2_with fail
            go_region
            go_wp2_with fail
            refine bodyPost_ret (res_rp (put2_row (row_below' HXR.out (below_draw (Below.refl _ wr) _))) rfl rfl) rfl ?_
            exact rp_bad hbig HBAD.out (by decide) (put2_below (HBW.out.trans ((below_draw hb0 _).mono HBW.out.size)) (Nat.le_refl _))
          have hjb2 : ¬ (10000 : Int) < (j : Int) := by omega
          by_cases hfj : f ≤ j
          · have HBAD := Lib.hid (HBD1.out 1 (by decide) (hno hjbig (by rw [List.getElem?_eq_none (by omega)]; simp)))
            have hfj2 : (f : Int) ≤ (j : Int) := by omega
            clear htb hno hye hjbig hfj hz hz1 hf hRl g4
            go_wp2_with fail
            (with_reducible refine (HH.out _).mono ?_)
            rintro e5 w5 ⟨rfl, q5, rfl⟩
            go_wp2_with fail
            go_region
            go_wp2_with fail
            refine bodyPost_ret (res_rp (put2_row (row_below' HXR.out (below_draw (Below.refl _ wr) _))) rfl rfl) rfl ?_
            exact rp_bad hbig HBAD.out (by decide) (put2_below (HBW.out.trans ((below_draw hb0 _).mono HBW.out.size)) (Nat.le_refl _))
          have hfj2 : ¬ (f : Int) ≤ (j : Int) := by omega
          obtain ⟨y, hy⟩ : ∃ y, R[j]? = some y := ⟨_, List.getElem?_eq_getElem (by omega)⟩
          have hzS : z < S.size := by have := HSZ.out; omega
          have hSy : (S[z] : UInt8) = y := by
            subst hz
            exact HSI.out (k + j) y hzS (by rw [← hy, ← HG3.out, List.getElem?_drop])
          have hz3 : (z : Int) < (S.size : Int) := by omega
          by_cases h10 : y = 10
          · subst h10
            have hbx := hye hjbig hy
            have hxu : S.extract k z = mk (R.take j) := by rw [hz, HSL.out k j (by have := HSZ.out; omega), HG3.out]
            have hxz : S.extract z1 S.size = mk (R.drop (j + 1)) := by
              have e : z1 = k + (j + 1) := by omega
              rw [e, HSE.out (k + (j + 1)) (by have := HSZ.out; omega), ← List.drop_drop, HG3.out]
            have hb1 : k ≤ z := by omega
            have hb2 : z ≤ S.size := by omega
            have hb3 : (k : Int) ≤ (z : Int) := by omega
            have hb4 : (z : Int) ≤ (S.size : Int) := by omega
            have hb5 : z1 ≤ S.size := by have := HSZ.out; omega
            have hb6 : (z1 : Int) ≤ (S.size : Int) := by omega
            have htl : (R.take j).length ≤ 1048576 := by rw [List.length_take]; omega
            have hrl : (R.drop (j + 1)).length < r.length := by rw [List.length_drop]; omega
            obtain ⟨T, hT⟩ : ∃ T, R.take j = T := ⟨_, rfl⟩
            obtain ⟨Z, hZ⟩ : ∃ Z, R.drop (j + 1) = Z := ⟨_, rfl⟩
            rw [hT] at hxu htl hbx
            rw [hZ] at hxz hrl hbx
            have HBX := Lib.hid hbx
            clear htb hno hye hT hZ hy hfj hjbig hz hz1 hf hRl g4 hbx
            go_wp2_with fail
            (with_reducible refine (HH.out _).mono ?_)
            rintro e5 w5 ⟨rfl, q5, rfl⟩
            have hbq := below_draw hb0 q5
            have hrq := HAT.out.rl.below (below_draw (Below.refl _ wr) q5)
            have hfr := rfresh_any _ w.heap.size w.heap.size _ xs T hrq (by omega)
            unfold RFrPost at hfr
            have HFR := Lib.hid hfr
            have HRQ := Lib.hid hrq
            have HBQ := Lib.hid hbq
            clear hfr hrq hbq
            go_wp2_with fail
            (with_reducible refine HFR.out.mono ?_)
            rintro e7 w7 ⟨v7, rfl, hr7, hf7⟩
            have hb7 : Below w.heap.size w w7 := HBQ.out.trans (hf7.below (fun k hk => by
              rcases hk with rfl | hk
              · exact Nat.le_refl _
              · exact own_ge HRQ.out.own hk.symm) HBQ.out.size)
            cases hc7 : freshC xs T with
            | succ c =>
              have hbad := HBD2.out (c + 1) T Z HBX.out hc7 (by simp)
              have hsame : putL xs T = xs := fresh_same (by rw [hc7]; simp)
              rw [hsame] at hr7
              obtain ⟨a7, c7, rfl⟩ := ownsRow_slice hr7.own
              have k7 : w7.cell? ⟨w.heap.size, 0, none⟩ = some (.slice a7 xs.length c7) := cell_of hr7.row rfl
              have HBAD := Lib.hid hbad
              have HB7 := Lib.hid hb7
              clear hbad hsame hr7 hf7 hb7 hc7 HFR kp
              have hx7 := row_below' HX.out HB7.out
              obtain ⟨b0, b1, f0, f1⟩ := cells2 hx7
              have HX7 := Lib.hid hx7
              clear hx7
              go_wp2_with fail
              go_region
              go_wp2_with fail
              refine bodyPost_ret (res_rp (put2_row (row_below' HX7.out (below_draw (Below.refl _ w7) 1))) rfl rfl) rfl ?_
              exact rp_bad hbig HBAD.out (by simp) (put2_below (HBW.out.trans ((below_draw HB7.out 1).mono HBW.out.size)) (Nat.le_refl _))
            | zero =>
              have hst := HSTP.out T Z HBX.out hc7
              have hat7 : RpAt l w w.heap.size v7 (putL xs T) Z w7 := ⟨hst, hr7, hb7, by omega⟩
              have HAT7 := Lib.hid hat7
              have HRL := Lib.hid hrl
              clear hst hat7 hr7 hf7 hb7 hc7 HFR kp
              go_wp2_with fail
              go_roundw
              case rel => exact ⟨Z, putL xs T, v7, rfl, HAT7.out⟩
              case measure =>
                have h1 := HRL.out
                have h2 := HSZ.out
                show (mk Z).size < S.size
                have h3 : (mk Z).size = Z.length := rfl
                omega
          · have HBAD := Lib.hid (HBD1.out 1 (by decide) (hno hjbig (by rw [hy]; simpa using h10)))
            have hy3 : ((y.toNat : Int) != 10) = true := by
              rw [bne_iff_ne]
              intro e
              exact h10 (UInt8.toNat_inj.1 (by show y.toNat = 10; omega))
            clear htb hno hye hjbig hfj hz hz1 hf hRl g4 hy h10
            go_wp2_with fail
            (with_reducible refine (HH.out _).mono ?_)
            rintro e5 w5 ⟨rfl, q5, rfl⟩
            go_wp2_with fail
            go_region
            go_wp2_with fail
            refine bodyPost_ret (res_rp (put2_row (row_below' HXR.out (below_draw (Below.refl _ wr) _))) rfl rfl) rfl ?_
            exact rp_bad hbig HBAD.out (by decide) (put2_below (HBW.out.trans ((below_draw hb0 _).mono HBW.out.size)) (Nat.le_refl _))
        · have HBAD := Lib.hid (HBD1.out 1 (by decide) (take_no1 hn5))
          have hn6 : hdN 58 r < 0 := by omega
          clear hn5
          go_wp2_with fail
          (with_reducible refine (HH.out _).mono ?_)
          rintro e5 w5 ⟨rfl, q5, rfl⟩
          go_wp2_with fail
          go_region
          go_wp2_with fail
          refine bodyPost_ret (res_rp (put2_row (row_below' HXR.out (below_draw (Below.refl _ wr) _))) rfl rfl) rfl ?_
          exact rp_bad hbig HBAD.out (by decide) (put2_below (HBW.out.trans ((below_draw hb0 _).mono HBW.out.size)) (Nat.le_refl _))
end Rp
end Go.Proofs.YtmlndamkcipebaaGreatDoor
