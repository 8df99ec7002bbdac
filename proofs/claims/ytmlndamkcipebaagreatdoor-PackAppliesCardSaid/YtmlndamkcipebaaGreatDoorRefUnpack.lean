/- The reference's UnpackOf. (Printed by gen_refunpack.py.) -/
import Derived.Test.YtmlndamkcipebaaGreatDoorRefPool2
import Derived.Test.YtmlndamkcipebaaGreatDoorUnpack
namespace Go.Proofs.YtmlndamkcipebaaGreatDoor
open Go Go.RowKit Lmd
namespace Rp
open Rul Day Cand Tp Pl Pk Rf

theorem cells2 {w : World} {b : Nat} {a0 a1 : Value} {t : TypeId} (h : w.heap[b]? = some (.cells #[a0, a1] t (0, 0))) :
    w.cell? ⟨b, 0, none⟩ = some a0 ∧ w.cell? ⟨b, 1, none⟩ = some a1 ∧ w.frozen? ⟨b, 0, none⟩ = false ∧ w.frozen? ⟨b, 1, none⟩ = false := by
  simp [World.cell?, World.frozen?, h]
theorem put2_row {W : World} {b : Nat} {c0 c1 : Value} {t : TypeId} (h : W.heap[b]? = some (.cells #[c0, c1] t (0, 0))) {a0 a1 : Value} : ((W.setCell ⟨b, 0, none⟩ a0).setCell ⟨b, 1, none⟩ a1).heap[b]? = some (.cells #[a0, a1] t (0, 0)) :=
  row_set (row_set h 0 a0) 1 a1
theorem put2_below {B b : Nat} {w W : World} (h : Below B w W) (hb : B ≤ b) {a0 a1 : Value} : Below B w ((W.setCell ⟨b, 0, none⟩ a0).setCell ⟨b, 1, none⟩ a1) :=
  (h.setCell (p := ⟨b, 0, none⟩) hb a0).setCell (p := ⟨b, 1, none⟩) hb a1
theorem res_bare {W : World} {b : Nat} {a0 a1 : Value} {tmps : Array Value} (h : W.heap[b]? = some (.cells #[a0, a1] 46 (0, 0))) (h2 : tmps.getD 2 undef = .pointer (some ⟨b, 0, none⟩)) :
    (results Tryz.f48 tmps).run Tryz.prog W = .ok (.agg #[a0, a1]) W := by
  obtain ⟨q0, q1, _⟩ := cells2 h
  have h2' : tmps[2]?.getD undef = .pointer (some ⟨b, 0, none⟩) := by simpa using h2
  simp [results, Tryz.f48, go_sem, h2', q0, q1]
theorem res_fine {W : World} {b : Nat} {a0 a1 : Value} {tmps : Array Value} (h : W.heap[b]? = some (.cells #[a0, a1] 46 (0, 0))) (h2 : tmps.getD 0 undef = .pointer (some ⟨b, 0, none⟩)) :
    (results Tryz.f51 tmps).run Tryz.prog W = .ok (.agg #[a0, a1]) W := by
  obtain ⟨q0, q1, _⟩ := cells2 h
  have h2' : tmps[0]?.getD undef = .pointer (some ⟨b, 0, none⟩) := by simpa using h2
  simp [results, Tryz.f51, go_sem, h2', q0, q1]
theorem res_unp {W : World} {b : Nat} {a0 a1 r : Value} {tmps : Array Value} (h : W.heap[b]? = some (.cells #[a0, a1] 46 (0, 0))) (h2 : tmps.getD 2 undef = r) (h3 : tmps.getD 3 undef = .pointer (some ⟨b, 0, none⟩)) :
    (results Tryz.f37 tmps).run Tryz.prog W = .ok (.tuple #[r, .agg #[a0, a1]]) W := by
  obtain ⟨q0, q1, _⟩ := cells2 h
  have h2' : tmps[2]?.getD undef = r := by simpa using h2
  have h3' : tmps[3]?.getD undef = .pointer (some ⟨b, 0, none⟩) := by simpa using h3
  simp [results, Tryz.f37, go_sem, h2', h3', q0, q1]
theorem bare_any (c : Int) (w : World) : Calls Tryz.prog 48 #[.int .i64 c] w fun e w' => e = .returned (.agg #[.int .i64 c, .int .i64 (-1)]) ∧ Below w.heap.size w w' := by
  have hx := heap_new w (.cells #[.int .i64 0, .int .i64 0] 46)
  obtain ⟨k0, k1, f0, f1⟩ := cells2 hx
  have HX := Lib.hid hx
  clear hx
  go_enter Tryz.func48, Tryz.ntmps48
  go_wp2
  exact bodyPost_ret (res_bare (heap_new w _) rfl) rfl ⟨rfl, (Below.refl _ w).alloc (Nat.le_refl _) _⟩
theorem fine_any (w : World) : Calls Tryz.prog 51 #[] w fun e w' => e = .returned (.agg #[.int .i64 0, .int .i64 (-1)]) ∧ Below w.heap.size w w' := by
  have hx := heap_new w (.cells #[.int .i64 0, .int .i64 0] 46)
  obtain ⟨k0, k1, f0, f1⟩ := cells2 hx
  have HX := Lib.hid hx
  clear hx
  go_enter Tryz.func51, Tryz.ntmps51
  go_wp2
  exact bodyPost_ret (res_fine (heap_new w _) rfl) rfl ⟨rfl, (Below.refl _ w).alloc (Nat.le_refl _) _⟩
theorem body_no1 {l : List UInt8} (h : ¬ 0 ≤ hdN 58 l) : (bodyX l).1 = false := by
  unfold bodyX
  rw [(hd_neg h).1, if_neg (by simp)]
theorem body_no2 {l : List UInt8} {j : Nat} (h : 0 ≤ hdN 58 l) (hj : hdN 58 l = (j : Int)) (hy : (lenR 58 l)[j]? ≠ some 10) : (bodyX l).1 = false := by
  obtain ⟨g1, g2, _⟩ := hd_drop h
  have e : (lenN 58 l).toNat = j := by omega
  unfold bodyX
  rw [e, if_neg]
  rintro ⟨_, h2⟩
  exact hy h2
theorem body_yes {l : List UInt8} {j : Nat} (h : 0 ≤ hdN 58 l) (hj : hdN 58 l = (j : Int)) (hy : (lenR 58 l)[j]? = some 10) : bodyX l = (true, (lenR 58 l).take j, (lenR 58 l).drop (j + 1)) := by
  obtain ⟨g1, g2, _⟩ := hd_drop h
  have e : (lenN 58 l).toNat = j := by omega
  unfold bodyX
  rw [e, if_pos ⟨g1, hy⟩]
/-- what lies behind UnpackOf -/
def RUnpPost (l : List UInt8) (w : World) (er : Ending) (w' : World) : Prop :=
  if 1048576 < l.length then er = .returned (.tuple #[.pointer none, .agg #[.int .i64 2, .int .i64 (-1)]]) ∧ Below w.heap.size w w'
  else if (unpF [] l).1 = 0 then ∃ p v, er = .returned (.tuple #[.pointer (some ⟨p, 0, none⟩), .agg #[.int .i64 0, .int .i64 (-1)]]) ∧ RIs w' w.heap.size p v (unpF [] l).2 ∧ Below w.heap.size w w'
  else er = .returned (.tuple #[.pointer none, .agg #[.int .i64 ((unpF [] l).1 : Nat), .int .i64 ((unpF [] l).2.length : Nat)]]) ∧ Below w.heap.size w w'
theorem run_bad {l : List UInt8} {w W : World} {xs : List (List UInt8)} {c : Nat} (hbig : ¬ 1048576 < l.length) (h : unpF [] l = (c, xs)) (hc : c ≠ 0) (hb : Below w.heap.size w W) : RUnpPost l w (.returned (.tuple #[.pointer none, .agg #[.int .i64 (c : Nat), .int .i64 (xs.length : Nat)]])) W := by
  unfold RUnpPost
  rw [if_neg hbig, h, if_neg hc]
  exact ⟨rfl, hb⟩
/-- the state of the loop of UnpackOf -/
structure RUnAt (l0 : List UInt8) (w : World) (p : Nat) (v : Value) (xs : List (List UInt8)) (l : List UInt8) (W : World) : Prop where
  rel : unpF [] l0 = unpF xs l
  rl : RIs W w.heap.size p v xs
  low : Below w.heap.size w W
  len : l.length ≤ l0.length
theorem RUnAt.bad {l0 : List UInt8} {w : World} {p : Nat} {v : Value} {xs : List (List UInt8)} {x : UInt8} {r : List UInt8} {W : World} {c : Nat} (h : RUnAt l0 w p v xs (x :: r) W) (hc : c ≠ 0) (hn : (nextX xs (x :: r)).1 = c) : unpF [] l0 = (c, xs) := by
  rw [h.rel, unpF_bad1 (by simp) (by rw [hn]; exact hc), hn]
theorem RUnAt.bad2 {l0 : List UInt8} {w : World} {p : Nat} {v : Value} {xs : List (List UInt8)} {x : UInt8} {r t rest : List UInt8} {W : World} {c : Nat} (h : RUnAt l0 w p v xs (x :: r) W) (hn : nextX xs (x :: r) = (0, t, rest)) (hf : freshC xs t = c) (hc : c ≠ 0) : unpF [] l0 = (c, xs) := by
  have hb := unpF_bad2 (xs := xs) (l := x :: r) (by simp) (by rw [hn]) (by rw [hn, hf]; exact hc)
  rw [h.rel, hb, hn, hf]
theorem RUnAt.step {l0 : List UInt8} {w : World} {p : Nat} {v : Value} {xs : List (List UInt8)} {x : UInt8} {r t rest : List UInt8} {W : World} (h : RUnAt l0 w p v xs (x :: r) W) (hn : nextX xs (x :: r) = (0, t, rest)) (hf : freshC xs t = 0) : unpF [] l0 = unpF (putL xs t) rest := by
  rw [h.rel, unpF_step (by simp) (by rw [hn]) (by rw [hn, hf]), hn]
theorem RIs.base_le {w : World} {base b2 p : Nat} {v : Value} {xs : List (List UInt8)} (h : RIs w base p v xs) (hb : b2 ≤ base) : RIs w b2 p v xs :=
  ⟨h.row, ⟨h.own.1, h.own.2.imp id (by
    rintro ⟨g, cap, cur, h1, h2, h3⟩
    exact ⟨g, cap, cur, h1, Nat.le_trans hb h2, h3⟩)⟩, Nat.le_trans hb h.ge, h.few, h.small⟩
set_option maxRecDepth 100000 in
set_option maxHeartbeats 2000000 in
theorem unpackOf_any (l : List UInt8) (w0 : World) (hs : l.length ≤ 9223372036854775000) :
    Calls Tryz.prog 37 #[.string (mk l)] w0 (RUnpPost l w0) := by
  have hsz : (mk l).size = l.length := rfl
  by_cases hbig : 1048576 < l.length
  · have hb1 : (1048576 : Int) < (l.length : Int) := by omega
    have hba := fun W => bare_any 2 W
    have HBA := Lib.hid hba
    obtain ⟨w, hw⟩ : ∃ w, w0.alloc (.cells #[.int .i64 0, .int .i64 0] 46) = w := ⟨_, rfl⟩
    have hx := heap_new w0 (.cells #[.int .i64 0, .int .i64 0] 46)
    have hbw : Below w0.heap.size w0 w := by rw [← hw]; exact (Below.refl _ w0).alloc (Nat.le_refl _) _
    rw [hw] at hx
    have HX := Lib.hid hx
    have HBW := Lib.hid hbw
    have HW := Lib.hid hw
    clear hba hx hbw hw
    go_enter Tryz.func37, Tryz.ntmps37
    go_wp2_with fail
    rw [HW.out]
    (with_reducible refine (HBA.out _).mono ?_)
    rintro e1 w1 ⟨rfl, hb2⟩
    have hx1 := row_below' HX.out hb2
    obtain ⟨k0, k1, f0, f1⟩ := cells2 hx1
    have HX1 := Lib.hid hx1
    have HB2 := Lib.hid (HBW.out.trans (hb2.mono HBW.out.size))
    clear hx1 hb2
    go_wp2_with fail
    refine bodyPost_ret (res_unp (put2_row HX1.out) rfl rfl) rfl ?_
    unfold RUnpPost
    rw [if_pos hbig]
    exact ⟨rfl, put2_below HB2.out (Nat.le_refl _)⟩
  · have hb1 : ¬ (1048576 : Int) < (l.length : Int) := by omega
    obtain ⟨w, hw⟩ : ∃ w, w0.alloc (.cells #[.int .i64 0, .int .i64 0] 46) = w := ⟨_, rfl⟩
    have hx := heap_new w0 (.cells #[.int .i64 0, .int .i64 0] 46)
    have hbw : Below w0.heap.size w0 w := by rw [← hw]; exact (Below.refl _ w0).alloc (Nat.le_refl _) _
    have hwz : w.heap.size = w0.heap.size + 1 := by rw [← hw]; simp
    rw [hw] at hx
    obtain ⟨W1, hW1⟩ : ∃ W1, w.alloc (.cells #[.slice none 0 0] 28) = W1 := ⟨_, rfl⟩
    have hB1 : Below w.heap.size w W1 := by rw [← hW1]; exact (Below.refl _ w).alloc (Nat.le_refl _) _
    have hx1 := heap_new w (.cells #[.slice none 0 0] 28)
    rw [hW1] at hx1
    have hat0 : RUnAt l w w.heap.size (.slice none 0 0) [] l W1 := ⟨rfl, ⟨hx1, ⟨rfl, .inl ⟨rfl, rfl⟩⟩, Nat.le_refl _, by simp, by simp⟩, hB1, Nat.le_refl _⟩
    have HAT0 := Lib.hid hat0
    have HW1 := Lib.hid hW1
    have HX := Lib.hid hx
    have HBW := Lib.hid hbw
    have HWZ := Lib.hid hwz
    have HW := Lib.hid hw
    clear hat0 hx1 hB1 hW1 hsz hx hbw hwz hw
    go_enter Tryz.func37, Tryz.ntmps37
    go_wp2_with fail
    rw [HW.out, HW1.out, ← HWZ.out]
    go_loopw [0] (fun sv wr => ∃ r xs v, sv = .string (mk r) ∧ RUnAt l w w.heap.size v xs r wr) (fun sv _ => (match sv with | .string s => s.size | _ => 0))
    case atStart => exact ⟨l, [], _, rfl, HAT0.out⟩
    case round =>
      obtain ⟨r, xs, v, rfl, hat⟩ := hrel
      obtain ⟨a0, c0, rfl⟩ := ownsRow_slice hat.rl.own
      have hfew := hat.rl.few
      have hxr := row_below' HX.out hat.low
      obtain ⟨b0, b1, f0, f1⟩ := cells2 hxr
      have HXR := Lib.hid hxr
      clear hxr
      cases r with
      | nil =>
        have HAT := Lib.hid hat
        have he : (mk []).size = 0 := rfl
        have hfi := fun W => fine_any W
        have HFI := Lib.hid hfi
        clear hat hfi
        go_wp2_with fail
        (with_reducible refine (HFI.out _).mono ?_)
        rintro e1 w1 ⟨rfl, hb2⟩
        have hx1 := row_below' HXR.out hb2
        obtain ⟨k0, k1, f0, f1⟩ := cells2 hx1
        have HX1 := Lib.hid hx1
        have HB2 := Lib.hid hb2
        clear hx1 hb2 b0 b1
        go_wp2_with fail
        refine bodyPost_ret (res_unp (put2_row HX1.out) rfl rfl) rfl ?_
        unfold RUnpPost
        rw [if_neg hbig, HAT.out.rel, unpF_nil, if_pos rfl]
        have hlow1 := HAT.out.low.trans (HB2.out.mono HAT.out.low.size)
        refine ⟨w.heap.size, .slice a0 xs.length c0, rfl, ?_, put2_below (HBW.out.trans (hlow1.mono HBW.out.size)) (Nat.le_refl _)⟩
        have hr1 := HAT.out.rl.below HB2.out
        have hfar := ((Far.refl (fun k => k = w0.heap.size) w1).set (p := ⟨w0.heap.size, 0, none⟩) rfl (.int .i64 0)).set (p := ⟨w0.heap.size, 1, none⟩) rfl (.int .i64 (-1))
        refine (hr1.far hfar ?_ ?_).base_le (by rw [HWZ.out]; omega)
        · have := HWZ.out; omega
        · intro g hg e
          have h1 := own_ge hr1.own hg
          have := HWZ.out
          omega
      | cons x r =>
        have hlen := hat.len
        rw [List.length_cons] at hlen
        obtain ⟨S, hS⟩ : ∃ S, mk (x :: r) = S := ⟨_, rfl⟩
        have hsz : S.size = r.length + 1 := by rw [← hS]; simp [ByteArray.size]
        have h0 : 0 < S.size := by omega
        have h1s : 1 ≤ S.size := by omega
        have hSs : S.size ≤ 2000000 := by omega
        have hSx : (S[0] : UInt8) = x := at_of S 0 x h0 (by rw [← hS]; rfl)
        have hext : S.extract 1 S.size = mk r := mk_of (by rw [ext_mid, ← hS]; simp [ByteArray.size])
        have hsl : ∀ (a n : Nat), 1 + a + n ≤ S.size → S.extract (1 + a) (1 + a + n) = mk ((r.drop a).take n) := fun a n h => mk_of (by
          rw [ext_mid, ← hS]
          show ((x :: r).drop (1 + a)).take (1 + a + n - (1 + a)) = _
          rw [Nat.add_comm 1 a, List.drop_succ_cons]
          congr 1; omega)
        have hse : ∀ a : Nat, 1 + a ≤ S.size → S.extract (1 + a) S.size = mk (r.drop a) := fun a h => mk_of (by
          rw [ext_mid, ← hS]
          show ((x :: r).drop (1 + a)).take ((x :: r).length - (1 + a)) = _
          rw [Nat.add_comm 1 a, List.drop_succ_cons]
          exact List.take_of_length_le (by rw [List.length_drop, List.length_cons]; omega))
        have HSI := Lib.hid (show ∀ (a : Nat) (y : UInt8) (h : 1 + a < S.size), r[a]? = some y → (S[1 + a] : UInt8) = y from fun a y h hy => at_of S (1 + a) y h (by rw [← hS, Nat.add_comm]; simpa using hy))
        rw [hS]
        have HAT := Lib.hid hat
        have HSZ := Lib.hid hsz
        have HSL := Lib.hid hsl
        have HSE := Lib.hid hse
        have kp : wr.cell? ⟨w.heap.size, 0, none⟩ = some (.slice a0 xs.length c0) := cell_of hat.rl.row rfl
        have hb0 := hat.low
        have hlim : r.length ≤ 1048576 := by omega
        clear hat hS hsz hsl hse
        by_cases hc : x = 61
        · subst hc
          have hrl0 : r.length ≤ 1048576 := by omega
          have HU := Lib.hid (show (1 : Nat) = 1 + 0 from rfl)
          have hh2 := h58 r (by omega)
          have HH2 := Lib.hid hh2
          clear hh2
          go_wp2_with fail
          (with_reducible refine (HH2.out _).mono ?_)
          rintro e5 w5 ⟨rfl, q5, rfl⟩
          clear HH2
          by_cases hn5 : 0 ≤ hdN 58 r
          · have hu := HU.out
            obtain ⟨g1, g2, g3, g4, g5, g6⟩ := hd_drop hn5
            obtain ⟨k2, hk2⟩ : ∃ k, hdK 58 r = k := ⟨_, rfl⟩
            obtain ⟨j, hj⟩ : ∃ j : Nat, hdN 58 r = (j : Int) := ⟨(hdN 58 r).toNat, by omega⟩
            obtain ⟨R, hRe⟩ : ∃ R, lenR 58 r = R := ⟨_, rfl⟩
            have hno := fun (h : R[j]? ≠ some 10) => body_no2 hn5 hj (by rw [hRe]; exact h)
            have hye := fun (h : R[j]? = some 10) => body_yes hn5 hj (by rw [hRe]; exact h)
            rw [hRe] at hye
            rw [hk2] at g3 g4 g5 ⊢
            rw [hj] at g2 ⊢
            rw [hRe] at g3
            obtain ⟨u2, hu2⟩ : ∃ u2 : Nat, u2 = 1 + (0 + k2) := ⟨_, rfl⟩
            obtain ⟨z, hz⟩ : ∃ z : Nat, z = 1 + (0 + k2) + j := ⟨_, rfl⟩
            obtain ⟨z1, hz1⟩ : ∃ z1 : Nat, z1 = 1 + (0 + k2 + (j + 1)) := ⟨_, rfl⟩
            obtain ⟨f, hf⟩ : ∃ f : Nat, f = R.length := ⟨_, rfl⟩
            have hRd : r.drop (0 + k2) = R := by rw [← List.drop_drop, List.drop_zero, g3]
            have hRl : R.length = r.length - (0 + k2) := by rw [← hRd, List.length_drop]
            have hkr : 0 + k2 ≤ r.length := by
              omega
            have hjb : j < 1000000000 := by omega
            have hw1 : IntKind.i64.wrap ((1 : Int) + (k2 : Int)) = (u2 : Int) := by
              rw [show (1 : Int) + (k2 : Int) = (u2 : Int) by omega]; exact IntWalk.i64_in _ (by omega)
            have hw2 : IntKind.i64.wrap ((S.size : Int) - (u2 : Int)) = (f : Int) := by
              rw [show (S.size : Int) - (u2 : Int) = (f : Int) by have := HSZ.out; omega]; exact IntWalk.i64_in _ (by omega)
            have hw3 : IntKind.i64.wrap ((u2 : Int) + (j : Int)) = (z : Int) := by
              rw [show (u2 : Int) + (j : Int) = (z : Int) by omega]; exact IntWalk.i64_in _ (by omega)
            have hw4 : IntKind.i64.wrap ((z : Int) + 1) = (z1 : Int) := by
              rw [show (z : Int) + 1 = (z1 : Int) by omega]; exact IntWalk.i64_in _ (by omega)
            have hj0 : ¬ (j : Int) < 0 := by omega
            clear hn5 g1 g2 g5 g6 hk2 hj hRe
            by_cases hfj : f ≤ j
            · have hbx := hno (by rw [List.getElem?_eq_none (by omega)]; simp)
              have hfj2 : (f : Int) ≤ (j : Int) := by omega
              have hbad := HAT.out.bad (c := 1) (by decide) (by rw [nextX_61, hbx]; rfl)
              have HBAD := Lib.hid hbad
              clear hbad hbx hno hye hfj hu hu2 hz hz1 hf hRl hRd hkr g3 g4
              go_wp2_with fail
              go_region
              go_wp2_with fail
              refine bodyPost_ret (res_unp (put2_row (row_below' HXR.out (below_draw (Below.refl _ wr) _))) rfl rfl) rfl ?_
              exact run_bad hbig HBAD.out (by decide) (put2_below (HBW.out.trans ((below_draw hb0 _).mono HBW.out.size)) (Nat.le_refl _))

            · have hfj2 : ¬ (f : Int) ≤ (j : Int) := by omega
              obtain ⟨y, hy⟩ : ∃ y, R[j]? = some y := ⟨_, List.getElem?_eq_getElem (by omega)⟩
              have hzS : z < S.size := by have := HSZ.out; omega
              have hSy : (S[z] : UInt8) = y := by
                have e : z = 1 + (0 + k2 + j) := by omega
                subst e
                exact HSI.out (0 + k2 + j) y hzS (by rw [← hy, ← hRd, List.getElem?_drop])
              have hz3 : (z : Int) < (S.size : Int) := by omega
              by_cases h10 : y = 10
              · subst h10
                have hbx := hye hy
                have hxu : S.extract u2 z = mk (R.take j) := by rw [hu2, hz, HSL.out (0 + k2) j (by have := HSZ.out; omega), hRd]
                have hxz : S.extract z1 S.size = mk (R.drop (j + 1)) := by rw [hz1, HSE.out (0 + k2 + (j + 1)) (by have := HSZ.out; omega), ← List.drop_drop, hRd]
                have hb1 : u2 ≤ z := by omega
                have hb2 : z ≤ S.size := by omega
                have hb3 : (u2 : Int) ≤ (z : Int) := by omega
                have hb4 : (z : Int) ≤ (S.size : Int) := by omega
                have hb5 : z1 ≤ S.size := by have := HSZ.out; omega
                have hb6 : (z1 : Int) ≤ (S.size : Int) := by omega
                have htl : (R.take j).length ≤ 1048576 := by rw [List.length_take]; omega
                have hrl : (R.drop (j + 1)).length ≤ r.length := by rw [List.length_drop]; omega
                obtain ⟨T, hT⟩ : ∃ T, R.take j = T := ⟨_, rfl⟩
                obtain ⟨Z, hZ⟩ : ∃ Z, R.drop (j + 1) = Z := ⟨_, rfl⟩
                rw [hT] at hxu htl hbx
                rw [hZ] at hxz hrl hbx
                clear hno hye hT hZ hy hfj hu hu2 hz hz1 hf hRl hRd hkr g3 g4
                have hnx : nextX xs (61 :: r) = (0, T, Z) := by rw [nextX_61, hbx]; rfl
                have HNX := Lib.hid hnx
                have hbq := below_draw hb0 (q5)
                have hrq := HAT.out.rl.below (below_draw (Below.refl _ wr) (q5))
                clear hbx hnx
                have hfr := rfresh_any _ w.heap.size w.heap.size _ xs T hrq (by omega)
                unfold RFrPost at hfr
                have HFR := Lib.hid hfr
                have HRQ := Lib.hid hrq
                have HBQ := Lib.hid hbq
                clear hfr hrq hbq
                go_wp2_with fail
                (with_reducible refine HFR.out.mono ?_)
                rintro e7 w7 ⟨v7, rfl, hr7, hf7⟩
                have hb7 : Below w.heap.size w w7 := HBQ.out.trans (hf7.below (fun k hk => by
                  rcases hk with rfl | hk
                  · exact Nat.le_refl _
                  · exact own_ge HRQ.out.own hk.symm) HBQ.out.size)
                cases hc7 : freshC xs T with
                | succ c =>
                  have hbad := HAT.out.bad2 HNX.out hc7 (by simp)
                  have hsame : putL xs T = xs := fresh_same (by rw [hc7]; simp)
                  rw [hsame] at hr7
                  obtain ⟨a7, c7, rfl⟩ := ownsRow_slice hr7.own
                  have k7 : w7.cell? ⟨w.heap.size, 0, none⟩ = some (.slice a7 xs.length c7) := cell_of hr7.row rfl
                  have HBAD := Lib.hid hbad
                  have HB7 := Lib.hid hb7
                  clear hbad hsame hr7 hf7 hb7 hc7 HFR kp
                  have hx7 := row_below' HX.out HB7.out
                  obtain ⟨b0, b1, f0, f1⟩ := cells2 hx7
                  have HX7 := Lib.hid hx7
                  clear hx7
                  go_wp2_with fail
                  go_region
                  go_wp2_with fail
                  refine bodyPost_ret (res_unp (put2_row (row_below' HX7.out (below_draw (Below.refl _ w7) 1))) rfl rfl) rfl ?_
                  exact run_bad hbig HBAD.out (by simp) (put2_below (HBW.out.trans ((below_draw HB7.out 1).mono HBW.out.size)) (Nat.le_refl _))
                | zero =>
                  have hst := HAT.out.step HNX.out hc7
                  have hat7 : RUnAt l w w.heap.size v7 (putL xs T) Z w7 := ⟨hst, hr7, hb7, by omega⟩
                  have HAT7 := Lib.hid hat7
                  have HRL := Lib.hid hrl
                  clear hst hat7 hr7 hf7 hb7 hc7 HFR kp
                  go_wp2_with fail
                  go_roundw
                  case rel => exact ⟨Z, putL xs T, v7, rfl, HAT7.out⟩
                  case measure =>
                    have h1 := HRL.out
                    have h2 := HSZ.out
                    show (mk Z).size < S.size
                    have h3 : (mk Z).size = Z.length := rfl
                    omega

              · have hbx := hno (by rw [hy]; simp; exact h10)
                have hy3 : ((y.toNat : Int) != 10) = true := by
                  rw [bne_iff_ne]
                  intro e
                  exact h10 (UInt8.toNat_inj.1 (by show y.toNat = 10; omega))
                have hbad := HAT.out.bad (c := 1) (by decide) (by rw [nextX_61, hbx]; rfl)
                have HBAD := Lib.hid hbad
                clear hbad hbx hno hye hy h10 hfj hu hu2 hz hz1 hf hRl hRd hkr g3 g4
                go_wp2_with fail
                go_region
                go_wp2_with fail
                refine bodyPost_ret (res_unp (put2_row (row_below' HXR.out (below_draw (Below.refl _ wr) _))) rfl rfl) rfl ?_
                exact run_bad hbig HBAD.out (by decide) (put2_below (HBW.out.trans ((below_draw hb0 _).mono HBW.out.size)) (Nat.le_refl _))

          · have hbx := body_no1 hn5
            have hn6 : hdN 58 r < 0 := by omega
            have hbad := HAT.out.bad (c := 1) (by decide) (by rw [nextX_61, hbx]; rfl)
            have HBAD := Lib.hid hbad
            clear hbad hbx hn5
            go_wp2_with fail
            go_region
            go_wp2_with fail
            refine bodyPost_ret (res_unp (put2_row (row_below' HXR.out (below_draw (Below.refl _ wr) _))) rfl rfl) rfl ?_
            exact run_bad hbig HBAD.out (by decide) (put2_below (HBW.out.trans ((below_draw hb0 _).mono HBW.out.size)) (Nat.le_refl _))
        · have hc1 : ((x.toNat : Int) == 61) = false := by
            rw [beq_eq_false_iff_ne]
            intro e
            exact hc (UInt8.toNat_inj.1 (by show x.toNat = 61; omega))
          have hc2 : ((x.toNat : Int) != 61) = true := by rw [bne, hc1]; rfl
          by_cases hi : x = 126
          · subst hi
            have hh := h58 r (by omega)
            have HH := Lib.hid hh
            clear hh hc
            go_wp2_with fail
            (with_reducible refine (HH.out _).mono ?_)
            rintro e1 w1 ⟨rfl, q, rfl⟩
            clear HH
            by_cases hn : 0 ≤ hdN 58 r
            · obtain ⟨g1, g2, g3, g4, g5, g6⟩ := hd_drop hn
              obtain ⟨k, hk⟩ : ∃ k, hdK 58 r = k := ⟨_, rfl⟩
              obtain ⟨i, hii⟩ : ∃ i : Nat, hdN 58 r = (i : Int) := ⟨(hdN 58 r).toNat, by omega⟩
              obtain ⟨R0, hR0e⟩ : ∃ R, lenR 58 r = R := ⟨_, rfl⟩
              have hli : (lenN 58 r).toNat = i := by omega
              rw [hk] at g3 g4 g5 ⊢
              rw [hii] at hn g2 ⊢
              have hR0 := g3
              rw [hR0e] at hR0
              have HLO := Lib.hid g1
              have HLR := Lib.hid hR0e
              have HLI := Lib.hid hli
              obtain ⟨u, hu⟩ : ∃ u : Nat, u = 1 + k := ⟨_, rfl⟩
              have hu1 : IntKind.i64.wrap ((1 : Int) + (k : Int)) = (u : Int) := by
                rw [show (1 : Int) + (k : Int) = (u : Int) by omega]; exact IntWalk.i64_in _ (by omega)
              have hu2' : u ≤ S.size := by have := HSZ.out; omega
              have hu3 : (u : Int) ≤ (S.size : Int) := by omega
              have hxu0 : S.extract u S.size = mk R0 := by rw [hu, HSE.out k (by have := HSZ.out; omega), hR0]
              have hib : i < 1000000000 := by omega
              have hi0 : ¬ (i : Int) < 0 := by omega
              have hR0l : R0.length ≤ 1048576 := by rw [← hR0, List.length_drop]; omega
              have HU := Lib.hid hu
              have HR0 := Lib.hid hR0
              have hkl : k ≤ 1048576 := by omega
              clear g1 g2 g3 g5 g6 hk hii hR0e hli hn hu hR0 g4
              have hh2 := h58 R0 (by omega)
              have HH2 := Lib.hid hh2
              clear hh2
              go_wp2_with fail
              (with_reducible refine (HH2.out _).mono ?_)
              rintro e5 w5 ⟨rfl, q5, rfl⟩
              clear HH2
              by_cases hn5 : 0 ≤ hdN 58 R0
              · have hu := HU.out
                obtain ⟨g1, g2, g3, g4, g5, g6⟩ := hd_drop hn5
                obtain ⟨k2, hk2⟩ : ∃ k, hdK 58 R0 = k := ⟨_, rfl⟩
                obtain ⟨j, hj⟩ : ∃ j : Nat, hdN 58 R0 = (j : Int) := ⟨(hdN 58 R0).toNat, by omega⟩
                obtain ⟨R, hRe⟩ : ∃ R, lenR 58 R0 = R := ⟨_, rfl⟩
                have hno := fun (h : R[j]? ≠ some 10) => body_no2 hn5 hj (by rw [hRe]; exact h)
                have hye := fun (h : R[j]? = some 10) => body_yes hn5 hj (by rw [hRe]; exact h)
                rw [hRe] at hye
                rw [hk2] at g3 g4 g5 ⊢
                rw [hj] at g2 ⊢
                rw [hRe] at g3
                obtain ⟨u2, hu2⟩ : ∃ u2 : Nat, u2 = 1 + (k + k2) := ⟨_, rfl⟩
                obtain ⟨z, hz⟩ : ∃ z : Nat, z = 1 + (k + k2) + j := ⟨_, rfl⟩
                obtain ⟨z1, hz1⟩ : ∃ z1 : Nat, z1 = 1 + (k + k2 + (j + 1)) := ⟨_, rfl⟩
                obtain ⟨f, hf⟩ : ∃ f : Nat, f = R.length := ⟨_, rfl⟩
                have hRd : r.drop (k + k2) = R := by rw [← List.drop_drop, HR0.out, g3]
                have hRl : R.length = r.length - (k + k2) := by rw [← hRd, List.length_drop]
                have hkr : k + k2 ≤ r.length := by
                  have h : R0.length = r.length - k := by rw [← HR0.out, List.length_drop]
                  omega
                have hjb : j < 1000000000 := by omega
                have hw1 : IntKind.i64.wrap ((u : Int) + (k2 : Int)) = (u2 : Int) := by
                  rw [show (u : Int) + (k2 : Int) = (u2 : Int) by omega]; exact IntWalk.i64_in _ (by omega)
                have hw2 : IntKind.i64.wrap ((S.size : Int) - (u2 : Int)) = (f : Int) := by
                  rw [show (S.size : Int) - (u2 : Int) = (f : Int) by have := HSZ.out; omega]; exact IntWalk.i64_in _ (by omega)
                have hw3 : IntKind.i64.wrap ((u2 : Int) + (j : Int)) = (z : Int) := by
                  rw [show (u2 : Int) + (j : Int) = (z : Int) by omega]; exact IntWalk.i64_in _ (by omega)
                have hw4 : IntKind.i64.wrap ((z : Int) + 1) = (z1 : Int) := by
                  rw [show (z : Int) + 1 = (z1 : Int) by omega]; exact IntWalk.i64_in _ (by omega)
                have hj0 : ¬ (j : Int) < 0 := by omega
                clear hn5 g1 g2 g5 g6 hk2 hj hRe
                by_cases hfj : f ≤ j
                · have hbx := hno (by rw [List.getElem?_eq_none (by omega)]; simp)
                  have hfj2 : (f : Int) ≤ (j : Int) := by omega
                  have hbad := HAT.out.bad (c := 1) (by decide) (by rw [nextX_126, viaX_bad (by rw [HLR.out, hbx]; simp)])
                  have HBAD := Lib.hid hbad
                  clear hbad hbx hno hye hfj hu hu2 hz hz1 hf hRl hRd hkr g3 g4
                  go_wp2_with fail
                  go_region
                  go_wp2_with fail
                  refine bodyPost_ret (res_unp (put2_row (row_below' HXR.out (below_draw (Below.refl _ wr) _))) rfl rfl) rfl ?_
                  exact run_bad hbig HBAD.out (by decide) (put2_below (HBW.out.trans ((below_draw hb0 _).mono HBW.out.size)) (Nat.le_refl _))

                · have hfj2 : ¬ (f : Int) ≤ (j : Int) := by omega
                  obtain ⟨y, hy⟩ : ∃ y, R[j]? = some y := ⟨_, List.getElem?_eq_getElem (by omega)⟩
                  have hzS : z < S.size := by have := HSZ.out; omega
                  have hSy : (S[z] : UInt8) = y := by
                    have e : z = 1 + (k + k2 + j) := by omega
                    subst e
                    exact HSI.out (k + k2 + j) y hzS (by rw [← hy, ← hRd, List.getElem?_drop])
                  have hz3 : (z : Int) < (S.size : Int) := by omega
                  by_cases h10 : y = 10
                  · subst h10
                    have hbx := hye hy
                    have hxu : S.extract u2 z = mk (R.take j) := by rw [hu2, hz, HSL.out (k + k2) j (by have := HSZ.out; omega), hRd]
                    have hxz : S.extract z1 S.size = mk (R.drop (j + 1)) := by rw [hz1, HSE.out (k + k2 + (j + 1)) (by have := HSZ.out; omega), ← List.drop_drop, hRd]
                    have hb1 : u2 ≤ z := by omega
                    have hb2 : z ≤ S.size := by omega
                    have hb3 : (u2 : Int) ≤ (z : Int) := by omega
                    have hb4 : (z : Int) ≤ (S.size : Int) := by omega
                    have hb5 : z1 ≤ S.size := by have := HSZ.out; omega
                    have hb6 : (z1 : Int) ≤ (S.size : Int) := by omega
                    have htl : (R.take j).length ≤ 1048576 := by rw [List.length_take]; omega
                    have hrl : (R.drop (j + 1)).length ≤ r.length := by rw [List.length_drop]; omega
                    obtain ⟨T, hT⟩ : ∃ T, R.take j = T := ⟨_, rfl⟩
                    obtain ⟨Z, hZ⟩ : ∃ Z, R.drop (j + 1) = Z := ⟨_, rfl⟩
                    rw [hT] at hxu htl hbx
                    rw [hZ] at hxz hrl hbx
                    clear hno hye hT hZ hy hfj hu hu2 hz hz1 hf hRl hRd hkr g3 g4
                    cases hxi : xs[i]? with
                    | none =>
                      have hbad := HAT.out.bad (c := 5) (by decide) (by rw [nextX_126, viaX_none HLO.out (by rw [HLR.out, hbx]) (by rw [HLI.out]; exact hxi)])
                      have hxl := List.getElem?_eq_none_iff.1 hxi
                      have hxl2 : (xs.length : Int) ≤ (i : Int) := by omega
                      have HBAD := Lib.hid hbad
                      clear hbad hbx hxi hxl
                      go_wp2_with fail
                      go_region
                      go_wp2_with fail
                      refine bodyPost_ret (res_unp (put2_row (row_below' HXR.out (below_draw (Below.refl _ wr) _))) rfl rfl) rfl ?_
                      exact run_bad hbig HBAD.out (by decide) (put2_below (HBW.out.trans ((below_draw hb0 _).mono HBW.out.size)) (Nat.le_refl _))
                    | some a =>
                      have hvs := viaX_some (xs := xs) (l := r) (a := a) HLO.out (by rw [HLR.out, hbx]) (by rw [HLI.out]; exact hxi)
                      rw [HLR.out, hbx] at hvs
                      have hvs2 : nextX xs (126 :: r) = ((apply a T).1, (apply a T).2, Z) := by rw [nextX_126]; exact hvs
                      have hxl := (List.getElem?_eq_some_iff.1 hxi).1
                      have hxl2 : ¬ (xs.length : Int) ≤ (i : Int) := by omega
                      have hxl3 : (i : Int) < (xs.length : Int) := by omega
                      have hasm := HAT.out.rl.small a (List.mem_of_getElem? hxi)
                      have hap := fun W => applyOf_any a T W (by omega) (by omega)
                      unfold RApPost at hap
                      obtain ⟨g, rfl, hcg⟩ : ∃ g, a0 = some ⟨g, 0, none⟩ ∧ wr.cell? ⟨g, i, none⟩ = some (.string (mk a)) := by
                        rcases reads_ownS HAT.out.rl.own (by simp) with ⟨h1, _⟩ | ⟨g, cap, h1, _, _, h2⟩
                        · have h : xs = [] := by simpa using h1
                          rw [h] at hxl; simp at hxl
                        · have h3 := h2 i (mk a) (by rw [List.getElem?_map, hxi]; rfl)
                          rw [Nat.zero_add] at h3
                          have hl : (xs.map mk).length = xs.length := by simp
                          rw [hl] at h1
                          exact ⟨g, by cases h1; rfl, h3⟩
                      have HVS := Lib.hid hvs2
                      have HAP := Lib.hid hap
                      clear hvs hvs2 hxi hxl hap hbx
                      go_wp2_with fail
                      (with_reducible refine (HAP.out _).mono ?_)
                      rintro e6 w6 ⟨rfl, hb6⟩
                      have hbq : Below w.heap.size w w6 := (below_draw hb0 (q + q5)).trans (hb6.mono hb0.size)
                      have hrq : RIs w6 w.heap.size w.heap.size (.slice (some ⟨g, 0, none⟩) xs.length c0) xs := (HAT.out.rl.below (below_draw (Below.refl _ wr) (q + q5))).below hb6
                      cases hc6 : (apply a T).1 with
                      | succ c =>
                        have hbad := HAT.out.bad (c := c + 1) (by simp) (by rw [HVS.out, hc6])
                        have hk6 : w6.cell? ⟨w.heap.size, 0, none⟩ = some (.slice (some ⟨g, 0, none⟩) xs.length c0) := cell_of hrq.row rfl
                        have HBAD := Lib.hid hbad
                        have HBQ := Lib.hid hbq
                        clear hbad hbq hrq hb6 hc6 HAP
                        have hx6 := row_below' HX.out HBQ.out
                        obtain ⟨b0, b1, f0, f1⟩ := cells2 hx6
                        have HX6 := Lib.hid hx6
                        clear hx6
                        go_wp2_with fail
                        go_region
                        go_wp2_with fail
                        refine bodyPost_ret (res_unp (put2_row (row_below' HX6.out (below_draw (Below.refl _ w6) 1))) rfl rfl) rfl ?_
                        exact run_bad hbig HBAD.out (by simp) (put2_below (HBW.out.trans ((below_draw HBQ.out 1).mono HBW.out.size)) (Nat.le_refl _))
                      | zero =>
                        have hl6 := apply_len a T
                        obtain ⟨T2, hT2⟩ : ∃ T2, (apply a T).2 = T2 := ⟨_, rfl⟩
                        have hnx : nextX xs (126 :: r) = (0, T2, Z) := by rw [HVS.out, hc6, hT2]
                        rw [hT2] at hl6 ⊢
                        have HNX := Lib.hid hnx
                        clear hnx hT2 hb6 hc6 HAP
                        have hfr := rfresh_any _ w.heap.size w.heap.size _ xs T2 hrq (by omega)
                        unfold RFrPost at hfr
                        have HFR := Lib.hid hfr
                        have HRQ := Lib.hid hrq
                        have HBQ := Lib.hid hbq
                        clear hfr hrq hbq
                        go_wp2_with fail
                        (with_reducible refine HFR.out.mono ?_)
                        rintro e7 w7 ⟨v7, rfl, hr7, hf7⟩
                        have hb7 : Below w.heap.size w w7 := HBQ.out.trans (hf7.below (fun k hk => by
                          rcases hk with rfl | hk
                          · exact Nat.le_refl _
                          · exact own_ge HRQ.out.own hk.symm) HBQ.out.size)
                        cases hc7 : freshC xs T2 with
                        | succ c =>
                          have hbad := HAT.out.bad2 HNX.out hc7 (by simp)
                          have hsame : putL xs T2 = xs := fresh_same (by rw [hc7]; simp)
                          rw [hsame] at hr7
                          obtain ⟨a7, c7, rfl⟩ := ownsRow_slice hr7.own
                          have k7 : w7.cell? ⟨w.heap.size, 0, none⟩ = some (.slice a7 xs.length c7) := cell_of hr7.row rfl
                          have HBAD := Lib.hid hbad
                          have HB7 := Lib.hid hb7
                          clear hbad hsame hr7 hf7 hb7 hc7 HFR kp
                          have hx7 := row_below' HX.out HB7.out
                          obtain ⟨b0, b1, f0, f1⟩ := cells2 hx7
                          have HX7 := Lib.hid hx7
                          clear hx7
                          go_wp2_with fail
                          go_region
                          go_wp2_with fail
                          refine bodyPost_ret (res_unp (put2_row (row_below' HX7.out (below_draw (Below.refl _ w7) 1))) rfl rfl) rfl ?_
                          exact run_bad hbig HBAD.out (by simp) (put2_below (HBW.out.trans ((below_draw HB7.out 1).mono HBW.out.size)) (Nat.le_refl _))
                        | zero =>
                          have hst := HAT.out.step HNX.out hc7
                          have hat7 : RUnAt l w w.heap.size v7 (putL xs T2) Z w7 := ⟨hst, hr7, hb7, by omega⟩
                          have HAT7 := Lib.hid hat7
                          have HRL := Lib.hid hrl
                          clear hst hat7 hr7 hf7 hb7 hc7 HFR kp
                          go_wp2_with fail
                          go_roundw
                          case rel => exact ⟨Z, putL xs T2, v7, rfl, HAT7.out⟩
                          case measure =>
                            have h1 := HRL.out
                            have h2 := HSZ.out
                            show (mk Z).size < S.size
                            have h3 : (mk Z).size = Z.length := rfl
                            omega

                  · have hbx := hno (by rw [hy]; simp; exact h10)
                    have hy3 : ((y.toNat : Int) != 10) = true := by
                      rw [bne_iff_ne]
                      intro e
                      exact h10 (UInt8.toNat_inj.1 (by show y.toNat = 10; omega))
                    have hbad := HAT.out.bad (c := 1) (by decide) (by rw [nextX_126, viaX_bad (by rw [HLR.out, hbx]; simp)])
                    have HBAD := Lib.hid hbad
                    clear hbad hbx hno hye hy h10 hfj hu hu2 hz hz1 hf hRl hRd hkr g3 g4
                    go_wp2_with fail
                    go_region
                    go_wp2_with fail
                    refine bodyPost_ret (res_unp (put2_row (row_below' HXR.out (below_draw (Below.refl _ wr) _))) rfl rfl) rfl ?_
                    exact run_bad hbig HBAD.out (by decide) (put2_below (HBW.out.trans ((below_draw hb0 _).mono HBW.out.size)) (Nat.le_refl _))

              · have hbx := body_no1 hn5
                have hn6 : hdN 58 R0 < 0 := by omega
                have hbad := HAT.out.bad (c := 1) (by decide) (by rw [nextX_126, viaX_bad (by rw [HLR.out, hbx]; simp)])
                have HBAD := Lib.hid hbad
                clear hbad hbx hn5
                go_wp2_with fail
                go_region
                go_wp2_with fail
                refine bodyPost_ret (res_unp (put2_row (row_below' HXR.out (below_draw (Below.refl _ wr) _))) rfl rfl) rfl ?_
                exact run_bad hbig HBAD.out (by decide) (put2_below (HBW.out.trans ((below_draw hb0 _).mono HBW.out.size)) (Nat.le_refl _))
            · have hbad := HAT.out.bad (c := 1) (by decide) (by rw [nextX_126, viaX_bad (by rw [(hd_neg hn).1]; simp)])
              have hn2 : hdN 58 r < 0 := by omega
              have HBAD := Lib.hid hbad
              clear hbad hn
              go_wp2_with fail
              go_region
              go_wp2_with fail
              refine bodyPost_ret (res_unp (put2_row (row_below' HXR.out (below_draw (Below.refl _ wr) _))) rfl rfl) rfl ?_
              exact run_bad hbig HBAD.out (by decide) (put2_below (HBW.out.trans ((below_draw hb0 _).mono HBW.out.size)) (Nat.le_refl _))
          · have hi1 : ((x.toNat : Int) == 126) = false := by
              rw [beq_eq_false_iff_ne]
              intro e
              exact hi (UInt8.toNat_inj.1 (by show x.toNat = 126; omega))
            have hn : nextX xs (x :: r) = (1, [], []) := by
              show (if x = 61 then _ else if x = 126 then _ else _) = _
              rw [if_neg hc, if_neg hi]
            have hbad := HAT.out.bad (c := 1) (by decide) (by rw [hn])
            have HBAD := Lib.hid hbad
            clear hbad hn hc hi
            go_wp2_with fail
            go_region
            go_wp2_with fail
            refine bodyPost_ret (res_unp (put2_row (row_below' HXR.out (below_draw (Below.refl _ wr) _))) rfl rfl) rfl ?_
            exact run_bad hbig HBAD.out (by decide) (put2_below (HBW.out.trans ((below_draw hb0 _).mono HBW.out.size)) (Nat.le_refl _))
end Rp
end Go.Proofs.YtmlndamkcipebaaGreatDoor
