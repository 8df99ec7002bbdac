/- The walk of the law PackJoins. -/
import Derived.Test.YtmlndamkcipebaaDoorApply
import Derived.Test.YtmlndamkcipebaaDoorTapeOne
namespace Go.Proofs.YtmlndamkcipebaaDoor
open Go Go.RowKit Lmd
namespace Pk
open Rul Day Tp Cand

/-- what the laws of deltas stand on -/
structure PEnv (w : World) (e : Nat → Addr) (m : Int) : Prop where
  ep : EP w e
  lib : ELib w
  tab : Lib.TabIs Tryd.prog w "internal/strconv.uint64pow10" .u64 Lib.pow10Tab
  ml : w.cell? ⟨13, 0, none⟩ = some (.int .i64 m)
theorem PEnv.below {w w' : World} {e : Nat → Addr} {m : Int} (h : PEnv w e m) (hb : Below w.heap.size w w') : PEnv w' e m :=
  ⟨h.ep.below hb, h.lib.below hb, Frame.tab_below (g := 12) (by kernel_rfl) hb h.tab, cell_later hb h.ml⟩
theorem makes_len (a : List UInt8) : ∀ (l : List Op) (out t : List UInt8), (∀ o ∈ l, Fit o) → out.length ≤ 10000 → makes a l out = some t → t.length ≤ 10000
  | [], out, t, _, ho, h => by cases h; exact ho
  | o :: l, out, t, hf, ho, h => by
    simp only [makes] at h
    cases hb : badOp a out o with
    | true => rw [hb] at h; cases h
    | false =>
      rw [hb] at h
      exact makes_len a l _ t (fun o ho => hf o (by simp [ho])) (op_len (hf o (by simp)) hb).2 h
theorem apply_len (a d : List UInt8) : (apply a d).2.length ≤ 10000 := by
  unfold apply
  split
  · simp
  · rename_i l hl
    split
    · simp
    · rename_i t ht
      exact makes_len a l [] t (opsF_fit _ d l (Nat.le_refl _) hl) (by simp) ht
theorem len_dig {c : UInt8} (hc : ¬ (48 ≤ c.toNat ∧ c.toNat ≤ 57)) (n : Nat) (b : UInt8) (hn : n < 1000) (hd : Lib.decDigits n = [b]) (r : List UInt8) : lenOk c (b :: c :: r) = true ∧ lenN c (b :: c :: r) = (n : Int) ∧ lenR c (b :: c :: r) = r := by
  have h := len_of hc (n := (n : Int)) (by omega) (by omega) r
  rw [Lib.itoa_nonneg, hd] at h
  exact h
theorem dig1 : Lib.decDigits 1 = [49] := by unfold Lib.decDigits; rfl
theorem dig2 : Lib.decDigits 2 = [50] := by unfold Lib.decDigits; rfl
theorem dig3 : Lib.decDigits 3 = [51] := by unfold Lib.decDigits; rfl
theorem hello_ops : opsF [99, 49, 44, 51, 59, 105, 50, 58, 97, 98, 59] = some [⟨1, 3, []⟩, ⟨0, 2, [97, 98]⟩] := by
  obtain ⟨a1, a2, a3⟩ := len_dig (c := 44) (by decide) 1 49 (by decide) dig1 [51, 59, 105, 50, 58, 97, 98, 59]
  obtain ⟨b1, b2, b3⟩ := len_dig (c := 59) (by decide) 3 51 (by decide) dig3 [105, 50, 58, 97, 98, 59]
  obtain ⟨c1, c2, c3⟩ := len_dig (c := 58) (by decide) 2 50 (by decide) dig2 [97, 98, 59]
  have f1 : fst1 [99, 49, 44, 51, 59, 105, 50, 58, 97, 98, 59] = (true, ⟨1, 3, []⟩, [105, 50, 58, 97, 98, 59]) := by
    show (if copyOk [49, 44, 51, 59, 105, 50, 58, 97, 98, 59] = true then (true, copyOp [49, 44, 51, 59, 105, 50, 58, 97, 98, 59], copyR [49, 44, 51, 59, 105, 50, 58, 97, 98, 59]) else (false, noOp, [])) = _
    unfold copyOk copyOp copyR
    rw [a1, a2, a3, b1, b2, b3]
    rfl
  have f2 : fst1 [105, 50, 58, 97, 98, 59] = (true, ⟨0, 2, [97, 98]⟩, []) := by
    show (if insOk [50, 58, 97, 98, 59] = true then (true, insOp [50, 58, 97, 98, 59], insR [50, 58, 97, 98, 59]) else (false, noOp, [])) = _
    unfold insOk insOp insR
    rw [c1, c2, c3]
    rfl
  rw [opsF_one (by decide) (by rw [f1]), f1]
  show ((opsF [105, 50, 58, 97, 98, 59]).map _) = _
  rw [opsF_one (by decide) (by rw [f2]), f2]
  rfl
theorem hello : apply [104, 101, 108, 108, 111] [99, 49, 44, 51, 59, 105, 50, 58, 97, 98, 59] = (0, [101, 108, 108, 97, 98]) := by
  unfold apply
  rw [hello_ops]
  rfl
set_option maxRecDepth 100000 in
theorem packed_any (e : Nat → Addr) (m : Int) (w : World) (h : PEnv w e m) :
    Calls Tryd.prog 17 #[] w fun er w' => er = .returned (.bool true) ∧ Below w.heap.size w w' := by
  have ha := apply_any [104, 101, 108, 108, 111] [99, 49, 44, 51, 59, 105, 50, 58, 97, 98, 59] e m w (by decide) (by decide) h.ep h.lib h.tab h.ml
  unfold ApPost at ha
  rw [hello] at ha
  have HA := Lib.hid ha
  clear ha h
  go_enter Tryd.func17, Tryd.ntmps17
  go_wp2_with fail
  (with_reducible refine HA.out.mono ?_)
  rintro e1 w1 ⟨rfl, hb⟩
  have HB := Lib.hid hb
  clear hb HA
  simp only [errV]
  have hh : (mk [101, 108, 108, 97, 98]).toList = [101, 108, 108, 97, 98] := toListMk _
  go_wp2
  go_ret
  exact ⟨rfl, HB.out⟩
theorem mk_size (l : List UInt8) : (mk l).size = l.length := rfl
set_option maxRecDepth 100000 in
set_option maxHeartbeats 1000000 in
theorem packJoins_any (A D E : ByteArray) (e : Nat → Addr) (m : Int) (w : World) (h : PEnv w e m) :
    Calls Tryd.prog 4 #[.string A, .string D, .string E] w fun er w' => er = .returned (.bool true) ∧ Below w.heap.size w w' := by
  have hp := packed_any e m w h
  have HP := Lib.hid hp
  have HE := Lib.hid h
  clear hp h
  go_enter Tryd.func4, Tryd.ntmps4
  go_wp2_with fail
  (with_reducible refine HP.out.mono ?_)
  rintro e1 w1 ⟨rfl, hb1⟩
  have HB1 := Lib.hid hb1
  clear hb1 HP
  by_cases hA : (500 : Int) < (A.size : Int)
  · go_wp2
    go_ret
    exact ⟨rfl, HB1.out⟩
  by_cases hD : (500 : Int) < (D.size : Int)
  · go_wp2
    go_ret
    exact ⟨rfl, HB1.out⟩
  by_cases hE : (500 : Int) < (E.size : Int)
  · go_wp2
    go_ret
    exact ⟨rfl, HB1.out⟩
  obtain ⟨a, rfl⟩ : ∃ a, A = mk a := ⟨_, mk_self A⟩
  obtain ⟨d, rfl⟩ : ∃ d, D = mk d := ⟨_, mk_self D⟩
  obtain ⟨f, rfl⟩ : ∃ f, E = mk f := ⟨_, mk_self E⟩
  have la : a.length ≤ 500 := by rw [mk_size] at hA; omega
  have ld : d.length ≤ 500 := by rw [mk_size] at hD; omega
  have lf : f.length ≤ 500 := by rw [mk_size] at hE; omega
  have ha1 : ¬ (500 : Int) < (a.length : Int) := hA
  have hd1 : ¬ (500 : Int) < (d.length : Int) := hD
  have hf1 : ¬ (500 : Int) < (f.length : Int) := hE
  have LA := Lib.hid la
  have LD := Lib.hid ld
  have LF := Lib.hid lf
  have h1 := HE.out.below HB1.out
  have hap := apply_any a d e m w1 (by omega) (by omega) h1.ep h1.lib h1.tab h1.ml
  have HAP := Lib.hid hap
  clear la ld lf h1 hap
  go_wp2_with fail
  (with_reducible refine HAP.out.mono ?_)
  rintro e2 w2 ⟨rfl, hb2⟩
  have hB2 := HB1.out.trans (hb2.mono HB1.out.size)
  have h2 := HE.out.below hB2
  have la := LA.out
  have lf := LF.out
  have ld := LD.out
  have haq := apply_any a f e m w2 (by omega) (by omega) h2.ep h2.lib h2.tab h2.ml
  have HAQ := Lib.hid haq
  have HB2 := Lib.hid hB2
  clear la ld lf h2 haq hb2 hB2 HAP
  go_wp2_with fail
  (with_reducible refine HAQ.out.mono ?_)
  rintro e3 w3 ⟨rfl, hb3⟩
  have hB3 := HB2.out.trans (hb3.mono HB2.out.size)
  have h3 := HE.out.below hB3
  have la := LA.out
  have lf := LF.out
  have ld := LD.out
  have har := apply_any a (d ++ f) e m w3 (by omega) (by rw [List.length_append]; omega) h3.ep h3.lib h3.tab h3.ml
  rw [← mk_cat] at har
  have HAR := Lib.hid har
  have HB3 := Lib.hid hB3
  clear la ld lf h3 har hb3 hB3 HAQ
  go_wp2_with fail
  (with_reducible refine HAR.out.mono ?_)
  rintro e4 w4 ⟨rfl, hb4⟩
  have hB4 := HB3.out.trans (hb4.mono HB3.out.size)
  have HB4 := Lib.hid hB4
  clear hb4 hB4 HAR
  cases hc1 : (apply a d).1 with
  | succ k =>
    have hs := apply_bad (a := a) (d := d) (by omega)
    rw [hs]
    have hh : (mk []).toList = [] := toListMk _
    clear hc1 hs
    cases hc2 : (apply a f).1 with
    | succ j =>
      clear hc2
      simp only [errV]
      go_wp2 <;> (go_ret; exact ⟨rfl, HB4.out⟩)
    | zero =>
      clear hc2
      simp only [errV]
      go_wp2 <;> (go_ret; exact ⟨rfl, HB4.out⟩)
  | zero =>
    cases hc2 : (apply a f).1 with
    | succ k =>
      clear hc1 hc2
      simp only [errV]
      go_wp2 <;> (go_ret; exact ⟨rfl, HB4.out⟩)
    | zero =>
      have hl1 := apply_len a d
      have hl2 := apply_len a f
      have hw := IntWalk.i64_in (((apply a d).2.length : Int) + ((apply a f).2.length : Int)) (by omega)
      rcases apply_join hc1 hc2 with ⟨hc3, hgt⟩ | ⟨hc3, hu⟩
      · cases hc4 : (apply a (d ++ f)).1 with
        | zero => exact absurd hc4 hc3
        | succ k =>
          have hgt2 : decide ((10000 : Int) < ((apply a d).2.length : Int) + ((apply a f).2.length : Int)) = true := decide_eq_true (by omega)
          clear hc1 hc2 hc3 hc4 hgt hl1 hl2
          simp only [errV]
          go_wp2 <;> (go_ret; exact ⟨rfl, HB4.out⟩)
      · rw [hc3, hu, ← mk_cat]
        clear hc1 hc2 hc3 hu
        simp only [errV]
        go_wp2 <;> (go_ret; exact ⟨rfl, HB4.out⟩)
end Pk
end Go.Proofs.YtmlndamkcipebaaDoor
