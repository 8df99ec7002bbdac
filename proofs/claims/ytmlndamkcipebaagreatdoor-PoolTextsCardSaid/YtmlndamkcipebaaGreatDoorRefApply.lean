/- The reference's ApplyOf. -/
import Derived.Test.YtmlndamkcipebaaGreatDoorRefOps
namespace Go.Proofs.YtmlndamkcipebaaGreatDoor
open Go Go.RowKit Lmd
namespace Rf
open Rul Day Tp Cand Pk

theorem rop_cells {W : World} {base : Nat} {va : Option Addr} {vc : Nat} {l : List Pk.Op} {k : Nat} {o : Pk.Op} (h : W.ownsRow base 111 3 (.slice va l.length vc) l.length (cellsOp l)) (hk : l[k]? = some o) :
    ∃ g, va = some ⟨g, 0, none⟩ ∧ (W.cell? ⟨g, k * 3, none⟩ = some (.int .i64 o.at_) ∧ W.cell? ⟨g, k * 3 + 1, none⟩ = some (.int .i64 o.n) ∧ W.cell? ⟨g, k * 3 + 2, none⟩ = some (.string (mk o.text))) := by
  obtain ⟨h1, h2, h3⟩ := cellsOp_at l k o hk
  rw [Nat.mul_comm] at h1 h2 h3
  have hkl := (List.getElem?_eq_some_iff.1 hk).1
  rcases h.2 with ⟨e, h0⟩ | ⟨g, cap, cur, e, hb, _⟩
  · omega
  · cases e
    have hc := h.cells (g := g) rfl
    refine ⟨g, rfl, ?_, ?_, ?_⟩
    · have := hc _ _ h1
      rwa [Addr.add_lit, Nat.zero_add] at this
    · have := hc _ _ h2
      rwa [Addr.add_lit, Nat.zero_add] at this
    · have := hc _ _ h3
      rwa [Addr.add_lit, Nat.zero_add] at this
/-- what lies behind ApplyOf -/
def RApPost (a d : List UInt8) (w : World) (er : Ending) (w' : World) : Prop :=
  er = .returned (.tuple #[.string (mk (apply a d).2), .int .i64 ((apply a d).1 : Nat)]) ∧ Below w.heap.size w w'
theorem ap_bad2 {a d out : List UInt8} {l : List Pk.Op} {k : Nat} {o : Pk.Op} (ho : opsF d = some l) (hr : makes a l [] = makes a (l.drop k) out) (hk : l[k]? = some o) (hb : badOp a out o = true) : apply a d = (2, []) := by
  have hdrop : l.drop k = o :: l.drop (k + 1) := by
    obtain ⟨h1, h2⟩ := List.getElem?_eq_some_iff.1 hk
    rw [← h2]
    exact List.drop_eq_getElem_cons h1
  unfold apply
  rw [ho]
  simp only [hr, hdrop, makes, hb, if_true]
theorem ap_next {a out : List UInt8} {l : List Pk.Op} {k : Nat} {o : Pk.Op} (hr : makes a l [] = makes a (l.drop k) out) (hk : l[k]? = some o) (hb : badOp a out o = false) : makes a l [] = makes a (l.drop (k + 1)) (out ++ opBytes a o) := by
  have hdrop : l.drop k = o :: l.drop (k + 1) := by
    obtain ⟨h1, h2⟩ := List.getElem?_eq_some_iff.1 hk
    rw [← h2]
    exact List.drop_eq_getElem_cons h1
  rw [hr, hdrop]
  simp only [makes, hb, Bool.false_eq_true, if_false]
set_option maxRecDepth 100000 in
set_option maxHeartbeats 1000000 in
theorem applyOf_any (a d : List UInt8) (w : World) (ha : a.length ≤ 1100000) (hd : d.length ≤ 1100000) :
    Calls Tryz.prog 34 #[.string (mk a), .string (mk d)] w (RApPost a d w) := by
  have hops := opsOf_any d w hd
  unfold ROpsPost at hops
  have HOPS := Lib.hid hops
  obtain ⟨A, hA⟩ : ∃ A, mk a = A := ⟨_, rfl⟩
  rw [hA]
  have hAl : A.size = a.length := by rw [← hA]; simp [ByteArray.size]
  have HA := Lib.hid hA
  have HAL := Lib.hid hAl
  have hAs : A.size ≤ 1100000 := by omega
  clear hops hA hAl
  go_enter Tryz.func34, Tryz.ntmps34
  go_wp2_with fail
  (with_reducible refine HOPS.out.mono ?_)
  rintro e1 w1 ⟨v, rfl, hv, hb1⟩
  cases ho : opsF d with
  | none =>
    have hap : apply a d = (1, []) := by unfold apply; rw [ho]
    have HAP := Lib.hid hap
    have HB := Lib.hid hb1
    clear hap ho hv hb1 HOPS
    simp only [Option.isSome_none]
    go_wp2_with fail
    go_ret2
    exact ⟨by rw [HAP.out]; rfl, HB.out⟩
  | some l =>
    have hown := hv l ho
    obtain ⟨va, vc, rfl⟩ := ownsRow_slice3 hown
    simp only [Option.isSome_some]
    have hfit := opsF_fit _ d l (Nat.le_refl _) ho
    have hll : l.length ≤ 1100000 := by have := opsF_len _ d l (Nat.le_refl _) ho; omega
    have HOWN := Lib.hid hown
    have HB1 := Lib.hid hb1
    have HO := Lib.hid ho
    have HFIT := Lib.hid hfit
    clear hown hv hb1 ho HOPS hfit
    go_wp2_with fail
    go_loopw [8, 9] (fun ov i wr => ∃ (k q : Nat) (out : List UInt8), i = .int .i64 k ∧ ov = .string (mk out) ∧ k ≤ l.length ∧ out.length ≤ 10000 ∧ makes a l [] = makes a (l.drop k) out ∧ wr = w1.drewN q) (fun _ i _ => l.length - (intOf i).toNat)
    case atStart => exact ⟨0, 0, [], rfl, rfl, Nat.zero_le _, by simp, rfl, rfl⟩
    case round =>
      obtain ⟨k, q, out, rfl, rfl, hkl, hol, hrel, rfl⟩ := hrel
      have HREL := Lib.hid hrel
      clear hrel
      by_cases hlt : k < l.length
      · obtain ⟨o, hok⟩ : ∃ o, l[k]? = some o := ⟨_, List.getElem?_eq_getElem hlt⟩
        obtain ⟨g, rfl, p0, p1, p2⟩ := rop_cells HOWN.out hok
        have hi1 : (k : Int) < (l.length : Int) := by omega
        have hof := HFIT.out o (List.mem_of_getElem? hok)
        have HOK := Lib.hid hok
        have HOF := Lib.hid hof
        have hs2 : IntKind.i64.wrap ((10000 : Int) - (out.length : Int)) = (10000 : Int) - (out.length : Int) := IntWalk.i64_in _ (by omega)
        clear hok hof
        by_cases ht : o.text = []
        · have hbounds : 0 ≤ o.at_ ∧ 1 ≤ o.n ∧ o.at_ < 1000000000 ∧ o.n < 1000000000 := by
            rcases HOF.out with ⟨_, h⟩ | ⟨h, _⟩
            · exact ⟨h.1, h.2.1, h.2.2.1, h.2.2.2⟩
            · exact absurd ht h
          obtain ⟨x, hx⟩ : ∃ x : Nat, o.at_ = (x : Int) := ⟨o.at_.toNat, by omega⟩
          obtain ⟨y, hy⟩ : ∃ y : Nat, o.n = (y : Int) := ⟨o.n.toNat, by omega⟩
          have hbd : badOp a out o = (decide ((A.size : Int) < (x : Int)) || decide ((A.size : Int) - (x : Int) < (y : Int)) || decide ((10000 : Int) - (out.length : Int) < (y : Int))) := by
            unfold badOp
            rw [decide_eq_true ht, ← HAL.out, hx, hy]; simp
          have hob : opBytes a o = (a.drop x).take y := by
            unfold opBytes
            rw [if_pos ht, hx, hy]; simp
          rw [hx] at p0 hbounds
          rw [hy] at p1 hbounds
          rw [ht] at p2
          have he : (mk []).toList = [] := toListMk _
          have hsx : IntKind.i64.wrap ((A.size : Int) - (x : Int)) = (A.size : Int) - (x : Int) := IntWalk.i64_in _ (by omega)
          have HBD := Lib.hid hbd
          have HOB := Lib.hid hob
          clear hbd hob ht hx hy
          by_cases h1 : (A.size : Int) < (x : Int)
          · have HAP := Lib.hid (ap_bad2 HO.out HREL.out HOK.out (by rw [HBD.out, decide_eq_true h1]; rfl))
            go_wp2_with fail
            go_ret2
            exact ⟨by rw [HAP.out]; rfl, below_draw HB1.out _⟩
          by_cases h2 : (A.size : Int) - (x : Int) < (y : Int)
          · have HAP := Lib.hid (ap_bad2 HO.out HREL.out HOK.out (by rw [HBD.out, decide_eq_true h2]; simp))
            go_wp2_with fail
            go_quiet (fail)
            go_wp2_with fail
            go_ret2
            exact ⟨by rw [HAP.out]; rfl, below_draw (below_draw HB1.out _) _⟩
          obtain ⟨z, hz⟩ : ∃ z : Nat, z = x + y := ⟨_, rfl⟩
          have hz1 : IntKind.i64.wrap ((x : Int) + (y : Int)) = (z : Int) := by
            rw [show (x : Int) + (y : Int) = (z : Int) by omega]; exact IntWalk.i64_in _ (by omega)
          have hext : A.extract x z = mk ((a.drop x).take y) := mk_of (by
            rw [ext_mid, ← HA.out, hz]
            congr 1; omega)
          have hsz : ((a.drop x).take y).length = y := by
            rw [List.length_take, List.length_drop]; have := HAL.out; omega
          have hz2 : z ≤ A.size := by omega
          have hz3 : x ≤ z := by omega
          have hz4 : (x : Int) ≤ (z : Int) := by omega
          have hz5 : (z : Int) ≤ (A.size : Int) := by omega
          obtain ⟨B, hB⟩ : ∃ B, (a.drop x).take y = B := ⟨_, rfl⟩
          rw [hB] at hext hsz
          have HBe := Lib.hid hB
          clear hz hB
          by_cases h3 : (10000 : Int) - (out.length : Int) < (y : Int)
          · have HAP := Lib.hid (ap_bad2 HO.out HREL.out HOK.out (by rw [HBD.out, decide_eq_true h3]; simp))
            go_wp2_with fail
            go_quiet (fail)
            go_wp2_with fail
            go_quiet (fail)
            go_wp2_with fail
            go_ret2
            exact ⟨by rw [HAP.out]; rfl, below_draw HB1.out _⟩
          · have HNX := Lib.hid (ap_next HREL.out HOK.out (by rw [HBD.out, decide_eq_false h1, decide_eq_false h2, decide_eq_false h3]; rfl))
            have hmc := mk_cat out B
            have HMC := Lib.hid hmc
            clear hmc
            go_wp2_with fail
            go_quiet (fail)
            go_wp2_with fail
            go_quiet (fail)
            go_wp2_with fail
            go_roundw
            case rel =>
              refine ⟨k + 1, _, out ++ B, by go_num, by rw [← HMC.out], by omega, by rw [List.length_append]; omega, ?_, rfl⟩
              rw [HNX.out, HOB.out, HBe.out]
            case measure => simp [intOf]; omega
        · have hb : badOp a out o = decide ((10000 : Int) - (out.length : Int) < o.n) := by
            unfold badOp
            rw [decide_eq_false ht]; simp
          have hn : o.n = (o.text.length : Int) := by
            rcases HOF.out with ⟨h, _⟩ | ⟨_, _, h, _⟩
            · exact absurd h ht
            · exact h
          rw [hn] at hb p1
          have hob : opBytes a o = o.text := by unfold opBytes; rw [if_neg ht]
          have he3 : o.text.isEmpty = false := by simpa using ht
          have HBD := Lib.hid hb
          have HOB := Lib.hid hob
          clear hb hob ht hn
          by_cases h3 : (10000 : Int) - (out.length : Int) < (o.text.length : Int)
          · have HAP := Lib.hid (ap_bad2 HO.out HREL.out HOK.out (by rw [HBD.out, decide_eq_true h3]))
            go_wp2_with fail
            go_ret2
            exact ⟨by rw [HAP.out]; rfl, below_draw HB1.out _⟩
          · have HNX := Lib.hid (ap_next HREL.out HOK.out (by rw [HBD.out, decide_eq_false h3]))
            have hmc := mk_cat out o.text
            have HMC := Lib.hid hmc
            clear hmc
            go_wp2_with fail
            go_roundw
            case rel =>
              refine ⟨k + 1, _, out ++ o.text, by go_num, by rw [← HMC.out], by omega, by rw [List.length_append]; omega, ?_, rfl⟩
              rw [HNX.out, HOB.out]
            case measure => simp [intOf]; omega
      · have hk : k = l.length := by omega
        have hi1 : ¬ (k : Int) < (l.length : Int) := by omega
        have hap : apply a d = (0, out) := by
          have h := HREL.out
          rw [hk, List.drop_length] at h
          unfold apply
          rw [HO.out]
          simp only [h, makes]
        have HAP := Lib.hid hap
        clear hk hap
        go_wp2_with fail
        go_ret2
        exact ⟨by rw [HAP.out]; rfl, below_draw HB1.out _⟩
end Rf
end Go.Proofs.YtmlndamkcipebaaGreatDoor
