/- The walk of the law TapeActs. -/
import Derived.Test.YtmlndamkcipebaaDoorRefTape
import Derived.Test.YtmlndamkcipebaaDoorOpenWrites
import Derived.Test.YtmlndamkcipebaaDoorCodedL3
import Derived.Deep.QuietTactic
import Derived.BigQuiet
import Derived.Deep.CutRange
namespace Go.Proofs.YtmlndamkcipebaaDoor
open Go Go.RowKit Lmd
namespace Rtp
open Rul Day Cand Tp Rf Cd3

theorem dk_far {w w' : World} {base p q : Nat} {v : Value} {l : List UInt8} {off : Bool} {cut : Int} (h : Dk w base p v l off cut) (hf : Far (fun k => k = q) w w') (h1 : p ≠ q) (h2 : v.ownBlock ≠ some q) : Dk w' base p v l off cut := by
  refine ⟨?_, ?_, h.ge⟩
  · rw [hf.block p (Array.getElem?_eq_some_iff.1 h.row).1 h1]; exact h.row
  · obtain ⟨g, cap, cur, fz, rfl, hb, hr, rest⟩ := h.buf
    refine ⟨g, cap, cur, fz, rfl, hb, ?_, rest⟩
    rw [hf.block g (Array.getElem?_eq_some_iff.1 hr).1 (fun e => h2 (by rw [e]; rfl))]; exact hr
theorem rdk_far {S : Nat → Prop} {w w' : World} {q : Nat} {l : List UInt8} {off : Bool} {cut : Int} (h : RDk w q l off cut) (hf : Far S w w') (hq : ¬ S q) : RDk w' q l off cut :=
  ⟨by rw [hf.block q (Array.getElem?_eq_some_iff.1 h.row).1 hq]; exact h.row⟩
theorem two_ne {w : World} {base p q : Nat} {v : Value} {l l2 : List UInt8} {off o2 : Bool} {cut c2 : Int} (h : Dk w base p v l off cut) (k : RDk w q l2 o2 c2) : p ≠ q ∧ v.ownBlock ≠ some q := by
  constructor
  · rintro rfl
    have h1 := h.row
    rw [k.row] at h1
    have ht : 78 = 88 := by injection h1 with e1; injection e1
    revert ht; decide
  · obtain ⟨g, cap, cur, fz, rfl, _, hr, _⟩ := h.buf
    intro e
    obtain rfl : g = q := by simpa [Value.ownBlock] using e
    rw [k.row] at hr
    have ht : 78 = 5 := by injection hr with e1; injection e1
    revert ht; decide
/-- the two disks are alike -/
structure TAt (w : World) (p q : Nat) (v : Value) (l : List UInt8) (off : Bool) (cut : Int) (W : World) : Prop where
  dk : Dk W w.heap.size p v l off cut
  rdk : RDk W q l off cut
  low : Below w.heap.size w W
  ge : w.heap.size ≤ q
  len : l.length ≤ 1048576
  cut : -1 ≤ cut ∧ cut ≤ 9223372036854775807
theorem tat_below {w : World} {p q : Nat} {v : Value} {l : List UInt8} {off : Bool} {cut : Int} {W W' : World} (h : TAt w p q v l off cut W) (hb : Below W.heap.size W W') : TAt w p q v l off cut W' :=
  ⟨h.dk.below hb, h.rdk.below hb, h.low.trans (hb.mono h.low.size), h.ge, h.len, h.cut⟩
/-- an act of the program's disk, then the same of the model's -/
theorem tat_step {w : World} {p q : Nat} {v v2 : Value} {l l2 : List UInt8} {off o2 : Bool} {cut c2 : Int} {W W1 W2 : World} (h : TAt w p q v l off cut W)
    (h1 : Dk W1 w.heap.size p v2 l2 o2 c2) (hf1 : Far (fun k => k = p ∨ some k = v.ownBlock) W W1) (h2 : RDk W2 q l2 o2 c2) (hf2 : Far (fun k => k = q) W1 W2) (hl : l2.length ≤ 1048576) (hc : -1 ≤ c2 ∧ c2 ≤ 9223372036854775807) : TAt w p q v2 l2 o2 c2 W2 := by
  obtain ⟨n1, n2⟩ := two_ne h.dk h.rdk
  have hr := rdk_far h.rdk hf1 (fun e => e.elim (fun e => n1 e.symm) (fun e => n2 e.symm))
  obtain ⟨m1, m2⟩ := two_ne h1 hr
  have hb1 := hf1.below (B := w.heap.size) (fun k hk => h.dk.far_ge hk) h.low.size
  have hb2 := hf2.below (B := w.heap.size) (fun k hk => by rw [hk]; exact h.ge) (Nat.le_trans h.low.size hb1.size)
  exact ⟨dk_far h1 hf2 m1 m2, h2, (h.low.trans hb1).trans hb2, h.ge, hl, hc⟩
theorem tat_mid {w : World} {p q : Nat} {v : Value} {l : List UInt8} {off : Bool} {cut : Int} {W W1 : World} (h : TAt w p q v l off cut W) (hf1 : Far (fun k => k = p ∨ some k = v.ownBlock) W W1) : RDk W1 q l off cut := by
  obtain ⟨n1, n2⟩ := two_ne h.dk h.rdk
  exact rdk_far h.rdk hf1 (fun e => e.elim (fun e => n1 e.symm) (fun e => n2 e.symm))
theorem apL_len {off : Bool} {cut : Int} {l s : List UInt8} (hl : l.length ≤ 1048576) : (apL off cut l s).length ≤ 1048576 := by
  unfold apL
  split
  · rename_i h
    have h2 : ¬ 1048576 < (recL s).length + l.length := by
      unfold apBad at h
      split at h
      · cases h
      · split at h
        · cases h
        · assumption
    unfold wrL
    split
    · exact hl
    · split
      · rw [List.length_append, List.length_take]; omega
      · rw [List.length_append]; omega
  · exact hl
theorem apN_cut {off : Bool} {cut : Int} {l s : List UInt8} (h : -1 ≤ cut ∧ cut ≤ 9223372036854775807) : -1 ≤ apN off cut l s ∧ apN off cut l s ≤ 9223372036854775807 := by
  unfold apN
  split
  · unfold wrN
    split
    · exact h
    · split
      · exact h
      · split <;> omega
  · exact h
theorem apC_le (off : Bool) (cut : Int) (l s : List UInt8) : apC off cut l s ≤ 11 := by
  unfold apC
  split
  · unfold wrC
    split
    · omega
    · split <;> omega
  · unfold apBad
    split
    · omega
    · split <;> omega
theorem cutC_le (off : Bool) (n : Int) : cutC off n ≤ 11 := by
  unfold cutC
  split
  · omega
  · split <;> omega
theorem readT_four : ∀ (k : Nat) (l : List UInt8), 4 * (readT k l).1.length ≤ (readT k l).2
  | 0, _ => Nat.le_refl _
  | k + 1, l => by
    simp only [readT]
    split
    · have h := readT_four k (l.drop (recL (oneS l)).length)
      have h2 := recL_pos (oneS l)
      simp only [List.length_cons]; omega
    · exact Nat.le_refl _
theorem far_or {S T : Nat → Prop} {w w' : World} (h : Far S w w') (hs : ∀ k, S k → T k) : Far T w w' := ⟨h.os, h.tape, h.output, h.size, fun k hk ht => h.block k hk (fun e => ht (hs k e))⟩
theorem own_past {w w' : World} {base q n : Nat} {e : TypeId} {v : Value} {xs : List Value} (h : w.ownsRow base e 1 v n xs) (hf : Far (fun k => k = q) w w') (hq : q < base) : w'.ownsRow base e 1 v n xs := by
  refine ⟨h.1, ?_⟩
  rcases h.2 with h2 | ⟨g, cap, cur, rfl, hb, hr, rest⟩
  · exact .inl h2
  · exact .inr ⟨g, cap, cur, rfl, hb, by rw [hf.block g (Array.getElem?_eq_some_iff.1 hr).1 (by omega)]; exact hr, rest⟩
theorem tat_box {w : World} {p q b : Nat} {v : Value} {l : List UInt8} {off : Bool} {cut : Int} {W : World} {cs : Array Value} (h : TAt w p q v l off cut W) (hx : W.heap[b]? = some (.cells cs 80 (0, 0))) : ¬ (b = p ∨ some b = v.ownBlock) ∧ b ≠ q := by
  refine ⟨?_, ?_⟩
  · rintro (rfl | e)
    · have h1 := h.dk.row
      rw [hx] at h1
      have ht : 80 = 88 := by injection h1 with e1; injection e1
      revert ht; decide
    · obtain ⟨g, cap, cur, fz, rfl, _, hr, _⟩ := h.dk.buf
      obtain rfl : b = g := by simpa [Value.ownBlock] using e
      rw [hx] at hr
      have ht : 80 = 5 := by injection hr with e1; injection e1
      revert ht; decide
  · rintro rfl
    have h1 := h.rdk.row
    rw [hx] at h1
    have ht : 80 = 78 := by injection h1 with e1; injection e1
    revert ht; decide
theorem far_row {S : Nat → Prop} {w w' : World} {b : Nat} {o : Obj} (h : w.heap[b]? = some o) (hf : Far S w w') (hb : ¬ S b) : w'.heap[b]? = some o := by
  rw [hf.block b (Array.getElem?_eq_some_iff.1 h).1 hb]; exact h
theorem cells3w {w : World} {b : Nat} {a0 a1 a2 : Value} {t : TypeId} (h : w.heap[b]? = some (.cells #[a0, a1, a2] t (0, 0))) :
    w.cell? ⟨b, 0, none⟩ = some a0 ∧ w.cell? ⟨b, 1, none⟩ = some a1 ∧ w.cell? ⟨b, 2, none⟩ = some a2 := by
  simp [World.cell?, h]
/-- what the law TapeActs stands on -/
structure TAEnv (w : World) (e : Nat → Addr) (m : Int) : Prop where
  te : TEnv w e m
  es : Er.Errs w e
theorem TAEnv.below {w w' : World} {e : Nat → Addr} {m : Int} (h : TAEnv w e m) (hb : Below w.heap.size w w') : TAEnv w' e m := ⟨h.te.below hb, h.es.below hb⟩
set_option maxRecDepth 100000 in
set_option maxHeartbeats 4000000 in
theorem tapeActs_any (b : ByteArray) (xs : List Wrt.Wr) (lv : Value) (e : Nat → Addr) (m : Int) (w : World) (h : TAEnv w e m) (hr : Wrt.Rd w lv xs) (hxl : xs.length ≤ 9223372036854775807) (hxs : ∀ x ∈ xs, x.s.size ≤ 9223372036854775807 ∧ -9223372036854775808 ≤ x.n ∧ x.n ≤ 9223372036854775807) :
    Calls Tryd.prog 10 #[.string b, lv] w fun e' w' => e' = .returned (.bool true) ∧ Below w.heap.size w w' := by
  obtain ⟨a0, c0, rfl⟩ := hr.shape
  have ht := taped_any e m w h.te
  have HT := Lib.hid ht
  have HE := Lib.hid h
  have HR := Lib.hid hr
  have HXS := Lib.hid hxs
  clear ht h hr hxs
  go_enter Tryd.func10, Tryd.ntmps10
  go_wp2_with fail
  (with_reducible refine HT.out.mono ?_)
  rintro e1 w1 ⟨rfl, hb1⟩
  have HB1 := Lib.hid hb1
  clear hb1 HT
  by_cases hs5 : 2000 < b.size
  · have hl3 : (2000 : Int) < (b.size : Int) := by omega
    clear hs5
    go_wp2_with fail
    go_ret
    exact ⟨rfl, HB1.out⟩
  by_cases hl : 50 < xs.length
  · have hl3 : ¬ (2000 : Int) < (b.size : Int) := by omega
    have hl2 : (50 : Int) < (xs.length : Int) := by omega
    clear hs5 hl
    go_wp2_with fail
    go_ret
    exact ⟨rfl, HB1.out⟩
  have hl2 : ¬ (50 : Int) < (xs.length : Int) := by omega
  have hl3 : ¬ (2000 : Int) < (b.size : Int) := by omega
  have hn := newDisk_any b w1 (by omega)
  have HN := Lib.hid hn
  clear hn
  go_wp2_with fail
  (with_reducible refine HN.out.mono ?_)
  rintro e2 w2 ⟨p, v2, rfl, hd2, hb2⟩
  have hd2' := hd2.base_le HB1.out.size
  have hb2' := HB1.out.trans (hb2.mono HB1.out.size)
  obtain ⟨L0, hL0⟩ : ∃ L0, b.data.toList = L0 := ⟨_, rfl⟩
  have hL0s : L0.length ≤ 2000 := by rw [← hL0]; simpa using hs5
  have hbm : b = mk L0 := by rw [← hL0]; first | done | exact mk_self b
  rw [hL0] at hd2'
  obtain ⟨W3, hW3⟩ : ∃ W3, w2.alloc (.cells #[.string b, .bool false, .int .i64 (-1)] 78) = W3 := ⟨_, rfl⟩
  have hb3 : Below w2.heap.size w2 W3 := by rw [← hW3]; exact (Below.refl _ w2).alloc (Nat.le_refl _) _
  have hx3 := heap_new w2 (.cells #[.string b, .bool false, .int .i64 (-1)] 78)
  rw [hW3, hbm] at hx3
  have hat0 : TAt w p w2.heap.size v2 L0 false (-1) W3 := ⟨hd2'.below hb3, ⟨hx3⟩, hb2'.trans (hb3.mono hb2'.size), hb2'.size, by omega, by omega⟩
  have HAT0 := Lib.hid hat0
  have HW3 := Lib.hid hW3
  clear hd2 hd2' hb2 hb2' HN HB1 hW3 hb3 hx3 hat0 hL0 hbm hL0s
  go_wp2_with fail
  rw [HW3.out]
  obtain ⟨q, hq⟩ : ∃ q, w2.heap.size = q := ⟨_, rfl⟩
  rw [hq] at HAT0 ⊢
  clear hq
  go_loopw [9] (fun iv wr => ∃ (k : Nat) (v : Value) (l : List UInt8) (off : Bool) (cut : Int), iv = .int .i64 k ∧ k ≤ xs.length ∧ TAt w p q v l off cut wr) (fun iv _ => xs.length - (intOf iv).toNat)
  case atStart => exact ⟨0, v2, L0, false, -1, rfl, Nat.zero_le _, HAT0.out⟩
  case round =>
    obtain ⟨k, v, l, off, cut, rfl, hkl, hat⟩ := hrel
    by_cases hlt : k < xs.length
    · obtain ⟨b0, o0, c1, e1, hc⟩ := HR.out.at (by intro h; rw [h] at hlt; exact absurd hlt (Nat.not_lt_zero _))
      obtain ⟨rfl, rfl⟩ : a0 = some ⟨b0, o0, none⟩ ∧ c0 = c1 := by cases e1; exact ⟨rfl, rfl⟩
      obtain ⟨x, hxk⟩ : ∃ x, xs[k]? = some x := ⟨_, List.getElem?_eq_getElem hlt⟩
      obtain ⟨g0, g1, g2⟩ := hc k x hxk
      have g0' := cell_later hat.low g0
      have g1' := cell_later hat.low g1
      have g2' := cell_later hat.low g2
      have hi1 : (k : Int) < (xs.length : Int) := by omega
      obtain ⟨W4, hW4⟩ : ∃ W4, wr.alloc (.cells #[.string x.kind, .string x.s, .int .i64 x.n] 80) = W4 := ⟨_, rfl⟩
      have hb4 : Below wr.heap.size wr W4 := by rw [← hW4]; exact (Below.refl _ wr).alloc (Nat.le_refl _) _
      have hx4 := heap_new wr (.cells #[.string x.kind, .string x.s, .int .i64 x.n] 80)
      rw [hW4] at hx4
      obtain ⟨hz1, hz2, hz3⟩ := HXS.out x (List.mem_of_getElem? hxk)
      have HAT := Lib.hid (tat_below hat hb4)
      have HW4 := Lib.hid hW4
      have HX4 := Lib.hid hx4
      have HX := Lib.hid hxk
      clear e1 hc hxk g0 g1 g2 hat hW4 hb4 hx4
      obtain ⟨S, hS⟩ : ∃ S, x.s = mk S := ⟨_, mk_self x.s⟩
      have hSz : x.s.size = S.length := by rw [hS]; rfl
      have HS := Lib.hid hS
      clear hS
      obtain ⟨hbn1, hbn2⟩ := tat_box HAT.out HX4.out
      have HBN1 := Lib.hid hbn1
      have HBN2 := Lib.hid hbn2
      obtain ⟨t0, t1, t2⟩ := cells3w HX4.out
      clear hbn1 hbn2
      by_cases hlong : 200 < x.s.size ∧ x.s.size ≠ 10001
      · obtain ⟨q1, q2⟩ := hlong
        have q3 : (200 : Int) < (x.s.size : Int) := by omega
        have q4 : ((x.s.size : Int) != 10001) = true := by rw [bne_iff_ne]; omega
        clear q1 q2
        go_wp2_with fail
        rw [HW4.out]
        go_ret
        exact ⟨rfl, HAT.out.low⟩
      have hSl : S.length ≤ 10001 := by omega
      go_upto_region 12 with fail
      rw [HW4.out]
      go_cut [65] from 56 to 65 (fun s65 wc => s65 = .bool false ∧ wc = W4)
      case first =>
        by_cases hq1 : 200 < x.s.size
        · have hq2 : (200 : Int) < (x.s.size : Int) := by omega
          have hq3 : ((x.s.size : Int) != 10001) = false := by
            have : x.s.size = 10001 := by omega
            rw [this]; rfl
          clear hlong hSz hSl hq1
          go_wp2_with fail
          go_meet
          exact ⟨rfl, rfl⟩
        · have hq2 : ¬ (200 : Int) < (x.s.size : Int) := by omega
          clear hlong hSz hSl hq1
          go_wp2_with fail
          go_meet
          exact ⟨rfl, rfl⟩
      case rest =>
        obtain ⟨rfl, rfl⟩ := hcut
        have HSZ := Lib.hid hSz
        clear hlong hSz
        obtain ⟨t0, t1, t2⟩ := cells3w HX4.out
        by_cases hk1 : x.kind.toList = [97, 112, 112, 101, 110, 100]
        · have hap := append_any wc.drew w.heap.size p v l S off cut e (tat_below HAT.out (below_drew (Below.refl _ wc))).dk (HE.out.below (tat_below HAT.out (below_drew (Below.refl _ wc))).low).te.et HAT.out.len (by omega) HAT.out.cut (cell_lt HE.out.te.et.s10.cell) (HE.out.below (tat_below HAT.out (below_drew (Below.refl _ wc))).low).te.tab
          rw [← HS.out] at hap
          unfold WrPost at hap
          have hl2 := apL_len (off := off) (cut := cut) (s := S) HAT.out.len
          have hc2 := apN_cut (off := off) (l := l) (s := S) HAT.out.cut
          have hcl := apC_le off cut l S
          have hra := fun W h => rappend_any W q l S off cut h HAT.out.len (by omega) HAT.out.cut
          rw [← HS.out] at hra
          unfold RApPost at hra
          obtain ⟨c5, hc5⟩ : ∃ c5, apC off cut l S = c5 := ⟨_, rfl⟩
          obtain ⟨l5, hl5⟩ : ∃ l5, apL off cut l S = l5 := ⟨_, rfl⟩
          obtain ⟨o5, ho5⟩ : ∃ o5, apO off cut l S = o5 := ⟨_, rfl⟩
          obtain ⟨n5, hn5⟩ : ∃ n5, apN off cut l S = n5 := ⟨_, rfl⟩
          simp only [hc5, hl5, ho5, hn5] at hap hra hl2 hc2 hcl
          have HAP := Lib.hid hap
          have HRA := Lib.hid hra
          clear hap hra hc5 hl5 ho5 hn5
          go_upto_region 20 with fail
          go_cut [94] from 84 to 94 (fun s94 wd => s94 = .bool false ∧ ∃ v7, TAt w p q v7 l5 o5 n5 wd)
          case first =>
            go_region_with (first
              | (go_at_call 13; (with_reducible refine HAP.out.mono ?_); rintro e5 w5 ⟨v5, rfl, hd5, hf5, _⟩; have HA1 := Lib.hid (tat_below HAT.out (below_drew (Below.refl _ wc))); have HF5 := Lib.hid hf5; have HD5 := Lib.hid hd5; have hx5 := far_row (show wc.drew.heap[wr.heap.size]? = _ from HX4.out) hf5 HBN1.out; obtain ⟨u0, u1, u2⟩ := cells3w hx5; have HX5 := Lib.hid hx5; clear hd5 hf5 hx5)
              | (go_at_call 46; (with_reducible refine (HRA.out _ (tat_mid HA1.out HF5.out)).mono ?_); rintro e6 w6 ⟨rfl, hr6, hf6⟩; have HA6 := Lib.hid (tat_step HA1.out HD5.out HF5.out hr6 hf6 hl2 hc2); clear hr6 hf6)
              | (go_at_call 45; (with_reducible refine (coded_any e c5 hcl _ (HE.out.below HA6.out.low).es).mono ?_); rintro e7 w7 ⟨rfl, hb7⟩; have HA7 := Lib.hid (tat_below HA6.out hb7); clear hb7))
            all_goals go_wp2_with fail
            all_goals go_meet
            all_goals exact ⟨rfl, v5, HA7.out⟩
          case rest =>
            obtain ⟨rfl, v7, hat7⟩ := hcut
            have HA7 := Lib.hid hat7
            clear hat7 HAP HRA
            obtain ⟨r0, r1, r2, _⟩ := HA7.out.rdk.cells
            have hby := fun n => bytes_any (wc.drewN n) _ _ _ _ _ _ (tat_below HA7.out (below_draw (Below.refl _ wc) n)).dk
            have hpw := fun n => power_any (wc.drewN n) _ _ _ _ _ _ (tat_below HA7.out (below_draw (Below.refl _ wc) n)).dk
            have HBY := Lib.hid hby
            have HPW := Lib.hid hpw
            clear hby hpw
            go_wp2_with fail
            go_quiet ((first | (go_at_call 15; exact Calls.quiet_of_same (HBY.out _)) | (go_at_call 21; exact Calls.quiet_of_same (HPW.out _))))
            go_wp2_with fail
            go_roundw
            case rel => exact ⟨k + 1, _, _, _, _, by go_num, by omega, tat_below HA7.out (below_draw (Below.refl _ _) _)⟩
            case measure => simp [intOf]; omega
        by_cases hk2 : x.kind.toList = [99, 117, 116]
        · have hn1 : (x.kind.toList == [97, 112, 112, 101, 110, 100]) = false := by simpa using hk1
          have hap := cut_any wc.drew w.heap.size p v l off cut x.n e (tat_below HAT.out (below_drew (Below.refl _ wc))).dk (HE.out.below (tat_below HAT.out (below_drew (Below.refl _ wc))).low).te.et
          have hra := fun W h => setCut_any W q l off cut x.n h
          have hcl := cutC_le off x.n
          have hcc := HAT.out.cut
          have hn0 : cutC off x.n = 0 → 0 ≤ x.n := fun h => by unfold cutC at h; split at h <;> omega
          have hc2 : -1 ≤ (if cutC off x.n = 0 then x.n else cut) ∧ (if cutC off x.n = 0 then x.n else cut) ≤ 9223372036854775807 := by split <;> omega
          obtain ⟨n5, hn5⟩ : ∃ n5, (if cutC off x.n = 0 then x.n else cut) = n5 := ⟨_, rfl⟩
          simp only [hn5] at hap hra hc2
          obtain ⟨c5, hc5⟩ : ∃ c5, cutC off x.n = c5 := ⟨_, rfl⟩
          simp only [hc5] at hap hra hcl
          have HAP := Lib.hid hap
          have HRA := Lib.hid hra
          clear hap hra hc5 hn5 hn0 hcc hk1
          go_upto_region 23 with fail
          go_cut [106] from 96 to 106 (fun s106 wd => s106 = .bool false ∧ ∃ v7, TAt w p q v7 l off n5 wd)
          case first =>
            go_region_with (first
              | (go_at_call 19; (with_reducible refine HAP.out.mono ?_); rintro e5 w5 ⟨rfl, hd5, hf5⟩; have HA1 := Lib.hid (tat_below HAT.out (below_drew (Below.refl _ wc))); have HF5 := Lib.hid (far_or (T := fun k => k = p ∨ some k = v.ownBlock) hf5 (fun k h => .inl h)); have HD5 := Lib.hid hd5; have hx5 := far_row (show wc.drew.heap[wr.heap.size]? = _ from HX4.out) HF5.out HBN1.out; obtain ⟨u0, u1, u2⟩ := cells3w hx5; have HX5 := Lib.hid hx5; clear hd5 hf5 hx5)
              | (go_at_call 47; (with_reducible refine (HRA.out _ (tat_mid HA1.out HF5.out)).mono ?_); rintro e6 w6 ⟨rfl, hr6, hf6⟩; have HA6 := Lib.hid (tat_step HA1.out HD5.out HF5.out hr6 hf6 HAT.out.len hc2); clear hr6 hf6)
              | (go_at_call 45; (with_reducible refine (coded_any e c5 hcl _ (HE.out.below HA6.out.low).es).mono ?_); rintro e7 w7 ⟨rfl, hb7⟩; have HA7 := Lib.hid (tat_below HA6.out hb7); clear hb7))
            all_goals go_wp2_with fail
            all_goals go_meet
            all_goals exact ⟨rfl, v, HA7.out⟩
          case rest =>
            obtain ⟨rfl, v7, hat7⟩ := hcut
            have HA7 := Lib.hid hat7
            clear hat7 HAP HRA
            obtain ⟨r0, r1, r2, _⟩ := HA7.out.rdk.cells
            have hby := fun n => bytes_any (wc.drewN n) _ _ _ _ _ _ (tat_below HA7.out (below_draw (Below.refl _ wc) n)).dk
            have hpw := fun n => power_any (wc.drewN n) _ _ _ _ _ _ (tat_below HA7.out (below_draw (Below.refl _ wc) n)).dk
            have HBY := Lib.hid hby
            have HPW := Lib.hid hpw
            clear hby hpw
            go_wp2_with fail
            go_quiet ((first | (go_at_call 15; exact Calls.quiet_of_same (HBY.out _)) | (go_at_call 21; exact Calls.quiet_of_same (HPW.out _))))
            go_wp2_with fail
            go_roundw
            case rel => exact ⟨k + 1, _, _, _, _, by go_num, by omega, tat_below HA7.out (below_draw (Below.refl _ _) _)⟩
            case measure => simp [intOf]; omega
        by_cases hk3 : x.kind.toList = [111, 110]
        · have hn1 : (x.kind.toList == [97, 112, 112, 101, 110, 100]) = false := by simpa using hk1
          have hn2 : (x.kind.toList == [99, 117, 116]) = false := by simpa using hk2
          have hon := on_any wc w.heap.size p v l off cut HAT.out.dk
          have HON := Lib.hid hon
          clear hon hk1 hk2
          go_wp2_with fail
          (with_reducible refine HON.out.mono ?_)
          rintro e5 w5 ⟨rfl, hd5, hf5⟩
          have hf5' := far_or (T := fun k => k = p ∨ some k = v.ownBlock) hf5 (fun k h => .inl h)
          have hr5 := tat_mid HAT.out hf5'
          have hr6 := (hr5.set1 (o2 := false)).set2 (c2 := -1)
          have hat7 := tat_step HAT.out hd5 hf5' hr6 (((Far.refl (fun k => k = q) w5).set (p := ⟨q, 1, none⟩) (show q = q from rfl) _).set (p := ⟨q, 2, none⟩) (show q = q from rfl) _) HAT.out.len (by omega)
          obtain ⟨m0, m1, m2, f0, f1, f2⟩ := hr5.cells
          obtain ⟨wd, hwd⟩ : ∃ wd, (w5.setCell ⟨q, 1, none⟩ (.bool false)).setCell ⟨q, 2, none⟩ (.int .i64 (-1)) = wd := ⟨_, rfl⟩
          rw [hwd] at hat7
          have HWD := Lib.hid hwd
          have HA7 := Lib.hid hat7
          clear hat7 hr6 hr5 hf5' hd5 hf5 HON hwd
          obtain ⟨r0, r1, r2, _⟩ := HA7.out.rdk.cells
          have hby := fun n => bytes_any (wd.drewN n) _ _ _ _ _ _ (tat_below HA7.out (below_draw (Below.refl _ wd) n)).dk
          have hpw := fun n => power_any (wd.drewN n) _ _ _ _ _ _ (tat_below HA7.out (below_draw (Below.refl _ wd) n)).dk
          have HBY := Lib.hid hby
          have HPW := Lib.hid hpw
          clear hby hpw
          go_wp2_with fail
          rw [HWD.out]
          go_quiet ((first | (go_at_call 15; exact Calls.quiet_of_same (HBY.out _)) | (go_at_call 21; exact Calls.quiet_of_same (HPW.out _))))
          go_wp2_with fail
          go_roundw
          case rel => exact ⟨k + 1, _, _, _, _, by go_num, by omega, tat_below HA7.out (below_draw (Below.refl _ _) _)⟩
          case measure => simp [intOf]; omega
        · have hn1 : (x.kind.toList == [97, 112, 112, 101, 110, 100]) = false := by simpa using hk1
          have hn2 : (x.kind.toList == [99, 117, 116]) = false := by simpa using hk2
          have hn3 : (x.kind.toList == [111, 110]) = false := by simpa using hk3
          have hrc := recover_any w wc p v l off cut m HAT.out.dk HAT.out.low (by have := HAT.out.len; omega) HE.out.te.lib HE.out.te.tab HE.out.te.ml
          unfold RecPost at hrc
          have hrr := fun W h => rrecover_any W q l off cut h (by have := HAT.out.len; omega)
          unfold RRecPost at hrr
          have hle := readF_le l
          have hct := readT_four l.length l
          obtain ⟨D, hD⟩ : ∃ D, (readF l).1 = D := ⟨_, rfl⟩
          obtain ⟨n5, hn5⟩ : ∃ n5, (readF l).2 = n5 := ⟨_, rfl⟩
          have hDl : 4 * D.length ≤ n5 := by rw [← hD, ← hn5]; exact hct
          rw [hn5] at hle
          simp only [hD, hn5] at hrc hrr
          have hDs : D.length ≤ 262144 := by have := HAT.out.len; omega
          have HRC := Lib.hid hrc
          have HRR := Lib.hid hrr
          clear hrc hrr hct hD hn5 hk1 hk2 hk3
          go_wp2_with fail
          (with_reducible refine HRC.out.mono ?_)
          rintro e5 w5 ⟨u5, v5, rfl, hu5, hd5, _, hf5⟩
          have hf5' := far_or (T := fun k => k = p ∨ some k = v.ownBlock) hf5 (fun k h => .inl h)
          have hr5 := tat_mid HAT.out hf5'
          have HR5 := Lib.hid (HRR.out w5 hr5)
          have HU5 := Lib.hid hu5
          have HD5 := Lib.hid hd5
          have HF5 := Lib.hid hf5'
          clear hr5 hu5 hd5 hf5 hf5' HRC HRR
          go_wp2_with fail
          (with_reducible refine HR5.out.mono ?_)
          rintro e6 w6 ⟨u6, rfl, hu6, hr6, hf6⟩
          have hqlt : q < wc.heap.size := (Array.getElem?_eq_some_iff.1 HAT.out.rdk.row).1
          have hu5' := own_past HU5.out hf6 hqlt
          have hat6 := tat_step HAT.out HD5.out HF5.out hr6 hf6 (by have := HAT.out.len; rw [List.length_take]; omega) (by omega)
          have hst := Tx.sameTexts_any w6 _ _ _ _ (Tx.rd_own hu5' (by simp)) (Tx.rd_own hu6 (by simp)) (by rw [List.length_map]; omega) (by rw [List.length_map]; omega)
          have HST := Lib.hid hst
          have HA6 := Lib.hid hat6
          clear hqlt hu5' hat6 hst hu6 hr6 hf6 HU5 HD5 HF5 HR5
          go_wp2_with fail
          (with_reducible refine HST.out.mono ?_)
          rintro e7 w7 ⟨rfl, q7, rfl⟩
          have hat7 := tat_below HA6.out (below_draw (Below.refl _ w6) q7)
          obtain ⟨wd, hwd⟩ : ∃ wd, w6.drewN q7 = wd := ⟨_, rfl⟩
          rw [hwd] at hat7 ⊢
          have HA7 := Lib.hid hat7
          clear hat7 hwd
          have hdt : decide (D.map mk = D.map mk) = true := decide_eq_true rfl
          clear HST
          obtain ⟨r0, r1, r2, _⟩ := HA7.out.rdk.cells
          have hby := fun n => bytes_any (wd.drewN n) _ _ _ _ _ _ (tat_below HA7.out (below_draw (Below.refl _ wd) n)).dk
          have hpw := fun n => power_any (wd.drewN n) _ _ _ _ _ _ (tat_below HA7.out (below_draw (Below.refl _ wd) n)).dk
          have HBY := Lib.hid hby
          have HPW := Lib.hid hpw
          clear hby hpw
          go_wp2_with fail
          go_quiet ((first | (go_at_call 15; exact Calls.quiet_of_same (HBY.out _)) | (go_at_call 21; exact Calls.quiet_of_same (HPW.out _))))
          go_wp2_with fail
          go_roundw
          case rel => exact ⟨k + 1, _, _, _, _, by go_num, by omega, tat_below HA7.out (below_draw (Below.refl _ _) _)⟩
          case measure => simp [intOf]; omega
    · have HAT := Lib.hid hat
      have hk0 : k = xs.length := by omega
      have hi1 : ¬ (k : Int) < (xs.length : Int) := by omega
      obtain ⟨r0, r1, r2, _⟩ := hat.rdk.cells
      have hrd := read_any (mk l) m wr (by show l.length ≤ _; have := hat.len; omega) (HE.out.below hat.low).te.lib (HE.out.below hat.low).te.tab (HE.out.below hat.low).te.ml
      have hrr := fun W => readTape_any (mk l) W (by show l.length ≤ _; have := hat.len; omega)
      have e0 : (mk l).data.toList = l := rfl
      unfold ReadPost at hrd hrr
      rw [e0] at hrd
      have hle := readF_le l
      have hct := readT_four l.length l
      obtain ⟨D, hD⟩ : ∃ D, (readF l).1 = D := ⟨_, rfl⟩
      obtain ⟨n5, hn5⟩ : ∃ n5, (readF l).2 = n5 := ⟨_, rfl⟩
      have hDl : 4 * D.length ≤ n5 := by rw [← hD, ← hn5]; exact hct
      rw [hn5] at hle
      simp only [hD, hn5] at hrd hrr
      have hDs : D.length ≤ 262144 := by have := hat.len; omega
      have HRD := Lib.hid hrd
      have HRR := Lib.hid hrr
      clear hrd hrr hct hD hn5 hk0 hat e0 hlt
      go_wp2_with fail
      (with_reducible refine HRD.out.mono ?_)
      rintro e5 w5 ⟨u5, rfl, hu5, hb5⟩
      have HA5 := Lib.hid (tat_below HAT.out hb5)
      obtain ⟨r0, r1, r2, _⟩ := HA5.out.rdk.cells
      have HU5 := Lib.hid hu5
      clear hb5 hu5 HRD
      go_wp2_with fail
      (with_reducible refine (HRR.out _).mono ?_)
      rintro e6 w6 ⟨u6, rfl, hu6, hb6⟩
      have hst := Tx.sameTexts_any w6 _ _ _ _ (Tx.rd_own (own_later HU5.out hb6) (by simp)) (Tx.rd_own hu6 (by simp)) (by rw [List.length_map]; omega) (by rw [List.length_map]; omega)
      have HST := Lib.hid hst
      have HA6 := Lib.hid (tat_below HA5.out hb6)
      clear hst hb6 hu6 HRR HU5
      go_wp2_with fail
      (with_reducible refine HST.out.mono ?_)
      rintro e7 w7 ⟨rfl, q7, rfl⟩
      have HA7 := Lib.hid (tat_below HA6.out (below_draw (Below.refl _ w6) q7))
      have hdt : decide (D.map mk = D.map mk) = true := decide_eq_true rfl
      clear HST
      go_wp2_with fail
      go_ret
      exact ⟨by simp, HA7.out.low⟩
end Rtp
end Go.Proofs.YtmlndamkcipebaaDoor
