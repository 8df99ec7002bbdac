/- The reference's ReadRule. -/
import Derived.Test.YtkhkhbeolhhomaaGreatDoorRefRdDay
import Derived.Test.YtkhkhbeolhhomaaGreatDoorRefWeek
import Derived.Test.YtkhkhbeolhhomaaGreatDoorJ8
import Derived.Test.YtkhkhbeolhhomaaGreatDoorRefError
import Derived.Test.YtkhkhbeolhhomaaGreatDoorRuleRead
namespace Go.Proofs.YtkhkhbeolhhomaaGreatDoor
open Go Go.RowKit Lmd
namespace Rct
open Rul Day Cand Tp Tx Rrt Er Rf Ref

/-- ReadDay of a text: a day, and an error's number -/
theorem rreadDay_any (s : ByteArray) (w : World) :
    Calls Tryz.prog 179 #[.string s] w fun e w' => e = .returned (.tuple #[.int .i64 (dayX s.data.toList), .int .i64 (dayC s.data.toList : Nat)]) ∧ Below w.heap.size w w' := by
  cases hs : Cal.shapeB s.data.toList with
  | false =>
    have hc : dayC s.data.toList = 1 := by unfold dayC; rw [hs]; rfl
    have hx : dayX s.data.toList = 0 := by unfold dayX; rw [hc]; rfl
    rw [hc, hx]
    by_cases hz : s.size = 10
    · refine (readDay_ten s w hz).mono ?_
      rintro e' w' ⟨hb, ⟨_, rfl⟩ | ⟨h, _⟩⟩
      · exact ⟨rfl, hb⟩
      · rw [hs] at h; cases h
    · refine (readDay_len s w hz).mono ?_
      rintro e' w' ⟨rfl, rfl⟩; exact ⟨rfl, Below.refl _ _⟩
  | true =>
    have hz : s.size = 10 := by
      unfold Cal.shapeB at hs
      simp only [Bool.and_eq_true, decide_eq_true_eq] at hs
      exact hs.1.1.1.1.1
    by_cases ho : Cal.Ok (Cal.yOf s.data.toList) (Cal.mOf s.data.toList) (Cal.dOf s.data.toList)
    · have hc : dayC s.data.toList = 0 := by unfold dayC; rw [if_pos hs, if_pos (Cal.okB_true ho)]
      have hx : dayX s.data.toList = Cal.num (Cal.yOf s.data.toList) (Cal.mOf s.data.toList) (Cal.dOf s.data.toList) := by unfold dayX; rw [if_pos hc]
      rw [hc, hx]
      refine (readDay_ten s w hz).mono ?_
      rintro e' w' ⟨hb, ⟨h, _⟩ | ⟨_, x, c, rfl, ⟨_, rfl, rfl⟩ | ⟨h, _⟩⟩⟩
      · rw [hs] at h; cases h
      · exact ⟨rfl, hb⟩
      · exact absurd ho h
    · have hc : dayC s.data.toList = 2 := by unfold dayC; rw [if_pos hs, if_neg (by rw [Cal.okB_false ho]; decide)]
      have hx : dayX s.data.toList = 0 := by unfold dayX; rw [hc]; rfl
      rw [hc, hx]
      refine (readDay_ten s w hz).mono ?_
      rintro e' w' ⟨hb, ⟨h, _⟩ | ⟨_, x, c, rfl, ⟨h, _⟩ | ⟨_, rfl, rfl⟩⟩⟩
      · rw [hs] at h; cases h
      · exact absurd h ho
      · exact ⟨rfl, hb⟩
/-- NumberOf a text of nine digits at most -/
theorem num9_any (s : ByteArray) (w : World) (hs : s.size ≤ 9223372036854775807) :
    Calls Tryz.prog 180 #[.string s, .int .i64 9] w fun e w' => e = .returned (.int .i64 (if numOk s.data.toList = true then numIs s.data.toList else -1)) ∧ ∃ q, w' = w.drewN q := by
  rw [← refNum_nine]
  have h := numberOf_any s.data.toList 9 w (by omega) (by simpa using hs)
  rw [← mk_self s] at h
  exact h
/-- the three boxes of ReadRule: the result's, the empty one, and the rule's -/
structure Bx (b : Nat) (a0 a1 a2 a3 a4 : Value) (W : World) : Prop where
  r0 : W.heap[b]? = some (.cells #[.string ⟨#[]⟩, .int .i64 0, .slice none 0 0, .int .i64 0, .int .i64 0] 35 (0, 0))
  r1 : W.heap[b + 1]? = some (.cells #[.string ⟨#[]⟩, .int .i64 0, .slice none 0 0, .int .i64 0, .int .i64 0] 35 (0, 0))
  r2 : W.heap[b + 2]? = some (.cells #[a0, a1, a2, a3, a4] 35 (0, 0))
theorem bx_below {b : Nat} {a0 a1 a2 a3 a4 : Value} {W W' : World} (h : Bx b a0 a1 a2 a3 a4 W) (hb : Below W.heap.size W W') : Bx b a0 a1 a2 a3 a4 W' :=
  ⟨row_below' h.r0 hb, row_below' h.r1 hb, row_below' h.r2 hb⟩
theorem bx_set {b i : Nat} {a0 a1 a2 a3 a4 u b0 b1 b2 b3 b4 : Value} {W : World} (h : Bx b a0 a1 a2 a3 a4 W) (he : (#[a0, a1, a2, a3, a4] : Array Value).setIfInBounds i u = #[b0, b1, b2, b3, b4]) : Bx b b0 b1 b2 b3 b4 (W.setCell ⟨b + 2, i, none⟩ u) := by
  refine ⟨?_, ?_, ?_⟩
  · rw [row_far (by show b ≠ b + 2; omega)]; exact h.r0
  · rw [row_far (by show b + 1 ≠ b + 2; omega)]; exact h.r1
  · rw [row_set h.r2 i u, he]
theorem res_rr {W : World} {b : Nat} {a0 a1 a2 a3 a4 er : Value} {tmps : Array Value} (h : W.heap[b]? = some (.cells #[a0, a1, a2, a3, a4] 35 (0, 0))) (h2 : tmps.getD 2 undef = .pointer (some ⟨b, 0, none⟩)) (h3 : tmps.getD 3 undef = er) :
    (results Tryz.f181 tmps).run Tryz.prog W = .ok (.tuple #[.agg #[a0, a1, a2, a3, a4], er]) W := by
  obtain ⟨q0, q1, q2, q3, q4, _⟩ := cells5 h
  have h2' : tmps[2]?.getD undef = .pointer (some ⟨b, 0, none⟩) := by simpa using h2
  have h3' : tmps[3]?.getD undef = er := by simpa using h3
  simp [results, Tryz.f181, go_sem, h2', h3', q0, q1, q2, q3, q4]
/-- what lies behind ReadRule -/
def RrPost (R : Nat × Ru) (w : World) (e : Ending) (w' : World) : Prop :=
  ∃ v, e = .returned (.tuple #[.agg #[.string R.2.fq, .int .i64 R.2.ev, v, .int .i64 R.2.ct, .int .i64 R.2.un], .int .i64 (R.1 : Nat)]) ∧ Ints.Reads w' v R.2.ds ∧ (∀ b o n c, v = .slice (some ⟨b, o, none⟩) n c → n ≠ 0 → w.heap.size ≤ b) ∧ Below w.heap.size w w'
theorem rr_none {c : Nat} {R : Nat × Ru} {w W : World} (hR : R = (c, zeroRu)) (hb : Below w.heap.size w W) :
    RrPost R w (.returned (.tuple #[.agg #[.string ⟨#[]⟩, .int .i64 0, .slice none 0 0, .int .i64 0, .int .i64 0], .int .i64 (c : Nat)])) (((((W.setCell ⟨w.heap.size, 0, none⟩ (.string ⟨#[]⟩)).setCell ⟨w.heap.size, 1, none⟩ (.int .i64 0)).setCell ⟨w.heap.size, 2, none⟩ (.slice none 0 0)).setCell ⟨w.heap.size, 3, none⟩ (.int .i64 0)).setCell ⟨w.heap.size, 4, none⟩ (.int .i64 0)) := by
  subst hR
  exact ⟨_, rfl, .inl ⟨rfl, none, 0, rfl⟩, (fun b o n c h => by cases h), put5_below hb (Nat.le_refl _)⟩
theorem pieces_cons (c : UInt8) (s : ByteArray) : ∃ f t, pieces c s = f :: t := by
  rcases h : pieces c s with _ | ⟨f, t⟩
  · exfalso
    by_cases hm : c ∈ s.data.toList
    · obtain ⟨a, r, e⟩ := List.append_of_mem hm
      obtain ⟨i, hi⟩ : ∃ i : Nat, Lib.indexByte s.data.toList c = i := by
        have hn : Lib.indexByte s.data.toList c ≠ -1 := by
          intro hneg
          have := pieces_miss hneg
          rw [h] at this; cases this
        rcases Lib.indexB_cases s ⟨#[c]⟩ with hx | ⟨i, hx, _⟩
        · rw [indexB_one] at hx; exact absurd hx hn
        · rw [indexB_one] at hx; exact ⟨i, hx⟩
      rw [pieces_hit hi] at h; cases h
    · have := pieces_last hm
      rw [← mk_self s] at this
      rw [h] at this; cases this
  · exact ⟨f, t, rfl⟩
/-- the rest of the words, as they lie in the block of all words -/
def LsAt (w : World) (g : Nat) (v : Value) (xs : List ByteArray) : Prop :=
  (xs = [] ∧ ∃ a c, v = .slice a 0 c) ∨ ∃ off c, v = .slice (some ⟨g, off, none⟩) xs.length c ∧ ∀ (j : Nat) x, xs[j]? = some x → w.cell? ⟨g, off + j, none⟩ = some (.string x)
theorem reads_set2 {W : World} {b i : Nat} {v u : Value} {xs : List Int} (hr : Ints.Reads W v xs) (hv : ∀ k o n c, v = .slice (some ⟨k, o, none⟩) n c → b < k) : Ints.Reads (W.setCell ⟨b, i, none⟩ u) v xs := by
  rcases hr with ⟨h1, h2⟩ | ⟨k, off, cap, rfl, hc⟩
  · exact .inl ⟨h1, h2⟩
  · refine .inr ⟨k, off, cap, rfl, fun i' hi => ?_⟩
    have hk := hv _ _ _ _ rfl
    exact (World.cell?_setCell_other (w := W) (v := u) (a := ⟨b, i, none⟩) (b := ⟨k, off + i', none⟩) (by intro e; injection e with e1 _ _; omega)).trans (hc i' hi)
theorem num_call (s : ByteArray) (w : World) (hs : s.size ≤ 30000) {nn : Int} (hn : (if numOk s.data.toList = true then numIs s.data.toList else -1) = nn) :
    Calls Tryz.prog 180 #[.string s, .int .i64 9] w fun e w' => e = .returned (.int .i64 nn) ∧ Below w.heap.size w w' := by
  refine (num9_any s w (by omega)).mono ?_
  rintro e w' ⟨he, q, rfl⟩
  rw [hn] at he
  exact ⟨he, below_drewN (Below.refl _ _) q⟩
set_option maxRecDepth 100000 in
set_option maxHeartbeats 8000000 in
theorem readRule_any (s : ByteArray) (w : World) (hs : s.size ≤ 30000) :
    Calls Tryz.prog 181 #[.string s] w (RrPost (readS s) w) := by
  obtain ⟨R, hR⟩ : ∃ R, readS s = R := ⟨_, rfl⟩
  rw [hR]
  have hsl : s.data.toList.length = s.size := by simp
  obtain ⟨f, t0, hL⟩ := pieces_cons 32 s
  have hLs : ∀ x ∈ f :: t0, x.size ≤ 30000 := fun x hx => by
    rw [← hL] at hx
    exact Nat.le_trans (pieces_le hx) hs
  have hLl : (f :: t0).length ≤ 30001 := by rw [← hL]; have := pieces_len 32 s; omega
  have hrd : R = if s.toList = onceW then (0, { fq := s, ev := 1, ct := 0, un := -1, ds := [] }) else readCR (f :: t0) := by rw [← hR, readS, hL]
  have hfs : s.toList = onceW → f = s := fun h => by
    have h32 : (32 : UInt8) ∉ s.data.toList := by
      rw [← ByteArray.toList_eq, h]; decide
    have := pieces_last h32
    rw [← mk_self s, hL] at this
    injection this
  have hcut := fun W => cut_lit s.data.toList 32 32 W (by omega) rfl
  rw [← mk_self s] at hcut
  unfold CutPost at hcut
  rw [← mk_self s, hL] at hcut
  obtain ⟨W1, hW1⟩ : ∃ W1, ((w.alloc (.cells #[.string ⟨#[]⟩, .int .i64 0, .slice none 0 0, .int .i64 0, .int .i64 0] 35)).alloc (.cells #[.string ⟨#[]⟩, .int .i64 0, .slice none 0 0, .int .i64 0, .int .i64 0] 35)).alloc (.cells #[.string ⟨#[]⟩, .int .i64 1, .slice none 0 0, .int .i64 0, .int .i64 (-1)] 35) = W1 := ⟨_, rfl⟩
  have hbx : Bx w.heap.size (.string ⟨#[]⟩) (.int .i64 1) (.slice none 0 0) (.int .i64 0) (.int .i64 (-1)) W1 := by
    rw [← hW1]
    refine ⟨?_, ?_, ?_⟩
    · exact row_below' (row_below' (heap_new w _) ((Below.refl _ _).alloc (Nat.le_refl _) _)) ((Below.refl _ _).alloc (Nat.le_refl _) _)
    · have h := heap_new (w.alloc (.cells #[.string ⟨#[]⟩, .int .i64 0, .slice none 0 0, .int .i64 0, .int .i64 0] 35)) (.cells #[.string ⟨#[]⟩, .int .i64 0, .slice none 0 0, .int .i64 0, .int .i64 0] 35)
      rw [World.size_alloc] at h
      exact row_below' h ((Below.refl _ _).alloc (Nat.le_refl _) _)
    · have h := heap_new ((w.alloc (.cells #[.string ⟨#[]⟩, .int .i64 0, .slice none 0 0, .int .i64 0, .int .i64 0] 35)).alloc (.cells #[.string ⟨#[]⟩, .int .i64 0, .slice none 0 0, .int .i64 0, .int .i64 0] 35)) (.cells #[.string ⟨#[]⟩, .int .i64 1, .slice none 0 0, .int .i64 0, .int .i64 (-1)] 35)
      rw [World.size_alloc, World.size_alloc] at h
      exact h
  have hb1 : Below w.heap.size w W1 := by
    rw [← hW1]
    exact (((Below.refl _ w).alloc (Nat.le_refl _) _).alloc (by simp) _).alloc (by simp; omega) _
  have hz1 : W1.heap.size = w.heap.size + 3 := by rw [← hW1]; simp
  have HCUT := Lib.hid hcut
  have HRD := Lib.hid hrd
  have HFS := Lib.hid hfs
  have HLS := Lib.hid hLs
  have HW1 := Lib.hid hW1
  have HB1 := Lib.hid hb1
  have HBX := Lib.hid hbx
  have HZ1 := Lib.hid hz1
  obtain ⟨N, hN⟩ : ∃ N, (f :: t0).length = N := ⟨_, rfl⟩
  have hN1 : N = t0.length + 1 := hN.symm
  rw [hN] at HCUT hLl
  have HN := Lib.hid hN
  have HN1 := Lib.hid hN1
  clear hcut hrd hfs hLs hW1 hb1 hbx hz1 hR hL hsl hN hN1
  go_enter Tryz.func181, Tryz.ntmps181
  go_wp2_with fail
  rw [HW1.out]
  (with_reducible refine (HCUT.out _).mono ?_)
  rintro e1 w2 ⟨cv, rfl, hown, hb2⟩
  have hrc := reads_ownS hown HN.out.symm
  obtain ⟨g, cap, rfl, hcap, hgl, hce⟩ : ∃ g cap, cv = .slice (some ⟨g, 0, none⟩) N cap ∧ N ≤ cap ∧ g < w2.heap.size ∧ ∀ (j : Nat) x, (f :: t0)[j]? = some x → w2.cell? ⟨g, 0 + j, none⟩ = some (.string x) := by
    rcases hrc with ⟨h, _⟩ | ⟨g, cap, h1, h2, h3, h4⟩
    · cases h
    · rw [HN.out] at h1 h2
      exact ⟨g, cap, h1, h2, h3, h4⟩
  have hgw : W1.heap.size ≤ g := own_ge hown (j := g) rfl
  have hbx2 := bx_below HBX.out hb2
  have hlow2 := HB1.out.trans (hb2.mono HB1.out.size)
  obtain ⟨p0, p1, p2, p3, p4, pf3, pf4, pf1⟩ := cells5 hbx2.r2
  obtain ⟨pf0, pf2⟩ := froz5 hbx2.r2
  have k0 := hce 0 f rfl
  have hl0 : (0 : Int) < (N : Int) := by have := HN1.out; omega
  have hg3 : w.heap.size + 2 ≠ g := by have := HZ1.out; omega
  obtain ⟨W3, hW3⟩ : ∃ W3, w2.setCell ⟨w.heap.size + 2, 0, none⟩ (.string f) = W3 := ⟨_, rfl⟩
  have hbx3 : Bx w.heap.size (.string f) (.int .i64 1) (.slice none 0 0) (.int .i64 0) (.int .i64 (-1)) W3 := by rw [← hW3]; exact bx_set hbx2 rfl
  have hlow3 : Below w.heap.size w W3 := by rw [← hW3]; exact hlow2.setCell (p := ⟨w.heap.size + 2, 0, none⟩) (by show w.heap.size ≤ w.heap.size + 2; omega) _
  have hce3 : ∀ (j : Nat) x, (f :: t0)[j]? = some x → W3.cell? ⟨g, 0 + j, none⟩ = some (.string x) := fun j x h => by
    rw [← hW3]
    exact (World.cell?_setCell_other (w := w2) (v := .string f) (a := ⟨w.heap.size + 2, 0, none⟩) (b := ⟨g, 0 + j, none⟩) (by intro e; injection e with e1 _ _; exact hg3 e1)).trans (hce j x h)
  have HCE3 := Lib.hid hce3
  have HBX3 := Lib.hid hbx3
  have HLOW3 := Lib.hid hlow3
  have HW3 := Lib.hid hW3
  clear hown hrc hce hbx2 hlow2 hW3 hbx3 hlow3 hce3 hb2 HCUT
  go_upto_region 5 with fail
  rw [HW3.out]
  by_cases ho : s.toList = onceW
  · have hr : R = (0, { fq := s, ev := 1, ct := 0, un := -1, ds := [] }) := by rw [HRD.out, if_pos ho]
    obtain rfl := HFS.out ho
    subst hr
    simp only [onceW] at ho
    obtain ⟨z0, z1, z2, z3, z4, g3, g4, g1⟩ := cells5 HBX3.out.r0
    obtain ⟨g0, g2⟩ := froz5 HBX3.out.r0
    obtain ⟨p0, p1, p2, p3, p4, pf3, pf4, pf1⟩ := cells5 HBX3.out.r2
    obtain ⟨pf0, pf2⟩ := froz5 HBX3.out.r2
    go_wp2
    exact bodyPost_ret (res_rr (put5_row HBX3.out.r0) rfl rfl) rfl ⟨_, rfl, .inl ⟨rfl, none, 0, rfl⟩, (fun b o n c h => by cases h), put5_below HLOW3.out (Nat.le_refl _)⟩
  have ho' : (s.toList == [111, 110, 99, 101]) = false := by simpa using ho
  have hr : R = readCR (f :: t0) := by rw [HRD.out, if_neg ho]
  have HRR := Lib.hid hr
  clear hr HRD HFS ho p0 p1 p2 p3 p4 pf0 pf1 pf2 pf3 pf4 k0
  have k0 := HCE3.out 0 f rfl
  go_upto_region 7 with fail
  go_cut [49] from 23 to 49 (fun s49 wx => s49 = .bool (!headB (f :: t0)) ∧ Below W3.heap.size W3 wx)
  case first =>
    by_cases hname : Lib.containsS freqs f = false
    · obtain ⟨n1, n2, n3, n4, n5⟩ := not_name hname
      have q2 : (f.toList == [100, 97, 105, 108, 121]) = false := by simpa using n2
      have q3 : (f.toList == [119, 101, 101, 107, 108, 121]) = false := by simpa using n3
      have q4 : (f.toList == [109, 111, 110, 116, 104, 108, 121]) = false := by simpa using n4
      have q5 : (f.toList == [121, 101, 97, 114, 108, 121]) = false := by simpa using n5
      have hh : headB (f :: t0) = false := by
        rcases t0 with _ | ⟨n, t⟩
        · rfl
        · simp only [headB, hname, Bool.and_false]
      have HH := Lib.hid hh
      clear n1 n2 n3 n4 n5 hname hh
      go_wp2_with fail
      go_meet
      exact ⟨by rw [HH.out]; rfl, Below.refl _ _⟩
    · have hname' : Lib.containsS freqs f = true := by simpa using hname
      have hhb : headB (f :: t0) = (!(f.toList == [111, 110, 99, 101]) && !decide ((N : Int) < 2)) := by
        have := HN1.out
        rcases t0 with _ | ⟨n, t⟩
        · simp at this
          subst this
          simp [headB]
        · have h2 : ¬ (N : Int) < 2 := by simp at this; omega
          simp only [headB, hname', Bool.and_true, decide_eq_false h2, onceW, Bool.not_false]
      rw [ByteArray.toList_eq] at hhb
      have HH := Lib.hid hhb
      have HN0 := Lib.hid hname'
      clear hname hname' hhb
      rcases freqs_mem HN0.out with h | h | h | h | h
      all_goals (
        subst h
        go_wp2_with fail
        go_meet
        exact ⟨by rw [HH.out]; first | rfl | (cases decide ((N : Int) < 2) <;> rfl), Below.refl _ _⟩)
  case rest =>
    obtain ⟨rfl, hbc⟩ := hcut
    obtain ⟨b, hb⟩ : ∃ b, headB (f :: t0) = b := ⟨_, rfl⟩
    rw [hb]
    have hlow4 := HLOW3.out.trans (hbc.mono HLOW3.out.size)
    have hbx4 := bx_below HBX3.out hbc
    have hce4 := fun j x h => cell_later hbc (HCE3.out j x h)
    have HLOW4 := Lib.hid hlow4
    have HBX4 := Lib.hid hbx4
    have HCE4 := Lib.hid hce4
    have HB := Lib.hid hb
    clear hbc hb hlow4 hbx4 hce4 HLOW3 HBX3 HCE3 k0
    obtain ⟨z0, z1, z2, z3, z4, g3, g4, g1⟩ := cells5 HBX4.out.r0
    obtain ⟨g0, g2⟩ := froz5 HBX4.out.r0
    obtain ⟨y0, y1, y2, y3, y4, x3, x4, x1⟩ := cells5 HBX4.out.r1
    cases b with
    | false =>
      have hr : R = (1, zeroRu) := by
        rw [HRR.out]
        rcases t0 with _ | ⟨n, t⟩
        · rfl
        · simp only [readCR, HB.out]; exact if_neg (by simp)
      clear HRR
      go_wp2
      exact bodyPost_ret (res_rr (put5_row HBX4.out.r0) rfl rfl) rfl (rr_none hr HLOW4.out)
    | true =>
      obtain ⟨n, t, rfl⟩ : ∃ n t, t0 = n :: t := by
        rcases t0 with _ | ⟨n, t⟩
        · exact absurd HB.out (by simp [headB])
        · exact ⟨n, t, rfl⟩
      have hN2 : N = t.length + 1 + 1 := HN1.out
      have HN2 := Lib.hid hN2
      have hl1 : (1 : Int) < (N : Int) := by omega
      have k1 := HCE4.out 1 n rfl
      obtain ⟨q, hq⟩ : ∃ q, numOk n.data.toList = q := ⟨_, rfl⟩
      have HQ := Lib.hid hq
      obtain ⟨nn, hnn⟩ : ∃ nn, (if numOk n.data.toList = true then numIs n.data.toList else -1) = nn := ⟨_, rfl⟩
      have hnum := fun W => num_call n W (HLS.out n (by simp)) hnn
      have HNUM := Lib.hid hnum
      have HNN := Lib.hid hnn
      clear hq hnum hnn hN2
      go_wp2_with fail
      (with_reducible refine (HNUM.out _).mono ?_)
      rintro e2 w3 ⟨rfl, hb3⟩
      have hlow5 := HLOW4.out.trans (hb3.mono HLOW4.out.size)
      have hbx5 := bx_below HBX4.out hb3
      have hce5 := fun j x h => cell_later hb3 (HCE4.out j x h)
      obtain ⟨W5, hW5⟩ : ∃ W5, w3.setCell ⟨w.heap.size + 2, 1, none⟩ (.int .i64 nn) = W5 := ⟨_, rfl⟩
      have hbx6 : Bx w.heap.size (.string f) (.int .i64 nn) (.slice none 0 0) (.int .i64 0) (.int .i64 (-1)) W5 := by rw [← hW5]; exact bx_set hbx5 rfl
      have hlow6 : Below w.heap.size w W5 := by rw [← hW5]; exact hlow5.setCell (p := ⟨w.heap.size + 2, 1, none⟩) (by show w.heap.size ≤ w.heap.size + 2; omega) _
      have hce6 : ∀ (j : Nat) x, (f :: n :: t)[j]? = some x → W5.cell? ⟨g, 0 + j, none⟩ = some (.string x) := fun j x h => by
        rw [← hW5]
        exact (World.cell?_setCell_other (w := w3) (v := .int .i64 nn) (a := ⟨w.heap.size + 2, 1, none⟩) (b := ⟨g, 0 + j, none⟩) (by intro e; injection e with e1 _ _; exact hg3 e1)).trans (hce5 j x h)
      obtain ⟨p0, p1, p2, p3, p4, pf3, pf4, pf1⟩ := cells5 hbx5.r2
      obtain ⟨pf0, pf2⟩ := froz5 hbx5.r2
      have HCE6 := Lib.hid hce6
      have HBX6 := Lib.hid hbx6
      have HLOW6 := Lib.hid hlow6
      have HW5 := Lib.hid hW5
      clear hb3 hlow5 hbx5 hce5 hW5 hbx6 hlow6 hce6 k1 z0 z1 z2 z3 z4 g0 g1 g2 g3 g4 y0 y1 y2 y3 y4 x1 x3 x4 HBX4 HCE4 HLOW4 HNUM
      go_upto_region 10 with fail
      rw [HW5.out]
      clear p0 p1 p2 p3 p4 pf0 pf1 pf2 pf3 pf4
      obtain ⟨z0, z1, z2, z3, z4, g3, g4, g1⟩ := cells5 HBX6.out.r0
      obtain ⟨g0, g2⟩ := froz5 HBX6.out.r0
      obtain ⟨y0, y1, y2, y3, y4, x3, x4, x1⟩ := cells5 HBX6.out.r1
      obtain ⟨p0, p1, p2, p3, p4, pf3, pf4, pf1⟩ := cells5 HBX6.out.r2
      obtain ⟨pf0, pf2⟩ := froz5 HBX6.out.r2
      cases q with
      | false =>
        have hr : R = (1, zeroRu) := by
          rw [HRR.out]
          simp only [readCR, HQ.out]; exact if_neg (by simp)
        obtain rfl : -1 = nn := by have := HNN.out; rwa [HQ.out] at this
        clear HRR
        go_wp2
        exact bodyPost_ret (res_rr (put5_row HBX6.out.r0) rfl rfl) rfl (rr_none hr HLOW6.out)
      | true =>
        have hnn : numIs n.data.toList = nn := by have := HNN.out; rw [HQ.out] at this; simpa using this
        have hn0 := (num_of HQ.out).1
        rw [hnn] at hn0
        have hn1 : decide (nn < 0) = false := decide_eq_false (by omega)
        have hRu : R = (if tailC (midOf t).2 ≠ 0 then (tailC (midOf t).2, zeroRu)
            else if tailB (midOf t).2 = false then (1, zeroRu)
            else if bad (ruleOf f n t) ≠ 0 then (bad (ruleOf f n t), zeroRu) else (0, ruleOf f n t)) := by
          rw [HRR.out]
          simp only [readCR, HB.out, HQ.out]
          exact if_pos ⟨trivial, trivial⟩
        have HRU := Lib.hid hRu
        have HNV := Lib.hid hnn
        have hM2 : (2 : Int) ≤ (N : Int) := by omega
        have hM3 : 2 ≤ N := by omega
        clear hRu hnn HRR HNN HN
        go_upto_if 64 with fail
        generalize hptr : (if cap = 2 then some (⟨g, 0, none⟩ : Addr) else some ⟨g, 2, none⟩) = ptr
        generalize hM : N - 2 = M
        generalize hC : cap - 2 = C
        have hMt : M = t.length := by have := HN2.out; omega
        have hMC : M ≤ C := by omega
        have HP := Lib.hid hptr
        have HM := Lib.hid hMt
        have HMC := Lib.hid hMC
        have HCC := Lib.hid hC
        clear hptr hM hMt hC hMC hl0 hl1 hM2 hM3 hn0 hn1
        have hz5 : w.heap.size + 2 < W5.heap.size := (Array.getElem?_eq_some_iff.1 HBX6.out.r2).1
        go_cut [6, 7, 8] from 60 to 76 (fun s6 s7 s8 wx => ∃ v, LsAt wx g s6 (midOf t).2 ∧ Bx w.heap.size (.string f) (.int .i64 nn) v (.int .i64 0) (.int .i64 (-1)) wx ∧ Ints.Reads wx v (midOf t).1 ∧ (∀ b o n c, v = .slice (some ⟨b, o, none⟩) n c → w.heap.size + 2 < b) ∧ Below w.heap.size w wx)
        case first =>
          cases t with
          | nil =>
            obtain rfl : M = 0 := HM.out
            go_wp2_with fail
            go_meet
            exact ⟨.slice none 0 0, .inl ⟨rfl, _, _, rfl⟩, HBX6.out, .inl ⟨rfl, none, 0, rfl⟩, (fun b o n c h => by cases h), HLOW6.out⟩
          | cons d t =>
            obtain rfl : ptr = some ⟨g, 2, none⟩ := by
              rw [← HP.out]
              exact if_neg (by have := HN2.out; simp at this; omega)
            have hM0 : 0 < M := by have := HM.out; simp at this; omega
            have hM1 : (0 : Int) < (M : Int) := by omega
            have hM2 : (1 : Int) ≤ (M : Int) := by omega
            have hM3 : 1 ≤ M := by omega
            have k2 := HCE6.out 2 d rfl
            have hd := fun W => weekdaysOf_any d W (Nat.le_trans (HLS.out d (by simp)) (by decide))
            have HD := Lib.hid hd
            clear hd
            go_wp2_with fail
            (with_reducible refine (HD.out _).mono ?_)
            rintro e3 w6 ⟨v, rfl, hv0, hv1, hb6⟩
            have hbx7 := bx_below HBX6.out hb6
            have hlow7 := HLOW6.out.trans (hb6.mono HLOW6.out.size)
            have hce7 := fun j x h => cell_later hb6 (HCE6.out j x h)
            have HBX7 := Lib.hid hbx7
            have HLOW7 := Lib.hid hlow7
            have HCE7 := Lib.hid hce7
            have HV := Lib.hid (And.intro hv0 hv1)
            have HMO := Lib.hid HM.out
            obtain ⟨ok, hok⟩ : ∃ ok, daysOk d = ok := ⟨_, rfl⟩
            rw [hok] at HV ⊢
            have HOK := Lib.hid hok
            clear hbx7 hlow7 hce7 hv0 hv1 hok HD k2 hb6
            clear z0 z1 z2 z3 z4 g0 g1 g2 g3 g4 y0 y1 y2 y3 y4 x1 x3 x4 p0 p1 p2 p3 p4 pf0 pf1 pf2 pf3 pf4
            cases ok with
            | false =>
              have hm : midOf (d :: t) = ([], d :: t) := by simp only [midOf, HOK.out]; rfl
              have HMID := Lib.hid hm
              clear hm
              go_wp2_with fail
              go_meet
              rw [HMID.out]
              refine ⟨.slice none 0 0, .inr ⟨2, C, by rw [HMO.out], fun j x hx => ?_⟩, HBX7.out, .inl ⟨rfl, none, 0, rfl⟩, (fun b o n c h => by cases h), HLOW7.out⟩
              have h := HCE7.out (j + 2) x (by simpa using hx)
              rw [show 0 + (j + 2) = 2 + j by omega] at h
              exact h
            | true =>
              have hm : midOf (d :: t) = (daysV d, t) := by simp only [midOf, HOK.out]; rfl
              have HMID := Lib.hid hm
              clear hm
              have hrv : Ints.Reads w6 v (daysV d) := by have := HV.out.1; rwa [if_pos rfl] at this
              have HV2 := Lib.hid (And.intro hrv HV.out.2)
              clear hrv HV
              obtain ⟨p0, p1, p2, p3, p4, pf3, pf4, pf1⟩ := cells5 HBX7.out.r2
              obtain ⟨pf0, pf2⟩ := froz5 HBX7.out.r2
              obtain ⟨va, vc, rfl⟩ := HV2.out.1.shape
              obtain ⟨dl, hdl⟩ : ∃ dl, (daysV d).length = dl := ⟨_, rfl⟩
              rw [hdl] at HV2 ⊢
              clear hdl
              go_wp2_with fail
              all_goals go_meet
              all_goals (
                rw [HMID.out]
                have hne : ∀ b o n c, Value.slice va dl vc = .slice (some ⟨b, o, none⟩) n c → w.heap.size + 2 < b := fun b o n c h => by have := HV2.out.2 b o n c h; omega
                have hst5 : Rng.Stay (fun x => x = w.heap.size + 2) w6.heap.size w6 (w6.setCell ⟨w.heap.size + 2, 2, none⟩ (.slice va dl vc)) := (Rng.Stay.refl (fun x => x = w.heap.size + 2) w6.heap.size w6).setCell (p := ⟨w.heap.size + 2, 2, none⟩) (.inl rfl) (fun o ho => by rw [HBX7.out.r2] at ho; cases ho; rfl) _
                have hml : M = t.length + 1 := HMO.out
                have hMC := HMC.out
                have hrd := reads_stay HV2.out.1 hst5 (fun b o n c h _ => Nat.ne_of_gt (hne b o n c h)) (Nat.le_refl _)
                have hbx8 : Bx w.heap.size (.string f) (.int .i64 nn) (.slice va dl vc) (.int .i64 0) (.int .i64 (-1)) (w6.setCell ⟨w.heap.size + 2, 2, none⟩ (.slice va dl vc)) := bx_set HBX7.out rfl
                have hlow8 : Below w.heap.size w (w6.setCell ⟨w.heap.size + 2, 2, none⟩ (.slice va dl vc)) := HLOW7.out.setCell (p := ⟨w.heap.size + 2, 2, none⟩) (by show w.heap.size ≤ w.heap.size + 2; omega) _
                refine ⟨.slice va dl vc, ?_, ⟨hbx8.r0, hbx8.r1, hbx8.r2⟩, hrd, hne, hlow8⟩
                by_cases htn : t = []
                · have hm : M - 1 = 0 := by rw [htn] at hml; simp at hml; omega
                  first
                    | (refine .inl ⟨htn, some ⟨g, 2, none⟩, 0, ?_⟩; rw [hm]; done)
                    | (refine .inl ⟨htn, some ⟨g, 3, none⟩, C - 1, ?_⟩; rw [hm]; done)
                · have htl : 0 < t.length := List.length_pos_iff.2 htn
                  have hm : M - 1 = t.length := by omega
                  first
                    | (exfalso; omega)
                    | (rw [hm]
                       refine .inr ⟨3, C - 1, rfl, fun j x hx => ?_⟩
                       have h6 := HCE7.out (j + 3) x (by simpa using hx)
                       rw [show 0 + (j + 3) = 3 + j by omega] at h6
                       exact (World.cell?_setCell_other (w := w6) (v := .slice va dl vc) (a := ⟨w.heap.size + 2, 2, none⟩) (b := ⟨g, 3 + j, none⟩) (by intro e; injection e with e1 _ _; exact hg3 e1)).trans h6))
        case rest =>
          obtain ⟨v, hls, hbx7, hrv, hvb, hlow7⟩ := hcut
          obtain ⟨tl, htl⟩ : ∃ tl, (midOf t).2 = tl := ⟨_, rfl⟩
          obtain ⟨ds, hds⟩ : ∃ ds, (midOf t).1 = ds := ⟨_, rfl⟩
          have hRu := HRU.out
          unfold ruleOf at hRu
          rw [HNV.out, htl, hds] at hRu
          have hsz : ∀ x ∈ tl, x.size ≤ 30000 := by
            intro x hx
            rw [← htl] at hx
            refine HLS.out x ?_
            refine List.mem_cons_of_mem _ (List.mem_cons_of_mem _ ?_)
            cases t with
            | nil => simp [midOf] at hx
            | cons d t =>
              simp only [midOf] at hx
              split at hx
              · exact List.mem_cons_of_mem _ hx
              · exact hx
          have hln : ds.length < 50000 := by
            rw [← hds]
            cases t with
            | nil => simp [midOf]
            | cons d t =>
              simp only [midOf]
              split
              · have h3 := pieces_len 44 d
                have h4 := HLS.out d (by simp)
                simp only [daysV, List.length_map]; omega
              · simp
          rw [htl] at hls
          rw [hds] at hrv
          have HRU2 := Lib.hid hRu
          have HSZ := Lib.hid hsz
          have HBX7 := Lib.hid hbx7
          have HRV7 := Lib.hid hrv
          have HVB := Lib.hid hvb
          have HLOW7 := Lib.hid hlow7
          have hz7 : w.heap.size + 2 < wc.heap.size := (Array.getElem?_eq_some_iff.1 hbx7.r2).1
          clear hRu htl hds hsz hbx7 hrv hvb hlow7 HRU HP HM HMC HCC HCE6 HBX6 HLOW6 HLS
          clear z0 z1 z2 z3 z4 g0 g1 g2 g3 g4 y0 y1 y2 y3 y4 x1 x3 x4 p0 p1 p2 p3 p4 pf0 pf1 pf2 pf3 pf4
          obtain ⟨va, vc, rfl⟩ := HRV7.out.shape
          obtain ⟨z0, z1, z2, z3, z4, g3, g4, g1⟩ := cells5 HBX7.out.r0
          obtain ⟨g0, g2⟩ := froz5 HBX7.out.r0
          obtain ⟨y0, y1, y2, y3, y4, x3, x4, x1⟩ := cells5 HBX7.out.r1
          obtain ⟨dl, hdl⟩ : ∃ dl, ds.length = dl := ⟨_, rfl⟩
          have HDL := Lib.hid hdl
          have HLN := Lib.hid hln
          rw [hdl] at HBX7 HVB HRV7
          clear hdl hln
          rcases tl with _ | ⟨k, _ | ⟨x, _ | ⟨y, ts⟩⟩⟩
          · obtain ⟨sa, sc, rfl⟩ : ∃ a c, u6 = .slice a 0 c := by
              rcases hls with ⟨_, h⟩ | ⟨off, c, h, _⟩
              · exact h
              · exact ⟨_, _, h⟩
            clear hls
            have hru : R = if bad { fq := f, ev := nn, ct := 0, un := -1, ds := ds } ≠ 0 then (bad { fq := f, ev := nn, ct := 0, un := -1, ds := ds }, zeroRu) else (0, { fq := f, ev := nn, ct := 0, un := -1, ds := ds }) := by
              rw [HRU2.out]
              exact (if_neg (by decide)).trans (if_neg (by decide))
            have hbxW := HBX7.out
            have hlowW := HLOW7.out
            have hrvW := HRV7.out
            have hln := HLN.out
            have HRR2 := Lib.hid hru
            have HCK := Lib.hid (ruleError_any { fq := f, ev := nn, ct := 0, un := (-1), ds := ds } (.slice va dl vc) wc hrvW hln)
            have HBXW := Lib.hid hbxW
            have HLOwc := Lib.hid hlowW
            have HRVW := Lib.hid hrvW
            obtain ⟨p0, p1, p2, p3, p4, pf3, pf4, pf1⟩ := cells5 hbxW.r2
            obtain ⟨pf0, pf2⟩ := froz5 hbxW.r2
            clear hru hbxW hlowW hrvW
            go_wp2_with fail
            (with_reducible refine HCK.out.mono ?_)
            rintro e5 w9 ⟨rfl, hb9⟩
            have hbx9 := bx_below HBXW.out hb9
            have hlow9 := HLOwc.out.trans (hb9.mono HLOwc.out.size)
            have hrv9 := HRVW.out.below hb9
            obtain ⟨z0, z1, z2, z3, z4, g3, g4, g1⟩ := cells5 hbx9.r0
            obtain ⟨g0, g2⟩ := froz5 hbx9.r0
            obtain ⟨y0, y1, y2, y3, y4, x3, x4, x1⟩ := cells5 hbx9.r1
            obtain ⟨p0, p1, p2, p3, p4, pf3, pf4, pf1⟩ := cells5 hbx9.r2
            obtain ⟨pf0, pf2⟩ := froz5 hbx9.r2
            obtain ⟨bq, hbq⟩ : ∃ bq, bad { fq := f, ev := nn, ct := 0, un := (-1), ds := ds } = bq := ⟨_, rfl⟩
            have hru := HRR2.out
            rw [hbq] at hru ⊢
            have HRR3 := Lib.hid hru
            have HBX9 := Lib.hid hbx9.r0
            have HLOW9 := Lib.hid hlow9
            have HRV9 := Lib.hid hrv9
            clear hbq hru hb9 hbx9 hlow9 hrv9 HCK HBXW HLOwc HRVW HRR2
            cases bq with
            | succ bq =>
              have hr : R = (bq + 1, zeroRu) := by rw [HRR3.out, if_pos (by omega)]
              obtain ⟨eI, heI⟩ : ∃ eI : Int, ((bq + 1 : Nat) : Int) = eI := ⟨_, rfl⟩
              have hgt : decide ((0 : Int) < eI) = true := decide_eq_true (by omega)
              rw [heI]
              have HEI := Lib.hid heI
              have HR := Lib.hid hr
              clear hr heI HRR3
              go_wp2
              rw [← HEI.out]
              exact bodyPost_ret (res_rr (put5_row HBX9.out) rfl rfl) rfl (rr_none HR.out HLOW9.out)
            | zero =>
              have hr : R = (0, { fq := f, ev := nn, ct := 0, un := (-1), ds := ds }) := by rw [HRR3.out, if_neg (by omega)]
              subst hr
              go_wp2
              exact bodyPost_ret (res_rr (put5_row HBX9.out) rfl rfl) rfl ⟨_, rfl, put5_reads HRV9.out (fun b o n c h1 _ => by have := HVB.out b o n c h1; omega), (fun b o n c h1 _ => by have := HVB.out b o n c h1; omega), put5_below HLOW9.out (Nat.le_refl _)⟩
          · obtain ⟨off, sc, rfl, hce⟩ : ∃ off c, u6 = .slice (some ⟨g, off, none⟩) 1 c ∧ ∀ (j : Nat) x, [k][j]? = some x → wc.cell? ⟨g, off + j, none⟩ = some (.string x) := by
              rcases hls with ⟨h, _⟩ | ⟨off, c, h, h2⟩
              · cases h
              · exact ⟨off, c, h, h2⟩
            clear hls hce
            have hr : R = (1, zeroRu) := by
              rw [HRU2.out]
              exact (if_neg (by simp [tailC])).trans (if_pos rfl)
            clear HRU2
            go_wp2
            exact bodyPost_ret (res_rr (put5_row HBX7.out.r0) rfl rfl) rfl (rr_none hr HLOW7.out)
          · obtain ⟨off, sc, rfl, hce⟩ : ∃ off c, u6 = .slice (some ⟨g, off, none⟩) 2 c ∧ ∀ (j : Nat) y, [k, x][j]? = some y → wc.cell? ⟨g, off + j, none⟩ = some (.string y) := by
              rcases hls with ⟨h, _⟩ | ⟨off, c, h, h2⟩
              · cases h
              · exact ⟨off, c, h, h2⟩
            have hx0 := hce 0 k rfl
            rw [Nat.add_zero] at hx0
            have hx1 := hce 1 x rfl
            have hxs := HSZ.out x (by simp)
            obtain ⟨p0, p1, p2, p3, p4, pf3, pf4, pf1⟩ := cells5 HBX7.out.r2
            obtain ⟨pf0, pf2⟩ := froz5 HBX7.out.r2
            clear hls hce
            by_cases hk : k.toList = countW
            · have hk1 : (k.toList == [99, 111, 117, 110, 116]) = true := by simpa using hk
              obtain ⟨nx, hnx⟩ : ∃ nx, (if numOk x.data.toList = true then numIs x.data.toList else -1) = nx := ⟨_, rfl⟩
              have HNX := Lib.hid (fun W => num_call x W hxs hnx)
              have HNE := Lib.hid hnx
              have HK := Lib.hid hk
              clear hnx hk
              go_wp2_with fail
              (with_reducible refine (HNX.out _).mono ?_)
              rintro e3 w8 ⟨rfl, hb8⟩
              have hbx8 := bx_below HBX7.out hb8
              have hlow8 := HLOW7.out.trans (hb8.mono HLOW7.out.size)
              have hrv8 := HRV7.out.below hb8
              obtain ⟨W9, hW9⟩ : ∃ W9, w8.setCell ⟨w.heap.size + 2, 3, none⟩ (.int .i64 nx) = W9 := ⟨_, rfl⟩
              have hbx9 : Bx w.heap.size (.string f) (.int .i64 nn) (.slice va dl vc) (.int .i64 nx) (.int .i64 (-1)) W9 := by rw [← hW9]; exact bx_set hbx8 rfl
              have hlow9 : Below w.heap.size w W9 := by rw [← hW9]; exact hlow8.setCell (p := ⟨w.heap.size + 2, 3, none⟩) (by show w.heap.size ≤ w.heap.size + 2; omega) _
              have hrv9 : Ints.Reads W9 (.slice va dl vc) ds := by
                rw [← hW9]
                exact reads_set2 hrv8 HVB.out
              obtain ⟨p0, p1, p2, p3, p4, pf3, pf4, pf1⟩ := cells5 hbx8.r2
              obtain ⟨pf0, pf2⟩ := froz5 hbx8.r2
              have HW9 := Lib.hid hW9
              have HBXX := Lib.hid hbx9
              have HLOWX := Lib.hid hlow9
              have HRVX := Lib.hid hrv9
              clear hb8 hbx8 hlow8 hrv8 hW9 hbx9 hlow9 hrv9 HNX
              go_upto_region 25 with fail
              rw [HW9.out]
              clear p0 p1 p2 p3 p4 pf0 pf1 pf2 pf3 pf4 z0 z1 z2 z3 z4 g0 g1 g2 g3 g4 y0 y1 y2 y3 y4 x1 x3 x4 hx0 hx1
              obtain ⟨z0, z1, z2, z3, z4, g3, g4, g1⟩ := cells5 HBXX.out.r0
              obtain ⟨g0, g2⟩ := froz5 HBXX.out.r0
              obtain ⟨y0, y1, y2, y3, y4, x3, x4, x1⟩ := cells5 HBXX.out.r1
              obtain ⟨p0, p1, p2, p3, p4, pf3, pf4, pf1⟩ := cells5 HBXX.out.r2
              obtain ⟨pf0, pf2⟩ := froz5 HBXX.out.r2
              have eC : tailC [k, x] = 0 := by simp only [tailC]; exact if_pos HK.out
              have eB : tailB [k, x] = (numOk x.data.toList && decide (0 < numIs x.data.toList)) := by simp only [tailB]; exact if_pos HK.out
              have eT : tailCt [k, x] 0 = numIs x.data.toList := by simp only [tailCt]; exact if_pos HK.out
              have eU : tailUn [k, x] (-1) = -1 := by simp only [tailUn]; exact if_pos HK.out
              have HEE := Lib.hid (And.intro eC (And.intro eB (And.intro eT eU)))
              clear eC eB eT eU
              by_cases hlt : nx < 1
              · have hlt1 : decide (nx < 1) = true := decide_eq_true hlt
                have hr : R = (1, zeroRu) := by
                  have hne := HNE.out
                  rw [HRU2.out, HEE.out.1, HEE.out.2.1]
                  refine (if_neg (by decide)).trans (if_pos ?_)
                  by_cases h : numOk x.data.toList = true
                  · rw [if_pos h] at hne
                    rw [h, hne, decide_eq_false (by omega)]; rfl
                  · simp [h]
                have HR := Lib.hid hr
                clear hr hlt HRU2 HEE
                go_wp2
                exact bodyPost_ret (res_rr (put5_row HBXX.out.r0) rfl rfl) rfl (rr_none HR.out HLOWX.out)
              · have hlt1 : decide (nx < 1) = false := decide_eq_false hlt
                have hru : R = if bad { fq := f, ev := nn, ct := nx, un := (-1), ds := ds } ≠ 0 then (bad { fq := f, ev := nn, ct := nx, un := (-1), ds := ds }, zeroRu) else (0, { fq := f, ev := nn, ct := nx, un := (-1), ds := ds }) := by
                  have hne := HNE.out
                  have h : numOk x.data.toList = true := by
                    by_cases h : numOk x.data.toList = true
                    · exact h
                    · rw [if_neg h] at hne; omega
                  rw [if_pos h] at hne
                  rw [HRU2.out, HEE.out.1, HEE.out.2.1, HEE.out.2.2.1, HEE.out.2.2.2, hne, h, decide_eq_true (by omega)]
                  exact (if_neg (by decide)).trans (if_neg (by decide))
                have hbxW := HBXX.out
                have hlowW := HLOWX.out
                have hrvW := HRVX.out
                have hln := HLN.out
                clear hlt
                have HRR2 := Lib.hid hru
                have HCK := Lib.hid (ruleError_any { fq := f, ev := nn, ct := nx, un := (-1), ds := ds } (.slice va dl vc) W9 hrvW hln)
                have HBXW := Lib.hid hbxW
                have HLOQ := Lib.hid hlowW
                have HRVW := Lib.hid hrvW
                obtain ⟨p0, p1, p2, p3, p4, pf3, pf4, pf1⟩ := cells5 hbxW.r2
                obtain ⟨pf0, pf2⟩ := froz5 hbxW.r2
                clear hru hbxW hlowW hrvW
                go_wp2_with fail
                (with_reducible refine HCK.out.mono ?_)
                rintro e5 w9 ⟨rfl, hb9⟩
                have hbx9 := bx_below HBXW.out hb9
                have hlow9 := HLOQ.out.trans (hb9.mono HLOQ.out.size)
                have hrv9 := HRVW.out.below hb9
                obtain ⟨z0, z1, z2, z3, z4, g3, g4, g1⟩ := cells5 hbx9.r0
                obtain ⟨g0, g2⟩ := froz5 hbx9.r0
                obtain ⟨y0, y1, y2, y3, y4, x3, x4, x1⟩ := cells5 hbx9.r1
                obtain ⟨p0, p1, p2, p3, p4, pf3, pf4, pf1⟩ := cells5 hbx9.r2
                obtain ⟨pf0, pf2⟩ := froz5 hbx9.r2
                obtain ⟨bq, hbq⟩ : ∃ bq, bad { fq := f, ev := nn, ct := nx, un := (-1), ds := ds } = bq := ⟨_, rfl⟩
                have hru := HRR2.out
                rw [hbq] at hru ⊢
                have HRR3 := Lib.hid hru
                have HBX9 := Lib.hid hbx9.r0
                have HLOW9 := Lib.hid hlow9
                have HRV9 := Lib.hid hrv9
                clear hbq hru hb9 hbx9 hlow9 hrv9 HCK HBXW HLOQ HRVW HRR2
                cases bq with
                | succ bq =>
                  have hr : R = (bq + 1, zeroRu) := by rw [HRR3.out, if_pos (by omega)]
                  obtain ⟨eI, heI⟩ : ∃ eI : Int, ((bq + 1 : Nat) : Int) = eI := ⟨_, rfl⟩
                  have hgt : decide ((0 : Int) < eI) = true := decide_eq_true (by omega)
                  rw [heI]
                  have HEI := Lib.hid heI
                  have HR := Lib.hid hr
                  clear hr heI HRR3
                  go_wp2
                  rw [← HEI.out]
                  exact bodyPost_ret (res_rr (put5_row HBX9.out) rfl rfl) rfl (rr_none HR.out HLOW9.out)
                | zero =>
                  have hr : R = (0, { fq := f, ev := nn, ct := nx, un := (-1), ds := ds }) := by rw [HRR3.out, if_neg (by omega)]
                  subst hr
                  go_wp2
                  exact bodyPost_ret (res_rr (put5_row HBX9.out) rfl rfl) rfl ⟨_, rfl, put5_reads HRV9.out (fun b o n c h1 _ => by have := HVB.out b o n c h1; omega), (fun b o n c h1 _ => by have := HVB.out b o n c h1; omega), put5_below HLOW9.out (Nat.le_refl _)⟩
            · have hk1 : (k.toList == [99, 111, 117, 110, 116]) = false := by simpa using hk
              by_cases hk2 : k.toList = untilW
              · have hk3 : (k.toList == [117, 110, 116, 105, 108]) = true := by simpa using hk2
                obtain ⟨dc, hdc⟩ : ∃ dc, dayC x.data.toList = dc := ⟨_, rfl⟩
                obtain ⟨dx, hdx⟩ : ∃ dx, dayX x.data.toList = dx := ⟨_, rfl⟩
                have hcall := fun W => rreadDay_any x W
                rw [hdc, hdx] at hcall
                have HCALL := Lib.hid hcall
                have HK := Lib.hid hk2
                have eC : tailC [k, x] = dc := by simp only [tailC]; exact (if_neg hk).trans ((if_pos hk2).trans hdc)
                have eB : tailB [k, x] = true := by simp only [tailB]; exact (if_neg hk).trans (decide_eq_true hk2)
                have eT : tailCt [k, x] 0 = 0 := by simp only [tailCt]; exact if_neg hk
                have eU : tailUn [k, x] (-1) = dx := by simp only [tailUn]; exact (if_neg hk).trans ((if_pos hk2).trans hdx)
                have HEE := Lib.hid (And.intro eC (And.intro eB (And.intro eT eU)))
                clear eC eB eT eU hk hk2 hdc hdx hcall
                go_wp2_with fail
                (with_reducible refine (HCALL.out _).mono ?_)
                rintro e3 w8 ⟨rfl, hb8⟩
                have hbx8 := bx_below HBX7.out hb8
                have hlow8 := HLOW7.out.trans (hb8.mono HLOW7.out.size)
                have hrv8 := HRV7.out.below hb8
                have HBX8 := Lib.hid hbx8
                have HLOW8 := Lib.hid hlow8
                clear p0 p1 p2 p3 p4 pf0 pf1 pf2 pf3 pf4 z0 z1 z2 z3 z4 g0 g1 g2 g3 g4 y0 y1 y2 y3 y4 x1 x3 x4 hx0 hx1
                cases dc with
                | succ dc =>
                  have hr : R = (dc + 1, zeroRu) := by
                    rw [HRU2.out, HEE.out.1]
                    exact if_pos (by omega)
                  obtain ⟨eI, heI⟩ : ∃ eI : Int, ((dc + 1 : Nat) : Int) = eI := ⟨_, rfl⟩
                  have hgt : decide ((0 : Int) < eI) = true := decide_eq_true (by omega)
                  rw [heI]
                  have HEI := Lib.hid heI
                  have HR := Lib.hid hr
                  obtain ⟨z0, z1, z2, z3, z4, g3, g4, g1⟩ := cells5 hbx8.r0
                  obtain ⟨g0, g2⟩ := froz5 hbx8.r0
                  obtain ⟨y0, y1, y2, y3, y4, x3, x4, x1⟩ := cells5 hbx8.r1
                  clear hr heI HRU2 HEE hb8 hbx8 hlow8 hrv8 HCALL
                  go_wp2
                  rw [← HEI.out]
                  exact bodyPost_ret (res_rr (put5_row HBX8.out.r0) rfl rfl) rfl (rr_none HR.out HLOW8.out)
                | zero =>
                  obtain ⟨W9, hW9⟩ : ∃ W9, w8.setCell ⟨w.heap.size + 2, 4, none⟩ (.int .i64 dx) = W9 := ⟨_, rfl⟩
                  have hbxW : Bx w.heap.size (.string f) (.int .i64 nn) (.slice va dl vc) (.int .i64 0) (.int .i64 dx) W9 := by rw [← hW9]; exact bx_set hbx8 rfl
                  have hlowW : Below w.heap.size w W9 := by rw [← hW9]; exact hlow8.setCell (p := ⟨w.heap.size + 2, 4, none⟩) (by show w.heap.size ≤ w.heap.size + 2; omega) _
                  have hrvW : Ints.Reads W9 (.slice va dl vc) ds := by
                    rw [← hW9]
                    exact reads_set2 hrv8 HVB.out
                  obtain ⟨p0, p1, p2, p3, p4, pf3, pf4, pf1⟩ := cells5 hbx8.r2
                  obtain ⟨pf0, pf2⟩ := froz5 hbx8.r2
                  have HW9 := Lib.hid hW9
                  have HXX := Lib.hid (And.intro hbxW (And.intro hlowW hrvW))
                  clear hb8 hbx8 hlow8 hrv8 hW9 hbxW hlowW hrvW HCALL
                  go_upto_region 32 with fail
                  rw [HW9.out]
                  clear p0 p1 p2 p3 p4 pf0 pf1 pf2 pf3 pf4
                  obtain ⟨hbxW, hlowW, hrvW⟩ := HXX.out
                  have hru : R = if bad { fq := f, ev := nn, ct := 0, un := dx, ds := ds } ≠ 0 then (bad { fq := f, ev := nn, ct := 0, un := dx, ds := ds }, zeroRu) else (0, { fq := f, ev := nn, ct := 0, un := dx, ds := ds }) := by
                    rw [HRU2.out, HEE.out.1, HEE.out.2.1, HEE.out.2.2.1, HEE.out.2.2.2]
                    exact (if_neg (by decide)).trans (if_neg (by decide))
                  have hln := HLN.out
                  have HRR2 := Lib.hid hru
                  have HCK := Lib.hid (ruleError_any { fq := f, ev := nn, ct := 0, un := dx, ds := ds } (.slice va dl vc) W9 hrvW hln)
                  have HBXW := Lib.hid hbxW
                  have HLOQ := Lib.hid hlowW
                  have HRVW := Lib.hid hrvW
                  obtain ⟨p0, p1, p2, p3, p4, pf3, pf4, pf1⟩ := cells5 hbxW.r2
                  obtain ⟨pf0, pf2⟩ := froz5 hbxW.r2
                  clear hru hbxW hlowW hrvW
                  go_wp2_with fail
                  (with_reducible refine HCK.out.mono ?_)
                  rintro e5 w9 ⟨rfl, hb9⟩
                  have hbx9 := bx_below HBXW.out hb9
                  have hlow9 := HLOQ.out.trans (hb9.mono HLOQ.out.size)
                  have hrv9 := HRVW.out.below hb9
                  obtain ⟨z0, z1, z2, z3, z4, g3, g4, g1⟩ := cells5 hbx9.r0
                  obtain ⟨g0, g2⟩ := froz5 hbx9.r0
                  obtain ⟨y0, y1, y2, y3, y4, x3, x4, x1⟩ := cells5 hbx9.r1
                  obtain ⟨p0, p1, p2, p3, p4, pf3, pf4, pf1⟩ := cells5 hbx9.r2
                  obtain ⟨pf0, pf2⟩ := froz5 hbx9.r2
                  obtain ⟨bq, hbq⟩ : ∃ bq, bad { fq := f, ev := nn, ct := 0, un := dx, ds := ds } = bq := ⟨_, rfl⟩
                  have hru := HRR2.out
                  rw [hbq] at hru ⊢
                  have HRR3 := Lib.hid hru
                  have HBX9 := Lib.hid hbx9.r0
                  have HLOW9 := Lib.hid hlow9
                  have HRV9 := Lib.hid hrv9
                  clear hbq hru hb9 hbx9 hlow9 hrv9 HCK HBXW HLOQ HRVW HRR2
                  cases bq with
                  | succ bq =>
                    have hr : R = (bq + 1, zeroRu) := by rw [HRR3.out, if_pos (by omega)]
                    obtain ⟨eI, heI⟩ : ∃ eI : Int, ((bq + 1 : Nat) : Int) = eI := ⟨_, rfl⟩
                    have hgt : decide ((0 : Int) < eI) = true := decide_eq_true (by omega)
                    rw [heI]
                    have HEI := Lib.hid heI
                    have HR := Lib.hid hr
                    clear hr heI HRR3
                    go_wp2
                    rw [← HEI.out]
                    exact bodyPost_ret (res_rr (put5_row HBX9.out) rfl rfl) rfl (rr_none HR.out HLOW9.out)
                  | zero =>
                    have hr : R = (0, { fq := f, ev := nn, ct := 0, un := dx, ds := ds }) := by rw [HRR3.out, if_neg (by omega)]
                    subst hr
                    go_wp2
                    exact bodyPost_ret (res_rr (put5_row HBX9.out) rfl rfl) rfl ⟨_, rfl, put5_reads HRV9.out (fun b o n c h1 _ => by have := HVB.out b o n c h1; omega), (fun b o n c h1 _ => by have := HVB.out b o n c h1; omega), put5_below HLOW9.out (Nat.le_refl _)⟩
              · have hk3 : (k.toList == [117, 110, 116, 105, 108]) = false := by simpa using hk2
                have hr : R = (1, zeroRu) := by
                  have eC : tailC [k, x] = 0 := by simp only [tailC]; exact (if_neg hk).trans (if_neg hk2)
                  have eB : tailB [k, x] = false := by simp only [tailB]; exact (if_neg hk).trans (decide_eq_false hk2)
                  rw [HRU2.out, eC, eB]
                  exact (if_neg (by decide)).trans (if_pos rfl)
                have HR := Lib.hid hr
                clear hr hk hk2 HRU2
                go_wp2
                exact bodyPost_ret (res_rr (put5_row HBX7.out.r0) rfl rfl) rfl (rr_none (c := 1) HR.out HLOW7.out)
          · obtain ⟨Q, hQ⟩ : ∃ Q, (k :: x :: y :: ts).length = Q := ⟨_, rfl⟩
            have hQ3 : 3 ≤ Q := by rw [← hQ]; simp
            obtain ⟨off, sc, rfl⟩ : ∃ off c, u6 = .slice (some ⟨g, off, none⟩) Q c := by
              rcases hls with ⟨h, _⟩ | ⟨off, c, h, h2⟩
              · cases h
              · rw [hQ] at h; exact ⟨off, c, h⟩
            have hr : R = (1, zeroRu) := by
              rw [HRU2.out]
              exact (if_neg (by simp [tailC])).trans (if_pos rfl)
            have hq0 : (0 : Int) < (Q : Int) := by omega
            have hq2 : ((Q : Int) == 2) = false := by simp; omega
            have hq4 : ((Q : Int) != 2) = true := by simp; omega
            clear hls HRU2 hQ
            go_wp2
            exact bodyPost_ret (res_rr (put5_row HBX7.out.r0) rfl rfl) rfl (rr_none hr HLOW7.out)
end Rct
end Go.Proofs.YtkhkhbeolhhomaaGreatDoor
