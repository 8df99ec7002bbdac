/- rule.Read: a text as a rule. -/
import Derived.Test.YtmlndamkcipebaaDoorRuleTail
import Derived.BigQuiet
import Derived.Deep.QuietTactic
namespace Go.Proofs.YtmlndamkcipebaaDoor
open Go Go.RowKit Go.Shelf Lmd
namespace Rul
open Er Day Cand

abbrev onceW : List UInt8 := [111, 110, 99, 101]
/-- are the first two words a rule's -/
def headB (L : List ByteArray) : Bool :=
  match L with
  | f :: _ :: _ => !(f.toList == onceW) && Lib.containsS freqs f
  | _ => false
/-- the days, and what follows them -/
def midOf (L : List ByteArray) : List Int × List ByteArray :=
  match L with
  | d :: t => if daysOk d = true then (daysV d, t) else ([], d :: t)
  | [] => ([], [])
def ruleOf (f n : ByteArray) (t : List ByteArray) : Ru := { fq := f, ev := numIs n.data.toList, ct := tailCt (midOf t).2 0, un := tailUn (midOf t).2 (-1), ds := (midOf t).1 }
def zeroRu : Ru := { fq := ⟨#[]⟩, ev := 0, ct := 0, un := 0, ds := [] }
/-- a text as a rule: the error's number (0: none), and the rule -/
def readCR (L : List ByteArray) : Nat × Ru :=
  match L with
  | f :: n :: t =>
    if headB L = true ∧ numOk n.data.toList = true then
      (if tailC (midOf t).2 ≠ 0 then (tailC (midOf t).2, zeroRu)
       else if tailB (midOf t).2 = false then (1, zeroRu)
       else if bad (ruleOf f n t) ≠ 0 then (bad (ruleOf f n t), zeroRu) else (0, ruleOf f n t))
    else (1, zeroRu)
  | _ => (1, zeroRu)
def readS (s : ByteArray) : Nat × Ru := if s.toList = onceW then (0, { fq := s, ev := 1, ct := 0, un := -1, ds := [] }) else readCR (pieces 32 s)

theorem splitB_le (sep : ByteArray) : ∀ (k : Nat) (s x : ByteArray), x ∈ Lib.splitB sep 0 k s → x.size ≤ s.size
  | 0, s, x, h => by rw [Lib.splitB_zero] at h; simp at h; rw [h]; exact Nat.le_refl _
  | k + 1, s, x, h => by
    rcases Lib.indexB_cases s sep with hix | ⟨i, hix, hle⟩
    · rw [Lib.splitB_miss _ _ _ _ hix] at h; simp at h; rw [h]; exact Nat.le_refl _
    · rw [Lib.splitB_hit _ _ _ _ i hix] at h
      rcases List.mem_cons.1 h with rfl | h
      · rw [ByteArray.size_extract]; omega
      · have := splitB_le sep k _ x h
        rw [ByteArray.size_extract] at this; omega
theorem pieces_le {c : UInt8} {s x : ByteArray} (h : x ∈ pieces c s) : x.size ≤ s.size := splitB_le _ _ _ _ h

theorem split_any (s : ByteArray) (m : Int) (w : World) (hs : s.size < 4294967281) (hm : w.cell? ⟨13, 0, none⟩ = some (.int .i64 m)) :
    Calls Tryd.prog 76 #[.string s, .string ⟨#[32]⟩] w fun e w' => e = .returned (.slice (some ⟨w.heap.size, 0, none⟩) (pieces 32 s).length (pieces 32 s).length) ∧ w' = w.alloc (.cells ((pieces 32 s).map Value.string).toArray 9) := by
  have hl : (pieces 32 s).length = Lib.countB s ⟨#[32]⟩ + 1 := Lib.splitB_all ⟨#[32]⟩ (Nat.le_refl 1) _ _ _ rfl
  rw [hl]
  exact Tryd.strings_Split s ⟨#[32]⟩ m w hs hm (Nat.le_refl 1)

theorem froz5 {w : World} {b : Nat} {a0 a1 a2 a3 a4 : Value} {t : TypeId} (h : w.heap[b]? = some (.cells #[a0, a1, a2, a3, a4] t (0, 0))) : w.frozen? ⟨b, 0, none⟩ = false ∧ w.frozen? ⟨b, 2, none⟩ = false := by
  simp [World.frozen?, h]

theorem drew_row {W : World} {b : Nat} {o : Obj} (h : W.heap[b]? = some o) : W.drew.heap[b]? = some o := h
theorem below_drew {B : Nat} {a w : World} (h : Below B a w) : Below B a w.drew := below_draw h 1
theorem put5_row {W : World} {b : Nat} {c0 c1 c2 c3 c4 : Value} {t : TypeId} (h : W.heap[b]? = some (.cells #[c0, c1, c2, c3, c4] t (0, 0))) {a0 a1 a2 a3 a4 : Value} : (((((W.setCell ⟨b, 0, none⟩ a0).setCell ⟨b, 1, none⟩ a1).setCell ⟨b, 2, none⟩ a2).setCell ⟨b, 3, none⟩ a3).setCell ⟨b, 4, none⟩ a4).heap[b]? = some (.cells #[a0, a1, a2, a3, a4] t (0, 0)) :=
  row_set (row_set (row_set (row_set (row_set h 0 a0) 1 a1) 2 a2) 3 a3) 4 a4
theorem put5_rowD {W : World} {b : Nat} {c0 c1 c2 c3 c4 : Value} {t : TypeId} (h : W.heap[b]? = some (.cells #[c0, c1, c2, c3, c4] t (0, 0))) {a0 a1 a2 a3 a4 : Value} : (((((W.setCell ⟨b, 0, none⟩ a0).setCell ⟨b, 1, none⟩ a1).setCell ⟨b, 2, none⟩ a2).setCell ⟨b, 3, none⟩ a3).setCell ⟨b, 4, none⟩ a4).drew.heap[b]? = some (.cells #[a0, a1, a2, a3, a4] t (0, 0)) := drew_row (put5_row h)
theorem put5_below {B b : Nat} {w W : World} (h : Below B w W) (hb : B ≤ b) {a0 a1 a2 a3 a4 : Value} : Below B w (((((W.setCell ⟨b, 0, none⟩ a0).setCell ⟨b, 1, none⟩ a1).setCell ⟨b, 2, none⟩ a2).setCell ⟨b, 3, none⟩ a3).setCell ⟨b, 4, none⟩ a4) :=
  ((((h.setCell (p := ⟨b, 0, none⟩) hb a0).setCell (p := ⟨b, 1, none⟩) hb a1).setCell (p := ⟨b, 2, none⟩) hb a2).setCell (p := ⟨b, 3, none⟩) hb a3).setCell (p := ⟨b, 4, none⟩) hb a4
theorem put5_belowD {B b : Nat} {w W : World} (h : Below B w W) (hb : B ≤ b) {a0 a1 a2 a3 a4 : Value} : Below B w (((((W.setCell ⟨b, 0, none⟩ a0).setCell ⟨b, 1, none⟩ a1).setCell ⟨b, 2, none⟩ a2).setCell ⟨b, 3, none⟩ a3).setCell ⟨b, 4, none⟩ a4).drew := below_drew (put5_below h hb)
theorem put5_far {W : World} {b : Nat} {a0 a1 a2 a3 a4 : Value} {k : Nat} (h : k ≠ b) : (((((W.setCell ⟨b, 0, none⟩ a0).setCell ⟨b, 1, none⟩ a1).setCell ⟨b, 2, none⟩ a2).setCell ⟨b, 3, none⟩ a3).setCell ⟨b, 4, none⟩ a4).heap[k]? = W.heap[k]? := by
  rw [Below.heap_setCell _ _ _ _ h, Below.heap_setCell _ _ _ _ h, Below.heap_setCell _ _ _ _ h, Below.heap_setCell _ _ _ _ h, Below.heap_setCell _ _ _ _ h]
theorem reads_stay {O : Nat → Prop} {hi : Nat} {w w' : World} {v : Value} {xs : List Int} (h : Ints.Reads w v xs) (hs : Rng.Stay O hi w w') (hv : ∀ b o n c, v = .slice (some ⟨b, o, none⟩) n c → n ≠ 0 → ¬ O b) (hh : w.heap.size ≤ hi) : Ints.Reads w' v xs := by
  rcases h with ⟨h1, h2⟩ | ⟨b, off, cap, rfl, hc⟩
  · exact .inl ⟨h1, h2⟩
  · refine .inr ⟨b, off, cap, rfl, fun i hi' => ?_⟩
    have hc1 := hc i hi'
    exact stay_cell hs hc1 (hv _ _ _ _ rfl (by omega)) (by have := cell_lt hc1; omega)
theorem drew_cell {W : World} {p : Addr} {v : Value} (h : W.cell? p = some v) : W.drew.cell? p = some v := h
theorem put5_reads {W : World} {b : Nat} {a0 a1 a2 a3 a4 v : Value} {xs : List Int} (hr : Ints.Reads W v xs) (hv : ∀ k o n c, v = .slice (some ⟨k, o, none⟩) n c → n ≠ 0 → k ≠ b) :
    Ints.Reads (((((W.setCell ⟨b, 0, none⟩ a0).setCell ⟨b, 1, none⟩ a1).setCell ⟨b, 2, none⟩ a2).setCell ⟨b, 3, none⟩ a3).setCell ⟨b, 4, none⟩ a4) v xs := by
  rcases hr with ⟨h1, h2⟩ | ⟨k, off, cap, rfl, hc⟩
  · exact .inl ⟨h1, h2⟩
  · refine .inr ⟨k, off, cap, rfl, fun i hi => ?_⟩
    have hc1 := hc i hi
    rw [← hc1]
    simp only [World.cell?]
    rw [put5_far (hv _ _ _ _ rfl (by omega))]
theorem reads_drew {w : World} {v : Value} {xs : List Int} (h : Ints.Reads w v xs) : Ints.Reads w.drew v xs := h
theorem res_read {W : World} {b : Nat} {a0 a1 a2 a3 a4 er : Value} {tmps : Array Value} (h : W.heap[b]? = some (.cells #[a0, a1, a2, a3, a4] 67 (0, 0))) (h2 : tmps.getD 2 undef = .pointer (some ⟨b, 0, none⟩)) (h3 : tmps.getD 3 undef = er) :
    (results Tryd.f42 tmps).run Tryd.prog W = .ok (.tuple #[.agg #[a0, a1, a2, a3, a4], er]) W := by
  obtain ⟨q0, q1, q2, q3, q4, _⟩ := cells5 h
  have h2' : tmps[2]?.getD undef = .pointer (some ⟨b, 0, none⟩) := by simpa using h2
  have h3' : tmps[3]?.getD undef = er := by simpa using h3
  simp [results, Tryd.f42, go_sem, h2', h3', q0, q1, q2, q3, q4]

set_option maxRecDepth 100000 in
set_option maxHeartbeats 8000000 in
theorem read_any (s : ByteArray) (m : Int) (e : Nat → Addr) (w : World) (hs : s.size ≤ 900) (he : E5 w e) (hE : ELib w) (htab : Lib.TabIs Tryd.prog w "internal/strconv.uint64pow10" .u64 Lib.pow10Tab) (hm : w.cell? ⟨13, 0, none⟩ = some (.int .i64 m)) :
    Calls Tryd.prog 42 #[.string s] w fun e' w' => ∃ v, e' = .returned (.tuple #[.agg #[.string (readS s).2.fq, .int .i64 (readS s).2.ev, v, .int .i64 (readS s).2.ct, .int .i64 (readS s).2.un], errV e (readS s).1]) ∧ Ints.Reads w' v (readS s).2.ds ∧ Below w.heap.size w w' := by
  obtain ⟨R, hR⟩ : ∃ R, readS s = R := ⟨_, rfl⟩
  rw [hR]
  have HR := Lib.hid hR
  clear hR
  have x0 := heap_new w (.cells #[.string ⟨#[]⟩, .int .i64 0, .slice none 0 0, .int .i64 0, .int .i64 0] 67)
  by_cases ho : s.toList = onceW
  · have hr : R = (0, { fq := s, ev := 1, ct := 0, un := -1, ds := [] }) := by rw [← HR.out, readS, if_pos ho]
    subst hr
    simp only [errV]
    simp only [onceW] at ho
    obtain ⟨q0, q1, q2, q3, q4, f3, f4, f1⟩ := cells5 x0
    go_enter Tryd.func42, Tryd.ntmps42
    go_wp2
    refine bodyPost_ret (v := .tuple #[.agg #[.string s, .int .i64 1, .slice none 0 0, .int .i64 0, .int .i64 (-1)], .nilIface]) ?_ rfl ?_
    · simp [results, Tryd.f42, go_sem]
    · exact ⟨_, rfl, .inl ⟨rfl, none, 0, rfl⟩, (Below.refl _ w).alloc (Nat.le_refl _) _⟩
  · have ho' : (s.toList == [111, 110, 99, 101]) = false := by simpa using ho
    obtain ⟨L, hL⟩ : ∃ L, pieces 32 s = L := ⟨_, rfl⟩
    have hr : R = readCR L := by rw [← HR.out, readS, if_neg ho, hL]
    obtain ⟨w1, hw1⟩ : ∃ w1, w.alloc (.cells #[.string ⟨#[]⟩, .int .i64 0, .slice none 0 0, .int .i64 0, .int .i64 0] 67) = w1 := ⟨_, rfl⟩
    have hb1 : Below w.heap.size w w1 := by rw [← hw1]; exact (Below.refl _ w).alloc (Nat.le_refl _) _
    have hz1 : w1.heap.size = w.heap.size + 1 := by rw [← hw1]; simp
    rw [hw1] at x0
    have hsp := split_any s m w1 (by omega) (cell_later hb1 hm)
    rw [hL] at hsp
    have HSP := Lib.hid hsp
    have HRR := Lib.hid hr
    have HB1 := Lib.hid hb1
    have hx0 := x0
    have HX0 := Lib.hid hx0
    have HE := Lib.hid he
    have HEL := Lib.hid hE
    have HT := Lib.hid htab
    have HL := Lib.hid hL
    clear hsp hr hb1 hx0 x0 he hE htab hL ho HR
    go_enter Tryd.func42, Tryd.ntmps42
    go_wp2_with fail
    refine HSP.out.mono ?_
    rintro e1 w2 ⟨rfl, hw2⟩
    have x2 := heap_new w1 (.cells (L.map Value.string).toArray 9)
    have hb2 : Below w1.heap.size w1 w2 := by rw [hw2]; exact (Below.refl _ w1).alloc (Nat.le_refl _) _
    rw [← hw2] at x2
    have hc2 : ∀ (j : Nat) x, L[j]? = some x → w2.cell? ⟨w.heap.size + 1, j, none⟩ = some (.string x) := fun j x hx => by rw [← hz1]; exact cell_of x2 (by simp [hx])
    have hx02 := row_below HX0.out hb2
    have HC2 := Lib.hid hc2
    have HB2 := Lib.hid (HB1.out.trans (hb2.mono (by omega)))
    have HX02 := Lib.hid hx02
    have hz2 : w1.heap.size < w2.heap.size := by rw [hw2]; simp
    clear hx02 hc2 hb2 x2 hw2 HSP HX0 HB1
    go_upto_region 4 with fail
    go_cut [33] from 17 (fun s33 wc => s33 = .bool (!headB L) ∧ Below w2.heap.size w2 wc)
    case first =>
      by_cases hlt : L.length < 2
      · have hd : decide ((L.length : Int) < 2) = true := decide_eq_true (by omega)
        have hh : headB L = false := by
          rcases L with _ | ⟨f, _ | ⟨n, t⟩⟩
          · rfl
          · rfl
          · simp at hlt; omega
        have HH := Lib.hid hh
        clear hh hlt
        go_quiet (fail)
        go_wp2_with fail
        go_meet
        exact ⟨by rw [HH.out]; rfl, below_draw (Below.refl _ w2) _⟩
      · obtain ⟨f, hf0, hh⟩ : ∃ f, L[0]? = some f ∧ headB L = (!(f.toList == [111, 110, 99, 101]) && Lib.containsS freqs f) := by
          rcases L with _ | ⟨f, _ | ⟨n, t⟩⟩
          · simp at hlt
          · simp at hlt
          · exact ⟨f, rfl, rfl⟩
        have hd : decide ((L.length : Int) < 2) = false := decide_eq_false (by omega)
        have hl0 : (0 : Int) < (L.length : Int) := by omega
        have k0 := HC2.out 0 f hf0
        have HH := Lib.hid hh
        clear hh hlt hf0
        cases hf : (f.toList == [111, 110, 99, 101]) with
        | true =>
          go_quiet (fail)
          go_wp2_with fail
          go_meet
          exact ⟨by rw [HH.out, hf]; rfl, below_draw (Below.refl _ w2) _⟩
        | false =>
          have hF := heap_new w2 (.cells freqsV 9)
          have HF := Lib.hid hF
          clear hF
          have k0b : (w2.alloc (.cells freqsV 9)).cell? ⟨w.heap.size + 1, 0, none⟩ = some (.string f) := cell_later ((Below.refl _ w2).alloc (Nat.le_refl _) _) k0
          obtain ⟨c, hc⟩ : ∃ c, Lib.containsS freqs f = c := ⟨_, rfl⟩
          have HC := Lib.hid hc
          clear hc
          go_region_with (first
            | (go_at_call 73; refine (freqs_new _).mono ?_; rintro e1 w1 ⟨rfl, rfl⟩)
            | (go_at_call 72; refine (freqs_has _ _ (by exact HF.out) _).mono ?_; rw [HC.out]; rintro e1 w1 ⟨rfl, rfl⟩))
          all_goals go_wp2_with fail
          all_goals go_meet
          all_goals exact ⟨by rw [HH.out, hf, HC.out]; rfl, below_draw ((Below.refl _ w2).alloc (Nat.le_refl _) _) 1⟩
    case rest =>
      obtain ⟨rfl, hbc⟩ := hcut
      obtain ⟨b, hb⟩ : ∃ b, headB L = b := ⟨_, rfl⟩
      rw [hb]
      have hbw := HB2.out.trans (hbc.mono (by omega))
      have hx3 := row_below HX02.out hbc
      have HBW := Lib.hid hbw
      have HX3 := Lib.hid hx3
      have HC3 := Lib.hid (fun j x h => cell_later hbc (HC2.out j x h))
      have HZ := Lib.hid hb
      obtain ⟨q0, q1, q2, q3, q4, f3, f4, f1⟩ := cells5 hx3
      obtain ⟨f0, f2⟩ := froz5 hx3
      have hzc : w.heap.size + 1 < wc.heap.size := by have := hbc.size; omega
      clear hbc hbw hx3 hb HC2 HB2 HX02
      cases b with
      | false =>
        have hr : R = (1, zeroRu) := by
          rw [HRR.out]
          rcases L with _ | ⟨f, _ | ⟨n, t⟩⟩
          · rfl
          · rfl
          · simp only [readCR, HZ.out]; exact if_neg (by simp)
        subst hr
        have cE := (HE.out.below HBW.out).s0.cell
        have hgl : 3 < w.heap.size := cell_lt HE.out.s0.cell
        clear HRR
        go_upto_region 5 with fail
        go_cut [3] from 34 (fun s3 wx => s3 = Er.ev (e 0) ∧ wx.heap[w.heap.size]? = some (.cells #[.string ⟨#[]⟩, .int .i64 0, .slice none 0 0, .int .i64 0, .int .i64 0] 67 (0, 0)) ∧ Below w.heap.size w wx)
        case first =>
          go_region_with (fail)
          all_goals go_wp2_with fail
          all_goals go_meet
          all_goals exact ⟨rfl, put5_rowD HX3.out, put5_belowD HBW.out (Nat.le_refl _)⟩
        case rest =>
          obtain ⟨rfl, hrow, hbx⟩ := hcut
          go_wp2
          exact bodyPost_ret (res_read hrow rfl rfl) rfl ⟨_, rfl, .inl ⟨rfl, none, 0, rfl⟩, hbx⟩
      | true =>
        obtain ⟨f, n, t, rfl⟩ : ∃ f n t, L = f :: n :: t := by
          rcases L with _ | ⟨f, _ | ⟨n, t⟩⟩
          · exact absurd HZ.out (by decide)
          · exact absurd HZ.out (by simp [headB])
          · exact ⟨f, n, t, rfl⟩
        have hLs : ∀ x ∈ f :: n :: t, x.size ≤ 900 := fun x hx => by
          rw [← HL.out] at hx
          exact Nat.le_trans (pieces_le hx) hs
        have k0 := HC3.out 0 f rfl
        have k1 := HC3.out 1 n rfl
        have hn := number_any n wc (Nat.le_trans (hLs n (by simp)) (by decide)) (HEL.out.below HBW.out) (Frame.tab_below (g := 12) (by kernel_rfl) HBW.out HT.out)
        have HN := Lib.hid hn
        have HLS := Lib.hid hLs
        obtain ⟨N, hN⟩ : ∃ N, (f :: n :: t).length = N := ⟨_, rfl⟩
        rw [hN]
        have hN2 : N = t.length + 1 + 1 := hN.symm
        have hl0 : (0 : Int) < (N : Int) := by omega
        have hl1 : (1 : Int) < (N : Int) := by omega
        have HN2 := Lib.hid hN2
        obtain ⟨q, hq⟩ : ∃ q, numOk n.data.toList = q := ⟨_, rfl⟩
        rw [hq] at HN
        have HQ := Lib.hid hq
        clear hn hLs hN hN2 hq
        go_wp2_with fail
        refine HN.out.mono ?_
        rintro e2 w3 ⟨nn, rfl, hnn, hb3⟩
        have hx4 := row_below HX3.out hb3
        have hbw3 := HBW.out.trans (hb3.mono (by omega))
        have HX4 := Lib.hid hx4
        have HBW2 := Lib.hid hbw3
        have HC4 := Lib.hid (fun j x h => cell_later hb3 (HC3.out j x h))
        have hz3 := hb3.size
        obtain ⟨q0, q1, q2, q3, q4, f3, f4, f1⟩ := cells5 hx4
        obtain ⟨f0, f2⟩ := froz5 hx4
        have hzc3 : w.heap.size + 1 < w3.heap.size := by omega
        have HNN := Lib.hid hnn
        replace k0 := HC4.out 0 f rfl
        replace k1 := HC4.out 1 n rfl
        clear hx4 hbw3 HC3 HX3 hb3 HBW HN hnn
        cases q with
        | false =>
          have hr : R = (1, zeroRu) := by
            rw [HRR.out]
            simp only [readCR, HQ.out]; exact if_neg (by simp)
          subst hr
          have cE := (HE.out.below HBW2.out).s0.cell
          have hgl : 3 < w.heap.size := cell_lt HE.out.s0.cell
          clear HRR
          go_upto_region 8 with fail
          go_cut [3] from 45 (fun s3 wx => s3 = Er.ev (e 0) ∧ wx.heap[w.heap.size]? = some (.cells #[.string ⟨#[]⟩, .int .i64 0, .slice none 0 0, .int .i64 0, .int .i64 0] 67 (0, 0)) ∧ Below w.heap.size w wx)
          case first =>
            go_region_with (fail)
            all_goals go_wp2_with fail
            all_goals go_meet
            all_goals exact ⟨rfl, put5_rowD HX4.out, put5_belowD HBW2.out (Nat.le_refl _)⟩
          case rest =>
            obtain ⟨rfl, hrow, hbx⟩ := hcut
            go_wp2
            exact bodyPost_ret (res_read hrow rfl rfl) rfl ⟨_, rfl, .inl ⟨rfl, none, 0, rfl⟩, hbx⟩
        | true =>
          have HNU := Lib.hid (HNN.out rfl)
          clear HNN
          have hRu : R = (if tailC (midOf t).2 ≠ 0 then (tailC (midOf t).2, zeroRu)
              else if tailB (midOf t).2 = false then (1, zeroRu)
              else if bad (ruleOf f n t) ≠ 0 then (bad (ruleOf f n t), zeroRu) else (0, ruleOf f n t)) := by
            rw [HRR.out]
            simp only [readCR, HZ.out, HQ.out]
            exact if_pos ⟨trivial, trivial⟩
          go_upto_if 56 with fail
          obtain ⟨w4, hw4⟩ : ∃ w4, w3.alloc (.cells #[.string f, .int .i64 nn, .slice none 0 0, .int .i64 0, .int .i64 (-1)] 67) = w4 := ⟨_, rfl⟩
          have x4 := heap_new w3 (.cells #[.string f, .int .i64 nn, .slice none 0 0, .int .i64 0, .int .i64 (-1)] 67)
          have hb4 : Below w3.heap.size w3 w4 := by rw [← hw4]; exact (Below.refl _ w3).alloc (Nat.le_refl _) _
          have hz4 : w4.heap.size = w3.heap.size + 1 := by rw [← hw4]; simp
          rw [hw4] at x4 ⊢
          have HB4 := Lib.hid hb4
          have HX40 := Lib.hid x4
          have HC5 := Lib.hid (fun j x h => cell_later hb4 (HC4.out j x h))
          clear hw4 x4 hb4 HC4 k0 k1 q0 q1 q2 q3 q4 f0 f1 f2 f3 f4
          generalize hptr : (if N = 2 then some (⟨w.heap.size + 1, 0, none⟩ : Addr) else some ⟨w.heap.size + 1, 2, none⟩) = ptr
          generalize hM : N - 2 = M
          have hMt : M = t.length := by have := HN2.out; omega
          have HP := Lib.hid hptr
          have HM := Lib.hid hMt
          have HM2 := Lib.hid hM
          clear hptr hM hMt hl0 hl1
          go_cut [4] from 52 (fun s4 wx => ∃ v, ReadsS wx s4 (midOf t).2 ∧ wx.heap[w3.heap.size]? = some (.cells #[.string f, .int .i64 nn, v, .int .i64 0, .int .i64 (-1)] 67 (0, 0)) ∧ Ints.Reads wx v (midOf t).1 ∧ (∀ b o n c, v = .slice (some ⟨b, o, none⟩) n c → n ≠ 0 → w3.heap.size < b) ∧ Below w3.heap.size w3 wx)
          case first =>
            cases t with
            | nil =>
              obtain rfl : M = 0 := HM.out
              go_wp2_with fail
              go_meet
              exact ⟨.slice none 0 0, .inl ⟨rfl, _, _, rfl⟩, HX40.out, .inl ⟨rfl, none, 0, rfl⟩, (fun b o n c h => by cases h), HB4.out⟩
            | cons d t =>
              obtain rfl : ptr = some ⟨w.heap.size + 1, 2, none⟩ := by
                rw [← HP.out]
                exact if_neg (by have := HN2.out; simp at this; omega)
              have hM0 : 0 < M := by have := HM.out; simp at this; omega
              have hM1 : (0 : Int) < (M : Int) := by omega
              have hM2 : (1 : Int) ≤ (M : Int) := by omega
              have hM3 : 1 ≤ M := by omega
              have k2 := HC5.out 2 d rfl
              have hd := days_any d w4 (Nat.le_trans (HLS.out d (by simp)) (by decide))
              have HD := Lib.hid hd
              clear hd
              go_wp2_with fail
              refine HD.out.mono ?_
              rintro e3 w5 ⟨v, rfl, hv0, hv1, hb5⟩
              have hx5 := row_below HX40.out hb5
              have hs5 := hb5.size
              have hb35 := HB4.out.trans (hb5.mono HB4.out.size)
              have hc6 := fun j x h => cell_later hb5 (HC5.out j x h)
              have HC6 := Lib.hid hc6
              have HX5 := Lib.hid hx5
              have HB5 := Lib.hid hb35
              have HV := Lib.hid (And.intro hv0 hv1)
              have HMO := Lib.hid HM.out
              obtain ⟨ok, hok⟩ : ∃ ok, daysOk d = ok := ⟨_, rfl⟩
              rw [hok] at HV ⊢
              have HOK := Lib.hid hok
              clear hx5 hb5 hb35 hc6 hv0 hv1 hok HD k2
              cases ok with
              | false =>
                have hm : midOf (d :: t) = ([], d :: t) := by simp only [midOf, HOK.out]; rfl
                have HMID := Lib.hid hm
                clear hm
                go_wp2_with fail
                go_meet
                rw [HMID.out]
                refine ⟨.slice none 0 0, .inr ⟨w.heap.size + 1, 2, M, by rw [HMO.out], fun j x hx => ?_⟩, HX5.out, .inl ⟨rfl, none, 0, rfl⟩, (fun b o n c h => by cases h), HB5.out⟩
                rw [Nat.add_comm 2 j]
                exact HC6.out (j + 2) x (by simpa using hx)
              | true =>
                have hm : midOf (d :: t) = (daysV d, t) := by simp only [midOf, HOK.out]; rfl
                have HMID := Lib.hid hm
                clear hm
                obtain ⟨q0, q1, q2, q3, q4, f3, f4, f1⟩ := cells5 HX5.out
                obtain ⟨f0, f2⟩ := froz5 HX5.out
                have HV2 := Lib.hid (HV.out.2 rfl)
                clear HV
                obtain ⟨va, vc, rfl⟩ := HV2.out.1.shape
                obtain ⟨dl, hdl⟩ : ∃ dl, (daysV d).length = dl := ⟨_, rfl⟩
                rw [hdl] at HV2 ⊢
                clear hdl
                go_wp2_with fail
                go_region_with (fail)
                all_goals go_wp2_with fail
                all_goals go_meet
                all_goals (
                  rw [HMID.out]
                  have hne : ∀ b o n c, Value.slice va dl vc = .slice (some ⟨b, o, none⟩) n c → w3.heap.size < b := fun b o n c h => by have := HV2.out.2 b o n c h; omega
                  have hst5 : Rng.Stay (fun x => x = w3.heap.size) w5.heap.size w5 (w5.setCell ⟨w3.heap.size, 2, none⟩ (.slice va dl vc))  := (Rng.Stay.refl (fun x => x = w3.heap.size) w5.heap.size w5).setCell (p := ⟨w3.heap.size, 2, none⟩) (.inl rfl) (fun o ho => by rw [HX5.out] at ho; cases ho; rfl) _
                  have hml : M = t.length + 1 := HMO.out
                  have hrd := reads_drew (reads_stay HV2.out.1 hst5 (fun b o n c h _ => Nat.ne_of_gt (hne b o n c h)) (Nat.le_refl _))
                  refine ⟨.slice va dl vc, ?_, drew_row (row_set HX5.out 2 _), hrd, (fun b o n c h _ => hne b o n c h), below_drew (HB5.out.setCell (p := ⟨w3.heap.size, 2, none⟩) (Nat.le_refl _) _)⟩
                  by_cases htn : t = []
                  · first | exact .inl ⟨htn, _, _, rfl⟩ | (exfalso; rw [htn] at hml; simp at hml; omega)
                  · have htl : 0 < t.length := List.length_pos_iff.2 htn
                    first
                      | (exfalso; omega)
                      | (refine .inr ⟨w.heap.size + 1, 3, M - 1, by rw [hml]; rfl, fun j x hx => ?_⟩
                         have h6 := HC6.out (j + 3) x (by simpa using hx)
                         rw [Nat.add_comm j 3] at h6
                         exact drew_cell (stay_cell (p := ⟨w.heap.size + 1, 3 + j, none⟩) hst5 h6 (by show ¬ w.heap.size + 1 = w3.heap.size; omega) (by show w.heap.size + 1 < w5.heap.size; omega))))
          case rest =>
            obtain ⟨v, hrs, hrow, hrv, hvb, hbx⟩ := hcut
            have hbw := HBW2.out.trans (hbx.mono (by omega))
            have hrow0 : wc.heap[w.heap.size]? = _ := (hbx.block _ (by omega)).trans HX4.out
            have HBW3 := Lib.hid hbw
            have HROW0 := Lib.hid hrow0
            have ht := tail_any f nn 0 (-1) v w3.heap.size (midOf t).2 u4 e wc (HE.out.below hbw) (HEL.out.below hbw) (Frame.tab_below (g := 12) (by kernel_rfl) hbw HT.out) hrow hrs ?hsz
            case hsz =>
              intro x hx
              refine Nat.le_trans (HLS.out x ?_) (by decide)
              refine List.mem_cons_of_mem _ (List.mem_cons_of_mem _ ?_)
              cases t with
              | nil => simp [midOf] at hx
              | cons d t =>
                simp only [midOf] at hx
                split at hx
                · exact List.mem_cons_of_mem _ hx
                · exact hx
            have HTL := Lib.hid ht
            have HRV := Lib.hid hrv
            have HVB := Lib.hid hvb
            have HBX := Lib.hid hbx
            clear ht hrs hrow hrv hvb hbx hbw hrow0 HB4 HX40 HC5
            go_wp2_with fail
            refine HTL.out.mono ?_
            rintro e4 w6 ⟨rfl, ct', un', hr6, hcu, hst⟩
            have hr6' := hr6
            obtain ⟨q0, q1, q2, q3, q4, f3, f4, f1⟩ := cells5 hr6
            have hrow6 : w6.heap[w.heap.size]? = _ := (hst.same w.heap.size _ HROW0.out (.inr ⟨by omega, by have := HBX.out.size; omega⟩))
            have hbw6 : Below w.heap.size w w6 := HBW3.out.trans (stay_below hst (fun b hb => by omega) (by have := HBW3.out.size; omega) (by have := HBW3.out.size; omega))
            have hrv6 := reads_stay HRV.out hst (fun b o n c h1 h2 => Nat.ne_of_gt (HVB.out b o n c h1 h2)) (Nat.le_refl _)
            obtain ⟨z0, z1, z2, z3, z4, g3, g4, g1⟩ := cells5 hrow6
            obtain ⟨g0, g2⟩ := froz5 hrow6
            have HR6 := Lib.hid hr6
            have HROW6 := Lib.hid hrow6
            have HBW6 := Lib.hid hbw6
            have HRV6 := Lib.hid hrv6
            have HCU := Lib.hid hcu
            have HRU := Lib.hid hRu
            clear hr6 hr6' hrow6 hbw6 hrv6 hcu hst HTL HRV hRu
            obtain ⟨tb, htb⟩ : ∃ tb, tailB (midOf t).2 = tb := ⟨_, rfl⟩
            obtain ⟨tc, htc⟩ : ∃ tc, tailC (midOf t).2 = tc := ⟨_, rfl⟩
            rw [htb, htc] at HCU ⊢
            have HTB := Lib.hid htb
            have HTC := Lib.hid htc
            clear htb htc
            cases tc with
            | succ tc =>
              have hr : R = (tc + 1, zeroRu) := by rw [HRU.out, if_pos (by rw [HTC.out]; omega), HTC.out]
              subst hr
              simp only [errV]
              go_wp2
              exact bodyPost_ret (res_read (put5_row HROW6.out) rfl rfl) rfl ⟨_, rfl, .inl ⟨rfl, none, 0, rfl⟩, put5_below HBW6.out (Nat.le_refl _)⟩
            | zero =>
              cases tb with
              | false =>
                have hr : R = (1, zeroRu) := by rw [HRU.out, if_neg (by rw [HTC.out]; omega), if_pos HTB.out]
                subst hr
                simp only [errV]
                have cE := (HE.out.below HBW6.out).s0.cell
                go_wp2
                exact bodyPost_ret (res_read (put5_row HROW6.out) rfl rfl) rfl ⟨_, rfl, .inl ⟨rfl, none, 0, rfl⟩, put5_below HBW6.out (Nat.le_refl _)⟩
              | true =>
                obtain ⟨h1, h2⟩ := HCU.out rfl rfl
                have hln : (midOf t).1.length < 1000 := by
                  cases t with
                  | nil => simp [midOf]
                  | cons d t =>
                    simp only [midOf]
                    split
                    · have h3 := pieces_len 44 d
                      have h4 := HLS.out d (by simp)
                      simp only [daysV, List.length_map]; omega
                    · simp
                have hck := chk_any (ruleOf f n t) v e w6 (HE.out.below HBW6.out).four HRV6.out hln
                have hru : R = if bad (ruleOf f n t) ≠ 0 then (bad (ruleOf f n t), zeroRu) else (0, ruleOf f n t) := by
                  rw [HRU.out, if_neg (by rw [HTC.out]; omega), if_neg (by rw [HTB.out]; decide)]
                have e1 : (ruleOf f n t).ev = nn := HNU.out.symm
                have e2 : (ruleOf f n t).ct = ct' := h1.symm
                have e3 : (ruleOf f n t).un = un' := h2.symm
                have e0 : (ruleOf f n t).fq = f := rfl
                have e4 : (ruleOf f n t).ds = (midOf t).1 := rfl
                obtain ⟨ru, hrr⟩ : ∃ ru, ruleOf f n t = ru := ⟨_, rfl⟩
                rw [hrr] at hck hru e0 e1 e2 e3 e4
                rw [e0, e1, e2, e3] at hck
                obtain ⟨bq, hbq⟩ : ∃ bq, bad ru = bq := ⟨_, rfl⟩
                rw [hbq] at hck hru
                have HCK := Lib.hid hck
                have HRR2 := Lib.hid hru
                have HE4 := Lib.hid (And.intro e0 (And.intro e1 (And.intro e2 (And.intro e3 e4))))
                clear h1 h2 hln hck hru e0 e1 e2 e3 e4 hrr hbq HRU HCU
                simp only [errV]
                go_wp2_with fail
                refine HCK.out.mono ?_
                rintro e5 w7 ⟨rfl, hb7⟩
                have hr7 := row_below HR6.out hb7
                have hrow7 := row_below HROW6.out hb7
                have HBW7 := Lib.hid (HBW6.out.trans (hb7.mono HBW6.out.size))
                have HRV7 := Lib.hid (HRV6.out.below hb7)
                obtain ⟨q0, q1, q2, q3, q4, f3, f4, f1⟩ := cells5 hr7
                obtain ⟨f0, f2⟩ := froz5 hr7
                obtain ⟨z0, z1, z2, z3, z4, g3, g4, g1⟩ := cells5 hrow7
                obtain ⟨g0, g2⟩ := froz5 hrow7
                have HROW7 := Lib.hid hrow7
                have HZ7 := Lib.hid hz3
                clear hr7 hrow7 hb7 HCK HR6 HROW6 HBW6 HRV6
                obtain ⟨rfl, rfl, rfl, rfl, e4⟩ := HE4.out
                have HE5 := Lib.hid e4
                clear e4
                cases bq with
                | succ bq =>
                  have hr : R = (bq + 1, zeroRu) := by rw [HRR2.out, if_pos (by omega)]
                  subst hr
                  simp only [errV]
                  go_wp2
                  exact bodyPost_ret (res_read (put5_row HROW7.out) rfl rfl) rfl ⟨_, rfl, .inl ⟨rfl, none, 0, rfl⟩, put5_below HBW7.out (Nat.le_refl _)⟩
                | zero =>
                  have hr : R = (0, ru) := by rw [HRR2.out, if_neg (by omega)]
                  subst hr
                  simp only [errV]
                  obtain ⟨va, vc, rfl⟩ := HRV7.out.shape
                  obtain ⟨dl, hdl⟩ : ∃ dl, (midOf t).1.length = dl := ⟨_, rfl⟩
                  rw [hdl] at HRV7 HVB q2 ⊢
                  clear hdl
                  go_wp2
                  have hrv := HRV7.out
                  rw [← HE5.out] at hrv
                  exact bodyPost_ret (res_read (put5_row HROW7.out) rfl rfl) rfl ⟨_, rfl, put5_reads hrv (fun b o n c h1 h2 => by have := HVB.out b o n c h1 h2; have := HZ7.out; omega), put5_below HBW7.out (Nat.le_refl _)⟩
end Rul
end Go.Proofs.YtmlndamkcipebaaDoor
