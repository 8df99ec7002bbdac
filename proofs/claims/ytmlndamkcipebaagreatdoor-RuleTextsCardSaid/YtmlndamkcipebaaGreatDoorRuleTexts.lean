/- The walk of the law RuleTexts. -/
import Derived.Test.YtmlndamkcipebaaGreatDoorRuled
import Derived.Test.YtmlndamkcipebaaGreatDoorRefReadRule
import Derived.Test.YtmlndamkcipebaaGreatDoorRefRuleText
import Derived.Test.YtmlndamkcipebaaGreatDoorRefError
import Derived.Test.YtmlndamkcipebaaGreatDoorIntsSame
import Derived.Test.YtmlndamkcipebaaGreatDoorCodedL1
import Derived.IntWalk
import Derived.Deep.DeepCutAuto
namespace Go.Proofs.YtmlndamkcipebaaGreatDoor
open Go Go.RowKit Go.Shelf Lmd
namespace Rtx
open Rul Er Day Cand

theorem bad_le (r : Ru) : bad r ≤ 11 := by
  unfold bad
  split
  · omega
  · split
    · omega
    · split
      · omega
      · split <;> omega
theorem dayC_le (l : List UInt8) : dayC l ≤ 11 := by
  unfold dayC
  split
  · split <;> omega
  · omega
theorem tailC_le (l : List ByteArray) : tailC l ≤ 11 := by
  rcases l with _ | ⟨k, _ | ⟨x, _ | ⟨y, t⟩⟩⟩
  · simp [tailC]
  · simp [tailC]
  · simp only [tailC]
    split
    · omega
    · split
      · exact dayC_le _
      · omega
  · simp [tailC]
theorem readS_le (s : ByteArray) : (readS s).1 ≤ 11 := by
  unfold readS
  split
  · exact Nat.zero_le _
  · generalize pieces 32 s = L
    rcases L with _ | ⟨f, _ | ⟨n, t⟩⟩
    · simp [readCR]
    · simp [readCR]
    · simp only [readCR]
      split
      · split
        · exact tailC_le _
        · split
          · show 1 ≤ 11; omega
          · split
            · exact bad_le _
            · exact Nat.zero_le _
      · show 1 ≤ 11; omega
theorem mid_len (t : List ByteArray) (n : Nat) (h : ∀ x ∈ t, x.size ≤ n) : (midOf t).1.length ≤ n + 1 := by
  cases t with
  | nil => simp [midOf]
  | cons d t =>
    simp only [midOf]
    split
    · have h3 := pieces_len 44 d
      have h4 := h d (by simp)
      simp only [daysV, List.length_map]; omega
    · simp
theorem readS_len (s : ByteArray) : (readS s).2.ds.length ≤ s.size + 1 := by
  unfold readS
  split
  · simp
  · have hp : ∀ x ∈ pieces 32 s, x.size ≤ s.size := fun x hx => pieces_le hx
    generalize pieces 32 s = L at hp
    rcases L with _ | ⟨f, _ | ⟨n, t⟩⟩
    · simp [readCR, zeroRu]
    · simp [readCR, zeroRu]
    · simp only [readCR]
      split
      · split
        · simp [zeroRu]
        · split
          · simp [zeroRu]
          · split
            · simp [zeroRu]
            · exact mid_len t _ (fun x hx => hp x (by simp [hx]))
      · simp [zeroRu]

set_option maxRecDepth 100000 in
set_option maxHeartbeats 1500000 in
/-- SameRule of two rules that hold the same -/
theorem sameRule_any (r : Ru) (va vb : Value) (w : World) (ha : Ints.Reads w va r.ds) (hb : Ints.Reads w vb r.ds) (hl : r.ds.length ≤ 1000000) :
    Calls Tryz.prog 31 #[.agg #[.string r.fq, .int .i64 r.ev, va, .int .i64 r.ct, .int .i64 r.un], .agg #[.string r.fq, .int .i64 r.ev, vb, .int .i64 r.ct, .int .i64 r.un]] w fun e w' => e = .returned (.bool true) ∧ Below w.heap.size w w' := by
  obtain ⟨aa, ca, rfl⟩ := ha.shape
  obtain ⟨ab, cb, rfl⟩ := hb.shape
  obtain ⟨W1, hW1⟩ : ∃ W1, (w.alloc (.cells #[.string r.fq, .int .i64 r.ev, .slice aa r.ds.length ca, .int .i64 r.ct, .int .i64 r.un] 53)).alloc (.cells #[.string r.fq, .int .i64 r.ev, .slice ab r.ds.length cb, .int .i64 r.ct, .int .i64 r.un] 53) = W1 := ⟨_, rfl⟩
  have hB1 : Below w.heap.size w W1 := by rw [← hW1]; exact ((Below.refl _ w).alloc (Nat.le_refl _) _).alloc (by simp) _
  have hs0 := Ints.sameInts_any W1 _ _ r.ds r.ds (ha.below hB1) (hb.below hB1) (by omega) (by omega)
  rw [decide_eq_true rfl] at hs0
  have HS0 := Lib.hid hs0
  have HB1 := Lib.hid hB1
  have HW1 := Lib.hid hW1
  obtain ⟨n, hn⟩ : ∃ n, r.ds.length = n := ⟨_, rfl⟩
  rw [hn] at HS0 HW1 ⊢
  clear hs0 hB1 hW1 ha hb hn
  go_enter Tryz.func31, Tryz.ntmps31
  go_wp2_with fail
  rw [HW1.out]
  (with_reducible refine HS0.out.mono ?_)
  rintro e1 w1 ⟨rfl, q, rfl⟩
  go_wp2
  go_ret
  exact ⟨rfl, below_drewN HB1.out q⟩

set_option maxRecDepth 100000 in
set_option maxHeartbeats 1500000 in
/-- a rule that does not pass has no text -/
theorem text_bad (r : Ru) (v : Value) (e : Nat → Addr) (w : World) (he : E4 w e) (hr : Ints.Reads w v r.ds) (hl : r.ds.length < 1000) (hb : bad r ≠ 0) :
    Calls Tryz.prog 30 #[.agg #[.string r.fq, .int .i64 r.ev, v, .int .i64 r.ct, .int .i64 r.un]] w fun e' w' => e' = .returned (.string ⟨#[]⟩) ∧ Below w.heap.size w w' := by
  obtain ⟨a, cap, rfl⟩ := hr.shape
  obtain ⟨W1, hW1⟩ : ∃ W1, w.alloc (.cells #[.string r.fq, .int .i64 r.ev, .slice a r.ds.length cap, .int .i64 r.ct, .int .i64 r.un] 53) = W1 := ⟨_, rfl⟩
  have hB : Below w.heap.size w W1 := by rw [← hW1]; exact (Below.refl _ w).alloc (Nat.le_refl _) _
  have hc := chk_any r _ e W1 (he.below hB) (hr.below hB) hl
  obtain ⟨q, hq⟩ : ∃ q, bad r = q := ⟨_, rfl⟩
  rw [hq] at hc hb
  have HC := Lib.hid hc
  have HB := Lib.hid hB
  have HW1 := Lib.hid hW1
  obtain ⟨n, hn⟩ : ∃ n, r.ds.length = n := ⟨_, rfl⟩
  rw [hn] at HC HW1 ⊢
  clear hc hB hW1 he hr hl hq hn
  cases q with
  | zero => exact absurd rfl hb
  | succ q =>
    clear hb
    go_enter Tryz.func30, Tryz.ntmps30
    go_wp2_with fail
    rw [HW1.out]
    (with_reducible refine HC.out.mono ?_)
    rintro e1 w2 ⟨rfl, hb2⟩
    have HB2 := Lib.hid (HB.out.trans (hb2.mono HB.out.size))
    clear hb2
    simp only [errV, ev]
    go_wp2
    go_ret
    exact ⟨rfl, HB2.out⟩

theorem text_all (r : Ru) (v : Value) (e : Nat → Addr) (w : World) (he : E4 w e) (hr : Ints.Reads w v r.ds) (hl : r.ds.length < 1000) (htab : Lib.TabIs Tryz.prog w "internal/strconv.uint64pow10" .u64 Lib.pow10Tab) :
    Calls Tryz.prog 30 #[.agg #[.string r.fq, .int .i64 r.ev, v, .int .i64 r.ct, .int .i64 r.un]] w fun e' w' => e' = .returned (.string (if bad r = 0 then mk (textL r) else ⟨#[]⟩)) ∧ Below w.heap.size w w' := by
  by_cases hb : bad r = 0
  · rw [if_pos hb]; exact text_good r v e w he hr hl hb htab
  · rw [if_neg hb]; exact text_bad r v e w he hr hl hb
set_option maxRecDepth 100000 in
set_option maxHeartbeats 3000000 in
theorem ruleTexts_any (r : Ru) (vr : Value) (s : ByteArray) (m : Int) (e : Nat → Addr) (w : World) (he : Errs w e) (hE : ELib w) (htab : Lib.TabIs Tryz.prog w "internal/strconv.uint64pow10" .u64 Lib.pow10Tab) (hm : w.cell? ⟨13, 0, none⟩ = some (.int .i64 m))
    (ha : Ints.Reads w vr r.ds) (hfa : r.fq.size ≤ 9223372036854775807) (hda : r.ds.length ≤ 9223372036854775807) :
    Calls Tryz.prog 4 #[r.val vr, .string s] w fun e' w' => e' = .returned (.bool true) ∧ Below w.heap.size w w' := by
  obtain ⟨aa, ca, rfl⟩ := ha.shape
  obtain ⟨W0, hW0⟩ : ∃ W0, w.alloc (.cells #[.string r.fq, .int .i64 r.ev, .slice aa r.ds.length ca, .int .i64 r.ct, .int .i64 r.un] 53) = W0 := ⟨_, rfl⟩
  have hB0 : Below w.heap.size w W0 := by rw [← hW0]; exact (Below.refl _ w).alloc (Nat.le_refl _) _
  have xa : W0.heap[w.heap.size]? = some (.cells #[.string r.fq, .int .i64 r.ev, .slice aa r.ds.length ca, .int .i64 r.ct, .int .i64 r.un] 53) := by rw [← hW0]; exact heap_new w _
  have HE := Lib.hid (he.below hB0)
  have HL := Lib.hid (hE.below hB0)
  have HT := Lib.hid (Frame.tab_below (g := 12) (by kernel_rfl) hB0 htab)
  have HM := Lib.hid (cell_later hB0 hm)
  have HA := Lib.hid (ha.below hB0)
  obtain ⟨la, hla⟩ : ∃ la : Int, (if 20 < r.fq.size ∨ 20 < r.ds.length then (1 : Int) else 0) = la := ⟨_, rfl⟩
  have hLA := fun w => longRule_any r aa ca w hfa hda
  simp only [Ru.val] at hLA
  rw [hla] at hLA
  have HLA := Lib.hid hLA
  have HLA2 := Lib.hid hla
  have HR := Lib.hid (ruled_any e W0 (Rul.four HE.out) HT.out)
  have HW0 := Lib.hid hW0
  have HB0 := Lib.hid hB0
  have XA := Lib.hid xa
  obtain ⟨dl, hdl⟩ : ∃ dl, r.ds.length = dl := ⟨_, rfl⟩
  have HDL := Lib.hid hdl
  obtain ⟨S, hS⟩ : ∃ S, s.size = S := ⟨_, rfl⟩
  have HS := Lib.hid hS
  clear he hE htab hm ha hLA hla hB0 xa hW0
  rw [hdl] at HLA XA HW0 HA
  simp only [Ru.val]
  rw [hdl]
  clear hdl
  go_enter Tryz.func4, Tryz.ntmps4
  go_upto_region 2 with (go_at_call 21; rw [HW0.out]; (with_reducible refine HR.out.mono ?_); rintro e1 w1 ⟨rfl, hb1⟩)
  have XA1 := Lib.hid (row_below XA.out hb1)
  have HB1 := Lib.hid hb1
  obtain ⟨p0, p1, p2, p3, p4, _⟩ := cells5 XA1.out
  clear hb1 XA HR
  go_cut [25] from 14 to 25 (fun c wc => c = .bool (decide (0 < la) || decide ((100 : Int) < (S : Int))) ∧ Below w1.heap.size w1 wc)
  case first =>
    by_cases h1 : (0 : Int) < la
    · have hd : decide ((0 : Int) < la) = true := decide_eq_true h1
      clear h1
      go_wp2_with fail
      (with_reducible refine (HLA.out _).mono ?_)
      rintro e2 w2 ⟨rfl, hb2⟩
      go_wp2_with fail
      go_meet
      exact ⟨by rw [hd]; rfl, hb2⟩
    · have hd : decide ((0 : Int) < la) = false := decide_eq_false h1
      clear h1
      go_wp2_with fail
      (with_reducible refine (HLA.out _).mono ?_)
      rintro e2 w2 ⟨rfl, hb2⟩
      go_wp2_with fail
      go_meet
      exact ⟨by rw [hd]; first | rfl | (rw [hS]; rfl), hb2⟩
  case rest =>
    obtain ⟨rfl, hbc⟩ := hcut
    have hb1c := HB1.out.trans (hbc.mono HB1.out.size)
    have XA2 := Lib.hid (row_below XA1.out hbc)
    have HE2 := Lib.hid (HE.out.below hb1c)
    have HL2 := Lib.hid (HL.out.below hb1c)
    have HT2 := Lib.hid (Frame.tab_below (g := 12) (by kernel_rfl) hb1c HT.out)
    have HM2 := Lib.hid (cell_later hb1c HM.out)
    have HA2 := Lib.hid (HA.out.below hb1c)
    have HBW := Lib.hid (HB0.out.trans (hb1c.mono HB0.out.size))
    clear hbc hb1c HE HL HT HM HA HB1 XA1 HB0 HW0 HLA p0 p1 p2 p3 p4
    obtain ⟨lg, hlg⟩ : ∃ lg, (decide (0 < la) || decide ((100 : Int) < (S : Int))) = lg := ⟨_, rfl⟩
    rw [hlg]
    have HLG := Lib.hid hlg
    clear hlg hS
    cases lg with
    | true =>
      go_wp2
      go_ret
      exact ⟨rfl, HBW.out⟩
    | false =>
      have hla0 : ¬ 0 < la := fun h => by have := HLG.out; rw [decide_eq_true h] at this; cases this
      have hS1 : ¬ (100 : Int) < (S : Int) := fun h => by have := HLG.out; rw [decide_eq_true h, Bool.or_true] at this; cases this
      have hds : r.ds.length ≤ 20 := by
        have h := HLA2.out
        split at h <;> omega
      have hss : s.size ≤ 100 := by rw [HS.out]; omega
      have HDS := Lib.hid hds
      have HSS := Lib.hid hss
      clear hla0 hS1 hds hss HLA2
      obtain ⟨p0, p1, p2, p3, p4, _⟩ := cells5 XA2.out
      have HRE := Lib.hid (ruleError_any r _ wc HA2.out (by have := HDS.out; omega))
      go_wp2_with fail
      (with_reducible refine HRE.out.mono ?_)
      rintro e2 w2 ⟨rfl, hb2⟩
      have XA3 := Lib.hid (row_below XA2.out hb2)
      have HOA := Lib.hid (own_any r _ w2 (HA2.out.below hb2) (by have := HDS.out; omega))
      obtain ⟨bI, hbI⟩ : ∃ bI : Int, ((bad r : Nat) : Int) = bI := ⟨_, rfl⟩
      rw [hbI]
      have HBI := Lib.hid hbI
      have HB2 := Lib.hid hb2
      clear p0 p1 p2 p3 p4 hbI hb2 HRE
      obtain ⟨p0, p1, p2, p3, p4, _⟩ := cells5 XA3.out
      go_wp2_with fail
      (with_reducible refine HOA.out.mono ?_)
      rintro e3 w3 ⟨v3, rfl, hr3, hb3⟩
      obtain ⟨a3, c3, rfl⟩ := hr3.shape
      rw [HDL.out] at hr3 ⊢
      have HR3 := Lib.hid hr3
      have HB3 := Lib.hid hb3
      clear p0 p1 p2 p3 p4 hr3 hb3 HOA
      go_upto_region 6 with fail
      obtain ⟨w4, hw4⟩ : ∃ w4, w3.alloc (.cells #[.string r.fq, .int .i64 r.ev, .slice a3 dl c3, .int .i64 r.ct, .int .i64 r.un] 53) = w4 := ⟨_, rfl⟩
      have hB34 : Below w3.heap.size w3 w4 := by rw [← hw4]; exact (Below.refl _ w3).alloc (Nat.le_refl _) _
      have hy4 := heap_new w3 (.cells #[.string r.fq, .int .i64 r.ev, .slice a3 dl c3, .int .i64 r.ct, .int .i64 r.un] 53)
      rw [hw4] at hy4 ⊢
      have hB24 := HB3.out.trans (hB34.mono HB3.out.size)
      have hBc4 := HB2.out.trans (hB24.mono HB2.out.size)
      have X4 := Lib.hid (row_below XA3.out hB24)
      have Y4 := Lib.hid hy4
      have HRX := Lib.hid (HA2.out.below hBc4)
      have HRY := Lib.hid (HR3.out.below hB34)
      have HE4 := Lib.hid (HE2.out.below hBc4)
      have HL4 := Lib.hid (HL2.out.below hBc4)
      have HT4 := Lib.hid (Frame.tab_below (g := 12) (by kernel_rfl) hBc4 HT2.out)
      have HM4 := Lib.hid (cell_later hBc4 HM2.out)
      have HBW4 := Lib.hid (HBW.out.trans (hBc4.mono HBW.out.size))
      clear hw4 hB34 hy4 hB24 hBc4 XA3 HB2 HB3 HR3 HE2 HL2 HT2 HM2 HA2 HBW XA2
      go_upto_if 32 with fail
      go_cut [8] from 31 to 34 (fun c wx => c = .string (if bad r = 0 then mk (textL r) else ⟨#[]⟩) ∧ Below w4.heap.size w4 wx)
      case first =>
        by_cases hbad : bad r = 0
        · obtain rfl : 0 = bI := by rw [← HBI.out, hbad]; rfl
          obtain ⟨p0, p1, p2, p3, p4, _⟩ := cells5 X4.out
          have HRT := Lib.hid (Rrt.ruleText_any r _ w4 HRX.out (by have := HDS.out; omega) hbad)
          have HBA := Lib.hid hbad
          clear hbad
          go_wp2_with fail
          (with_reducible refine HRT.out.mono ?_)
          rintro e5 w5 ⟨rfl, hb5⟩
          go_wp2_with fail
          go_meet
          exact ⟨by rw [if_pos HBA.out], hb5⟩
        · have hz : (bI == 0) = false := by have := HBI.out; simp; omega
          have HBA := Lib.hid hbad
          clear hbad
          go_wp2_with fail
          go_meet
          exact ⟨by rw [if_neg HBA.out], Below.refl _ _⟩
      case rest =>
        obtain ⟨rfl, hb5⟩ := hcut
        obtain ⟨WT, hWT⟩ : ∃ WT, (if bad r = 0 then mk (textL r) else ⟨#[]⟩ : ByteArray) = WT := ⟨_, rfl⟩
        rw [hWT]
        have HWT := Lib.hid hWT
        have Y5 := Lib.hid (row_below Y4.out hb5)
        have HRY5 := Lib.hid (HRY.out.below hb5)
        have HE5 := Lib.hid (HE4.out.below hb5)
        have HL5 := Lib.hid (HL4.out.below hb5)
        have HT5 := Lib.hid (Frame.tab_below (g := 12) (by kernel_rfl) hb5 HT4.out)
        have HM5 := Lib.hid (cell_later hb5 HM4.out)
        have HBW5 := Lib.hid (HBW4.out.trans (hb5.mono HBW4.out.size))
        clear hWT hb5 X4 Y4 HRX HRY HE4 HL4 HT4 HM4 HBW4
        have hrd := read_any s m e wc (by have := HSS.out; omega) (five HE5.out) HL5.out HT5.out HM5.out
        have hrr := fun W => Rct.readRule_any s W (by have := HSS.out; omega)
        have hn6 := readS_len s
        have hc6 := readS_le s
        obtain ⟨R, hR⟩ : ∃ R, readS s = R := ⟨_, rfl⟩
        rw [hR] at hrd hrr hn6 hc6
        have HRD := Lib.hid hrd
        have HRR := Lib.hid hrr
        have HN6 := Lib.hid hn6
        have HC6 := Lib.hid hc6
        clear hrd hrr hn6 hc6 hR
        go_wp2_with fail
        (with_reducible refine HRD.out.mono ?_)
        rintro e6 w6 ⟨v6, rfl, hr6, hb6⟩
        obtain ⟨a6, c6, rfl⟩ := hr6.shape
        obtain ⟨n6, hn6⟩ : ∃ n6, R.2.ds.length = n6 := ⟨_, rfl⟩
        obtain ⟨er, her⟩ : ∃ er, errV e R.1 = er := ⟨_, rfl⟩
        rw [hn6] at hr6 ⊢
        rw [her]
        have HN := Lib.hid hn6
        have HER := Lib.hid her
        have HR6 := Lib.hid hr6
        have HB6 := Lib.hid hb6
        clear hn6 her hr6 hb6 HRD
        go_upto_region 10 with fail
        obtain ⟨w7, hw7⟩ : ∃ w7, w6.alloc (.cells #[.string R.2.fq, .int .i64 R.2.ev, .slice a6 n6 c6, .int .i64 R.2.ct, .int .i64 R.2.un] 53) = w7 := ⟨_, rfl⟩
        have hB67 : Below w6.heap.size w6 w7 := by rw [← hw7]; exact (Below.refl _ w6).alloc (Nat.le_refl _) _
        have hz7 := heap_new w6 (.cells #[.string R.2.fq, .int .i64 R.2.ev, .slice a6 n6 c6, .int .i64 R.2.ct, .int .i64 R.2.un] 53)
        rw [hw7] at hz7 ⊢
        have HB57 := Lib.hid (HB6.out.trans (hB67.mono HB6.out.size))
        have Z7 := Lib.hid hz7
        have HR7 := Lib.hid (HR6.out.below hB67)
        clear hw7 hB67 hz7 HB6 HR6
        go_wp2_with fail
        (with_reducible refine (HRR.out _).mono ?_)
        rintro e8 w8 ⟨v8, rfl, hr8, hb8⟩
        obtain ⟨a8, c8, rfl⟩ := hr8.shape
        rw [HN.out] at hr8 ⊢
        obtain ⟨cI, hcI⟩ : ∃ cI : Int, ((R.1 : Nat) : Int) = cI := ⟨_, rfl⟩
        rw [hcI]
        have HCI := Lib.hid hcI
        have HR8 := Lib.hid hr8
        have HB8 := Lib.hid hb8
        clear hcI hr8 hb8 HRR
        go_upto_region 11 with fail
        obtain ⟨w9, hw9⟩ : ∃ w9, w8.alloc (.cells #[.string R.2.fq, .int .i64 R.2.ev, .slice a8 n6 c8, .int .i64 R.2.ct, .int .i64 R.2.un] 53) = w9 := ⟨_, rfl⟩
        have hB89 : Below w8.heap.size w8 w9 := by rw [← hw9]; exact (Below.refl _ w8).alloc (Nat.le_refl _) _
        have hv9 := heap_new w8 (.cells #[.string R.2.fq, .int .i64 R.2.ev, .slice a8 n6 c8, .int .i64 R.2.ct, .int .i64 R.2.un] 53)
        rw [hw9] at hv9 ⊢
        have hB79 := HB8.out.trans (hB89.mono HB8.out.size)
        have hB59 := HB57.out.trans (hB79.mono HB57.out.size)
        have Y9 := Lib.hid (row_below Y5.out hB59)
        have Z9 := Lib.hid (row_below Z7.out hB79)
        have V9 := Lib.hid hv9
        have HRY9 := Lib.hid (HRY5.out.below hB59)
        have HRZ9 := Lib.hid (HR7.out.below hB79)
        have HRV9 := Lib.hid (HR8.out.below hB89)
        have HE9 := Lib.hid (HE5.out.below hB59)
        have HT9 := Lib.hid (Frame.tab_below (g := 12) (by kernel_rfl) hB59 HT5.out)
        have HBW9 := Lib.hid (HBW5.out.trans (hB59.mono HBW5.out.size))
        clear hw9 hB89 hv9 hB79 hB59 Y5 Z7 HRY5 HR7 HR8 HE5 HL5 HT5 HM5 HBW5 HB57 HB8
        obtain ⟨eb, heb⟩ : ∃ eb, errV e (bad r) = eb := ⟨_, rfl⟩
        have hck := chk_any r _ e w9 (Rul.four HE9.out) HRY9.out (by have := HDS.out; omega)
        rw [heb] at hck
        have hcd := fun W (h : Below w9.heap.size w9 W) => Cd1.coded_any e (bad r) (bad_le r) W (HE9.out.below h)
        rw [heb, HBI.out] at hcd
        have hcd2 := fun W (h : Below w9.heap.size w9 W) => Cd1.coded_any e R.1 HC6.out W (HE9.out.below h)
        rw [HER.out, HCI.out] at hcd2
        have htx := fun W (h : Below w9.heap.size w9 W) => text_all r _ e W (Rul.four (HE9.out.below h)) (HRY9.out.below h) (by have := HDS.out; omega) (Frame.tab_below (g := 12) (by kernel_rfl) h HT9.out)
        rw [HWT.out] at htx
        have hsr := fun W (h : Below w9.heap.size w9 W) => sameRule_any R.2 _ _ W (HRZ9.out.below h) (HRV9.out.below h) (by have := HN6.out; have := HSS.out; omega)
        have HCK := Lib.hid hck
        have HCD := Lib.hid hcd
        have HCD2 := Lib.hid hcd2
        have HTX := Lib.hid htx
        have HSR := Lib.hid hsr
        clear heb hck hcd hcd2 htx hsr HRY9 HRZ9 HRV9 HE9 HT9
        obtain ⟨p0, p1, p2, p3, p4, _⟩ := cells5 Y9.out
        go_wp2_with fail
        (with_reducible refine HCK.out.mono ?_)
        rintro e10 w10 ⟨rfl, hb10⟩
        have HB10 := Lib.hid hb10
        clear p0 p1 p2 p3 p4 hb10
        go_wp2_with fail
        (with_reducible refine (HCD.out _ HB10.out).mono ?_)
        rintro e11 w11 ⟨rfl, hb11⟩
        have HB11 := Lib.hid (HB10.out.trans (hb11.mono HB10.out.size))
        clear hb11
        obtain ⟨p0, p1, p2, p3, p4, _⟩ := cells5 (row_below Y9.out HB11.out)
        go_wp2_with fail
        (with_reducible refine (HTX.out _ HB11.out).mono ?_)
        rintro e12 w12 ⟨rfl, hb12⟩
        have HB12 := Lib.hid (HB11.out.trans (hb12.mono HB11.out.size))
        clear hb12 p0 p1 p2 p3 p4
        go_wp2_with fail
        (with_reducible refine (HCD2.out _ HB12.out).mono ?_)
        rintro e13 w13 ⟨rfl, hb13⟩
        have HB13 := Lib.hid (HB12.out.trans (hb13.mono HB12.out.size))
        clear hb13
        obtain ⟨p0, p1, p2, p3, p4, _⟩ := cells5 (row_below Z9.out HB13.out)
        obtain ⟨q0, q1, q2, q3, q4, _⟩ := cells5 (row_below V9.out HB13.out)
        go_wp2_with fail
        (with_reducible refine (HSR.out _ HB13.out).mono ?_)
        rintro e14 w14 ⟨rfl, hb14⟩
        have HB14 := Lib.hid (HB13.out.trans (hb14.mono HB13.out.size))
        clear hb14 p0 p1 p2 p3 p4 q0 q1 q2 q3 q4
        go_wp2
        go_ret
        exact ⟨rfl, HBW9.out.trans (HB14.out.mono HBW9.out.size)⟩
end Rtx
end Go.Proofs.YtmlndamkcipebaaGreatDoor
