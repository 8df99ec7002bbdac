/- The walk of the law RuleBack. -/
import Derived.Test.YtmlndamkcipebaaDoorRuled
import Derived.IntWalk
import Derived.Deep.RegionHeld3
import Derived.Deep.DeepCutAuto
namespace Go.Proofs.YtmlndamkcipebaaDoor
open Go Go.RowKit Go.Shelf Lmd
namespace Rul
open Er Day Cand

theorem below2' {w a b : World} (h : Below w.heap.size w a) (k : Below a.heap.size a b) : Below w.heap.size w b := h.trans (k.mono h.size)
theorem text_len (r : Ru) (hb : bad r = 0) (hl : r.ds.length ≤ 20) : (mk (textL r)).size ≤ 900 := by
  obtain ⟨h1, h2, h3, h4, h5⟩ := bad_parts hb
  obtain ⟨⟨e1, e2⟩, ⟨c1, c2⟩, u1, u2⟩ := bound_parts h2
  have hf : r.fq.data.toList.length ≤ 8 := by
    rcases freqs_mem h1 with h | h | h | h | h <;> rw [h] <;> decide
  have hi := Lib.itoa_length_le r.ev (by omega) (by omega)
  have hc := Lib.itoa_length_le r.ct (by omega) (by omega)
  have hj := join_le [44] (by simp) ((r.ds.map nameOf).map (·.data.toList)) (by
    intro x hx
    simp only [List.map_map, List.mem_map] at hx
    obtain ⟨d, _, rfl⟩ := hx
    exact nameOf_len d)
  simp only [List.length_map] at hj
  have hd : (dayT r.un).length ≤ 10 ∨ r.un = -1 := by
    by_cases hu : r.un = -1
    · exact .inr hu
    · obtain ⟨y, m, d, ha⟩ := Cal.at_exists r.un (by omega) (by omega)
      rw [dayT_at ha]; exact .inl (Nat.le_refl _)
  have hD : (daysL r).length ≤ 61 := by
    unfold daysL; split
    · simp
    · simp only [List.length_append, List.length_cons, List.length_nil]; omega
  have hC : (countL r).length ≤ 28 := by
    unfold countL; split
    · simp only [List.length_append, List.length_cons, List.length_nil]; omega
    · simp
  have hU : (untilL r).length ≤ 17 := by
    unfold untilL; split
    · simp only [List.length_append, List.length_cons, List.length_nil]; omega
    · simp
  have hs : (mk (textL r)).size = (textL r).length := by simp [ByteArray.size]
  rw [hs]; unfold textL; split
  · omega
  · unfold headL
    simp only [List.length_append, List.length_cons, List.length_nil]; omega

set_option maxRecDepth 100000 in
set_option maxHeartbeats 1500000 in
theorem ruleBack_any (a b : Ru) (va vb : Value) (m : Int) (e : Nat → Addr) (w : World) (he : E5 w e) (hE : ELib w) (htab : Lib.TabIs Tryd.prog w "internal/strconv.uint64pow10" .u64 Lib.pow10Tab) (hm : w.cell? ⟨13, 0, none⟩ = some (.int .i64 m))
    (ha : Ints.Reads w va a.ds) (hb : Ints.Reads w vb b.ds) (hfa : a.fq.size ≤ 9223372036854775807) (hda : a.ds.length ≤ 9223372036854775807) (hfb : b.fq.size ≤ 9223372036854775807) (hdb : b.ds.length ≤ 9223372036854775807) :
    Calls Tryd.prog 9 #[a.val va, b.val vb] w fun e' w' => e' = .returned (.bool true) ∧ Below w.heap.size w w' := by
  obtain ⟨aa, ca, rfl⟩ := ha.shape
  obtain ⟨ab, cb, rfl⟩ := hb.shape
  obtain ⟨W0, hW0⟩ : ∃ W0, (w.alloc (.cells #[.string a.fq, .int .i64 a.ev, .slice aa a.ds.length ca, .int .i64 a.ct, .int .i64 a.un] 67)).alloc (.cells #[.string b.fq, .int .i64 b.ev, .slice ab b.ds.length cb, .int .i64 b.ct, .int .i64 b.un] 67) = W0 := ⟨_, rfl⟩
  have hB0 : Below w.heap.size w W0 := by rw [← hW0]; exact ((Below.refl _ w).alloc (Nat.le_refl _) _).alloc (by simp) _
  have hz0 : W0.heap.size = w.heap.size + 2 := by rw [← hW0]; simp
  have xa : W0.heap[w.heap.size]? = some (.cells #[.string a.fq, .int .i64 a.ev, .slice aa a.ds.length ca, .int .i64 a.ct, .int .i64 a.un] 67) := by
    rw [← hW0, Below.heap_alloc _ _ _ (by simp)]; exact heap_new w _
  have xb : W0.heap[w.heap.size + 1]? = some (.cells #[.string b.fq, .int .i64 b.ev, .slice ab b.ds.length cb, .int .i64 b.ct, .int .i64 b.un] 67) := by
    rw [← hW0]; have := heap_new (w.alloc (.cells #[.string a.fq, .int .i64 a.ev, .slice aa a.ds.length ca, .int .i64 a.ct, .int .i64 a.un] 67)) (.cells #[.string b.fq, .int .i64 b.ev, .slice ab b.ds.length cb, .int .i64 b.ct, .int .i64 b.un] 67)
    rwa [World.size_alloc] at this
  have HE := Lib.hid (he.below hB0)
  have HL := Lib.hid (hE.below hB0)
  have HT := Lib.hid (Frame.tab_below (g := 12) (by kernel_rfl) hB0 htab)
  have HM := Lib.hid (cell_later hB0 hm)
  have HA := Lib.hid (ha.below hB0)
  have HB := Lib.hid (hb.below hB0)
  obtain ⟨la, hla⟩ : ∃ la : Int, (if 20 < a.fq.size ∨ 20 < a.ds.length then (1 : Int) else 0) = la := ⟨_, rfl⟩
  obtain ⟨lb, hlb⟩ : ∃ lb : Int, (if 20 < b.fq.size ∨ 20 < b.ds.length then (1 : Int) else 0) = lb := ⟨_, rfl⟩
  have hLA := fun w => longRule_any a aa ca w hfa hda
  have hLB := fun w => longRule_any b ab cb w hfb hdb
  simp only [Ru.val] at hLA hLB
  rw [hla] at hLA
  rw [hlb] at hLB
  have hla1 : 0 ≤ la ∧ la ≤ 1 := by rw [← hla]; split <;> omega
  have hlb1 : 0 ≤ lb ∧ lb ≤ 1 := by rw [← hlb]; split <;> omega
  have HLA := Lib.hid hLA
  have HLB := Lib.hid hLB
  have HLA2 := Lib.hid hla
  have HLB2 := Lib.hid hlb
  have HR := Lib.hid (ruled_any e W0 HE.out.four HT.out)
  have HW0 := Lib.hid hW0
  have HB0 := Lib.hid hB0
  have XA := Lib.hid xa
  have XB := Lib.hid xb
  clear he hE htab hm ha hb hLA hLB hla hlb hB0 xa xb hW0
  go_enter Tryd.func9, Tryd.ntmps9
  simp only [Ru.val]
  go_wp2_with (go_at_call 38; rw [HW0.out]; refine HR.out.mono ?_; rintro e1 w1 ⟨rfl, hb1⟩)
  have XA1 := Lib.hid (row_below XA.out hb1)
  have XB1 := Lib.hid (row_below XB.out hb1)
  have HB1 := Lib.hid hb1
  obtain ⟨p0, p1, p2, p3, p4, _⟩ := cells5 XA1.out
  obtain ⟨q0, q1, q2, q3, q4, _⟩ := cells5 XB1.out
  clear hb1 XA XB HR
  go_upto_region 2 with fail
  go_cut [20] from 11 (fun s wc => s = .bool (decide (0 < la + lb)) ∧ Below w1.heap.size w1 wc)
  case first =>
    have hs : IntKind.i64.wrap (la + lb) = la + lb := IntWalk.i64_in _ (by omega)
    go_region_with (first
      | (go_at_call 39; (with_reducible refine (HLA.out _).mono ?_); rintro e2 w2 ⟨rfl, hb2⟩; obtain ⟨z0, z1, z2, z3, z4, _⟩ := cells5 (row_below (show (w1.drewN 1).heap[w.heap.size + 1]? = _ from XB1.out) hb2))
      | (go_at_call 39; (with_reducible refine (HLB.out _).mono ?_); rintro e3 w3 ⟨rfl, hb3⟩))
    all_goals go_wp2_with fail
    all_goals go_meet
    all_goals exact ⟨rfl, ((below_draw (Below.refl _ w1) 1).trans hb2).trans (hb3.mono hb2.size)⟩
  case rest =>
    obtain ⟨rfl, hbc⟩ := hcut
    have hb1c := HB1.out.trans (hbc.mono HB1.out.size)
    have hsz : W0.heap.size ≤ wc.heap.size := hb1c.size
    have XA2 := Lib.hid (row_below XA1.out hbc)
    have XB2 := Lib.hid (row_below XB1.out hbc)
    have HE2 := Lib.hid (HE.out.below hb1c)
    have HL2 := Lib.hid (HL.out.below hb1c)
    have HT2 := Lib.hid (Frame.tab_below (g := 12) (by kernel_rfl) hb1c HT.out)
    have HM2 := Lib.hid (cell_later hb1c HM.out)
    have HA2 := Lib.hid (HA.out.below hb1c)
    have HB2 := Lib.hid (HB.out.below hb1c)
    have HBW := Lib.hid (HB0.out.trans (hb1c.mono HB0.out.size))
    clear hbc hb1c HE HL HT HM HA HB HB1 XA1 XB1 HB0 HW0 HLA HLB p0 p1 p2 p3 p4 q0 q1 q2 q3 q4
    by_cases hlong : 0 < la + lb
    · go_wp2
      go_ret
      exact ⟨rfl, HBW.out⟩
    have hda2 : a.ds.length ≤ 20 := by
      have h := HLA2.out
      split at h <;> omega
    have hdb2 : b.ds.length ≤ 20 := by
      have h := HLB2.out
      split at h <;> omega
    obtain ⟨p0, p1, p2, p3, p4, _⟩ := cells5 XA2.out
    have HOA := Lib.hid (own_any a _ wc HA2.out (by omega))
    go_wp2_with fail
    refine HOA.out.mono ?_
    rintro e3 w3 ⟨v3, rfl, hr3, hb3⟩
    obtain ⟨a3, c3, rfl⟩ := hr3.shape
    have hB4 : Below w3.heap.size w3 (w3.alloc (.cells #[.string a.fq, .int .i64 a.ev, .slice a3 a.ds.length c3, .int .i64 a.ct, .int .i64 a.un] 67)) := (Below.refl _ w3).alloc (Nat.le_refl _) _
    have hx4 := heap_new w3 (.cells #[.string a.fq, .int .i64 a.ev, .slice a3 a.ds.length c3, .int .i64 a.ct, .int .i64 a.un] 67)
    have hz4 : (w3.alloc (.cells #[.string a.fq, .int .i64 a.ev, .slice a3 a.ds.length c3, .int .i64 a.ct, .int .i64 a.un] 67)).heap.size = w3.heap.size + 1 := by simp
    obtain ⟨q0, q1, q2, q3, q4, _⟩ := cells5 (row_below (row_below XB2.out hb3) hB4)
    have HB4 := Lib.hid hB4
    have HX4 := Lib.hid hx4
    have HZ4 := Lib.hid hz4
    have HB3 := Lib.hid hb3
    have HR3 := Lib.hid hr3
    have hs3 := hb3.size
    clear hB4 hx4 hz4 hb3 hr3 p0 p1 p2 p3 p4 HOA
    go_wp2_with fail
    obtain ⟨w4, hw4⟩ : ∃ w4, w3.alloc (.cells #[.string a.fq, .int .i64 a.ev, .slice a3 a.ds.length c3, .int .i64 a.ct, .int .i64 a.un] 67) = w4 := ⟨_, rfl⟩
    have hB4 := HB4.out
    have hx4 := HX4.out
    have hz4 := HZ4.out
    rw [hw4] at hB4 hx4 hz4 q0 q1 q2 q3 q4 ⊢
    clear HB4 HX4 HZ4 hw4 q0 q1 q2 q3 q4
    have hB24 := HB3.out.trans (hB4.mono hs3)
    have HOB := Lib.hid (own_any b _ w4 (HB2.out.below hB24) (by omega))
    have HR4 := Lib.hid (HR3.out.below hB4)
    have HB24 := Lib.hid hB24
    have HX4 := Lib.hid hx4
    clear hB4 hx4 hB24 HB3 HR3
    refine HOB.out.mono ?_
    rintro e5 w5 ⟨v5, rfl, hr5, hb5⟩
    obtain ⟨a5, c5, rfl⟩ := hr5.shape
    have hB6 : Below w5.heap.size w5 (w5.alloc (.cells #[.string b.fq, .int .i64 b.ev, .slice a5 b.ds.length c5, .int .i64 b.ct, .int .i64 b.un] 67)) := (Below.refl _ w5).alloc (Nat.le_refl _) _
    have hx6 := heap_new w5 (.cells #[.string b.fq, .int .i64 b.ev, .slice a5 b.ds.length c5, .int .i64 b.ct, .int .i64 b.un] 67)
    have hz6 : (w5.alloc (.cells #[.string b.fq, .int .i64 b.ev, .slice a5 b.ds.length c5, .int .i64 b.ct, .int .i64 b.un] 67)).heap.size = w5.heap.size + 1 := by simp
    have hxa6 := row_below (row_below HX4.out hb5) hB6
    obtain ⟨p0, p1, p2, p3, p4, _⟩ := cells5 hxa6
    have HB6 := Lib.hid hB6
    have HX6 := Lib.hid hx6
    have HXA6 := Lib.hid hxa6
    have HZ6 := Lib.hid hz6
    have HB5 := Lib.hid hb5
    have HR5 := Lib.hid hr5
    have hs5 := hb5.size
    clear hB6 hx6 hz6 hb5 hr5 HOB hxa6
    go_wp2_with fail
    obtain ⟨w6, hw6⟩ : ∃ w6, w5.alloc (.cells #[.string b.fq, .int .i64 b.ev, .slice a5 b.ds.length c5, .int .i64 b.ct, .int .i64 b.un] 67) = w6 := ⟨_, rfl⟩
    have hB6 := HB6.out
    have hx6 := HX6.out
    have hz6 := HZ6.out
    have hxa6 := HXA6.out
    rw [hw6] at hB6 hx6 hz6 hxa6 p0 p1 p2 p3 p4 ⊢
    clear HB6 HX6 HZ6 HXA6 hw6 p0 p1 p2 p3 p4
    have hB56 := HB5.out.trans (hB6.mono hs5)
    have hB26 := HB24.out.trans (hB56.mono (by have := HB24.out.size; omega))
    have HRX := Lib.hid (HR4.out.below hB56)
    have HRY := Lib.hid (HR5.out.below hB6)
    have HE6 := Lib.hid (HE2.out.below hB26)
    have HL6 := Lib.hid (HL2.out.below hB26)
    have HT6 := Lib.hid (Frame.tab_below (g := 12) (by kernel_rfl) hB26 HT2.out)
    have HM6 := Lib.hid (cell_later hB26 HM2.out)
    have HBW6 := Lib.hid (HBW.out.trans (hB26.mono HBW.out.size))
    have HX6 := Lib.hid hx6
    have HXA6 := Lib.hid hxa6
    clear hB6 hx6 hxa6 hB56 hB26 HB5 HR4 HR5 HB24 HE2 HL2 HT2 HM2 HBW HA2 HB2 XA2 XB2 HX4
    -- are both good
    obtain ⟨ba, hba⟩ : ∃ ba, bad a = ba := ⟨_, rfl⟩
    have HCA := chk_any a _ e w6 HE6.out.four HRX.out (by omega)
    rw [hba] at HCA
    have HBA := Lib.hid hba
    clear hba
    cases ba with
    | succ ba =>
      refine HCA.mono ?_
      rintro e7 w7 ⟨rfl, hb7⟩
      have HF := Lib.hid (HBW6.out.trans (hb7.mono HBW6.out.size))
      clear hb7 HCA
      simp only [errV, ev]
      go_wp2
      go_ret
      exact ⟨rfl, HF.out⟩
    | zero =>
      refine HCA.mono ?_
      rintro e7 w7 ⟨rfl, hb7⟩
      simp only [errV]
      have hx7 := row_below HX6.out hb7
      obtain ⟨q0, q1, q2, q3, q4, _⟩ := cells5 hx7
      have HX7 := Lib.hid hx7
      have HXA7 := Lib.hid (row_below HXA6.out hb7)
      have HRX7 := Lib.hid (HRX.out.below hb7)
      have HRY7 := Lib.hid (HRY.out.below hb7)
      have HE7 := Lib.hid (HE6.out.below hb7)
      have HL7 := Lib.hid (HL6.out.below hb7)
      have HT7 := Lib.hid (Frame.tab_below (g := 12) (by kernel_rfl) hb7 HT6.out)
      have HM7 := Lib.hid (cell_later hb7 HM6.out)
      have HBW7 := Lib.hid (HBW6.out.trans (hb7.mono HBW6.out.size))
      have hs7 := hb7.size
      clear hx7 hb7 HCA HX6 HXA6 HRX HRY HE6 HL6 HT6 HM6 HBW6
      go_wp2_with fail
      obtain ⟨bb, hbb⟩ : ∃ bb, bad b = bb := ⟨_, rfl⟩
      have HCB := chk_any b _ e w7 HE7.out.four HRY7.out (by omega)
      rw [hbb] at HCB
      have HBB := Lib.hid hbb
      clear hbb
      cases bb with
      | succ bb =>
        refine HCB.mono ?_
        rintro e8 w8 ⟨rfl, hb8⟩
        have HF := Lib.hid (HBW7.out.trans (hb8.mono HBW7.out.size))
        clear hb8 HCB
        simp only [errV, ev]
        go_wp2
        go_ret
        exact ⟨rfl, HF.out⟩
      | zero =>
        refine HCB.mono ?_
        rintro e8 w8 ⟨rfl, hb8⟩
        simp only [errV]
        have hxa8 := row_below HXA7.out hb8
        obtain ⟨p0, p1, p2, p3, p4, _⟩ := cells5 hxa8
        have HX8 := Lib.hid (row_below HX7.out hb8)
        have HXA8 := Lib.hid hxa8
        have HRX8 := Lib.hid (HRX7.out.below hb8)
        have HRY8 := Lib.hid (HRY7.out.below hb8)
        have HE8 := Lib.hid (HE7.out.below hb8)
        have HL8 := Lib.hid (HL7.out.below hb8)
        have HT8 := Lib.hid (Frame.tab_below (g := 12) (by kernel_rfl) hb8 HT7.out)
        have HM8 := Lib.hid (cell_later hb8 HM7.out)
        have HBW8 := Lib.hid (HBW7.out.trans (hb8.mono HBW7.out.size))
        have hs8 := hb8.size
        have HTX := Lib.hid (text_good a _ e w8 HE8.out.four HRX8.out (by omega) HBA.out HT8.out)
        clear hxa8 hb8 HCB HX7 HXA7 HRX7 HRY7 HE7 HL7 HT7 HM7 HBW7
        go_wp2_with fail
        refine HTX.out.mono ?_
        rintro e9 w9 ⟨rfl, hb9⟩
        have HB9 := Lib.hid hb9
        have hs9 := hb9.size
        have hrd := read_any (mk (textL a)) m e w9 (text_len a HBA.out hda2) (HE8.out.below hb9) (HL8.out.below hb9) (Frame.tab_below (g := 12) (by kernel_rfl) hb9 HT8.out) (cell_later hb9 HM8.out)
        rw [read_text a HBA.out] at hrd
        have HRD := Lib.hid hrd
        clear hrd hb9 HTX p0 p1 p2 p3 p4
        go_wp2_with fail
        refine HRD.out.mono ?_
        rintro e10 w10 ⟨v10, rfl, hr10, hb10⟩
        dsimp only at hr10 ⊢
        obtain ⟨a10, c10, rfl⟩ := hr10.shape
        have HB10 := Lib.hid hb10
        have HR10 := Lib.hid hr10
        have hs10 := hb10.size
        clear hr10 hb10 HRD
        simp only [errV]
        go_upto_region 9 with fail
        obtain ⟨w11, hw11⟩ : ∃ w11, w10.alloc (.cells #[.string a.fq, .int .i64 a.ev, .slice a10 a.ds.length c10, .int .i64 a.ct, .int .i64 a.un] 67) = w11 := ⟨_, rfl⟩
        have hB11 : Below w10.heap.size w10 w11 := by rw [← hw11]; exact (Below.refl _ w10).alloc (Nat.le_refl _) _
        have hx11 := heap_new w10 (.cells #[.string a.fq, .int .i64 a.ev, .slice a10 a.ds.length c10, .int .i64 a.ct, .int .i64 a.un] 67)
        rw [hw11] at hx11 ⊢
        have hx9 := row_below HXA8.out HB9.out
        have hy9 := row_below HX8.out HB9.out
        have hx10 := row_below (row_below hx9 HB10.out) hB11
        have hy10 := row_below (row_below hy9 HB10.out) hB11
        obtain ⟨p0, p1, p2, p3, p4, _⟩ := cells5 hx10
        obtain ⟨q0, q1, q2, q3, q4, _⟩ := cells5 hy10
        obtain ⟨r0, r1, r2, r3, r4, _⟩ := cells5 hx11
        have hB89 := HB9.out.trans (HB10.out.mono hs9)
        have hB811 := hB89.trans (hB11.mono (by omega))
        have HF := Lib.hid (HBW8.out.trans (hB811.mono HBW8.out.size))
        obtain ⟨q, hq⟩ : ∃ q, sameB a b = q := ⟨_, rfl⟩
        have hts := text_same a b HBA.out HBB.out
        rw [hq] at hts
        have hTA := fun W (h : Below w11.heap.size w11 W) => text_good a (.slice a3 a.ds.length c3) e W ((HE8.out.four.below hB811).below h) ((HRX8.out.below hB811).below h) (by omega) HBA.out (Frame.tab_below (g := 12) (by kernel_rfl) (hB811.trans (h.mono hB811.size)) HT8.out)
        have hTB := fun W (h : Below w11.heap.size w11 W) => text_good b (.slice a5 b.ds.length c5) e W ((HE8.out.four.below hB811).below h) ((HRY8.out.below hB811).below h) (by omega) HBB.out (Frame.tab_below (g := 12) (by kernel_rfl) (hB811.trans (h.mono hB811.size)) HT8.out)
        have hSZ := fun W (h : Below w11.heap.size w11 W) => same_any a a (.slice a10 a.ds.length c10) (.slice a3 a.ds.length c3) W ((HR10.out.below hB11).below h) ((HRX8.out.below hB811).below h) (by omega) (by omega)
        have hSS := fun W (h : Below w11.heap.size w11 W) => same_any a b (.slice a3 a.ds.length c3) (.slice a5 b.ds.length c5) W ((HRX8.out.below hB811).below h) ((HRY8.out.below hB811).below h) (by omega) (by omega)
        rw [hq] at hSS
        rw [same_iff.2 rfl] at hSZ
        obtain ⟨TA, hta⟩ : ∃ TA, mk (textL a) = TA := ⟨_, rfl⟩
        obtain ⟨TB, htb⟩ : ∃ TB, mk (textL b) = TB := ⟨_, rfl⟩
        have htt : (TA.toList == TB.toList) = q := by rw [← hta, ← htb, toList_mk, toList_mk]; exact hts
        rw [hta] at hTA ⊢
        rw [htb] at hTB
        have HTA := Lib.hid hTA
        have HTB := Lib.hid hTB
        have HSZ := Lib.hid hSZ
        have HSS := Lib.hid hSS
        have hb0 := below_drew (Below.refl w11.heap.size w11)
        clear hx9 hy9 hx10 hy10 hB89 hB811 hq hts hTA hTB hSZ hSS hta htb hx11 hw11 hB11 HB9 HB10 HR10 HRX8 HRY8 HE8 HL8 HT8 HM8 HXA8 HX8 HBW8 HBA HBB
        go_region_held3 (fun W => Below w11.heap.size w11 W ∧ W.cell? ⟨w3.heap.size, 0, none⟩ = some (.string a.fq) ∧ W.cell? ⟨w3.heap.size, 1, none⟩ = some (.int .i64 a.ev) ∧ W.cell? ⟨w3.heap.size, 2, none⟩ = some (.slice a3 a.ds.length c3) ∧ W.cell? ⟨w3.heap.size, 3, none⟩ = some (.int .i64 a.ct) ∧ W.cell? ⟨w3.heap.size, 4, none⟩ = some (.int .i64 a.un) ∧ W.cell? ⟨w5.heap.size, 0, none⟩ = some (.string b.fq) ∧ W.cell? ⟨w5.heap.size, 1, none⟩ = some (.int .i64 b.ev) ∧ W.cell? ⟨w5.heap.size, 2, none⟩ = some (.slice a5 b.ds.length c5) ∧ W.cell? ⟨w5.heap.size, 3, none⟩ = some (.int .i64 b.ct) ∧ W.cell? ⟨w5.heap.size, 4, none⟩ = some (.int .i64 b.un) ∧ W.cell? ⟨w10.heap.size, 0, none⟩ = some (.string a.fq) ∧ W.cell? ⟨w10.heap.size, 1, none⟩ = some (.int .i64 a.ev) ∧ W.cell? ⟨w10.heap.size, 2, none⟩ = some (.slice a10 a.ds.length c10) ∧ W.cell? ⟨w10.heap.size, 3, none⟩ = some (.int .i64 a.ct) ∧ W.cell? ⟨w10.heap.size, 4, none⟩ = some (.int .i64 a.un))
          (first
            | (refine ⟨hb0, ?_, ?_, ?_, ?_, ?_, ?_, ?_, ?_, ?_, ?_, ?_, ?_, ?_, ?_, ?_⟩ <;> assumption)
            | (go_split_ands
               refine ⟨below2' ‹Below w11.heap.size w11 _› hbq, cell_later hbq (by assumption), cell_later hbq (by assumption), cell_later hbq (by assumption), cell_later hbq (by assumption), cell_later hbq (by assumption), cell_later hbq (by assumption), cell_later hbq (by assumption), cell_later hbq (by assumption), cell_later hbq (by assumption), cell_later hbq (by assumption), cell_later hbq (by assumption), cell_later hbq (by assumption), cell_later hbq (by assumption), cell_later hbq (by assumption), cell_later hbq (by assumption)⟩))
          (first
            | ((with_reducible refine (HTA.out _ ?_).mono ?_); (go_split_ands; assumption); rintro e1 wq ⟨rfl, hbq⟩)
            | ((with_reducible refine (HTB.out _ ?_).mono ?_); (go_split_ands; assumption); rintro e1 wq ⟨rfl, hbq⟩)
            | ((with_reducible refine (HSZ.out _ ?_).mono ?_); (go_split_ands; assumption); rintro e1 wq ⟨rfl, hbq⟩)
            | ((with_reducible refine (HSS.out _ ?_).mono ?_); (go_split_ands; assumption); rintro e1 wq ⟨rfl, hbq⟩))
        have hfin : Below w.heap.size w wq := HF.out.trans (Below.mono (by go_split_ands; assumption) HF.out.size)
        go_wp2
        go_ret
        exact ⟨rfl, hfin⟩
end Rul
end Go.Proofs.YtmlndamkcipebaaDoor
