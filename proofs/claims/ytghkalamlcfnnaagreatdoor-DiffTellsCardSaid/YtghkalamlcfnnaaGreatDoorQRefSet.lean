/- the reference's SetField, ReadEvent. -/
import Derived.Test.YtghkalamlcfnnaaGreatDoorQD2
import Derived.Test.YtghkalamlcfnnaaGreatDoorQRefField
import Derived.Test.YtghkalamlcfnnaaGreatDoorQEvSet
import Derived.Deep.CutRange
namespace Go.Proofs.YtghkalamlcfnnaaGreatDoor
open Go Go.RowKit Go.Shelf Lmd
attribute [local go_sem] Oper.semAt_some
namespace Evt
open Rul Day Cand Er Tp Rf Rct
theorem res_rset {W : World} {b : Nat} {a0 a1 a2 a3 a4 a5 a6 a7 a8 a9 a10 er : Value} {tmps : Array Value} (h : W.heap[b]? = some (.cells #[a0, a1, a2, a3, a4, a5, a6, a7, a8, a9, a10] 40 (0, 0))) (h2 : tmps.getD 6 undef = .pointer (some ⟨b, 0, none⟩)) (h3 : tmps.getD 7 undef = er) :
    (results Tryz.f102 tmps).run Tryz.prog W = .ok (.tuple #[.agg #[a0, a1, a2, a3, a4, a5, a6, a7, a8, a9, a10], er]) W := by
  obtain ⟨q0, q1, q2, q3, q4, q5, q6, q7, q8, q9, q10⟩ := cells11 h
  have h2' : tmps[6]?.getD undef = .pointer (some ⟨b, 0, none⟩) := by simpa using h2
  have h3' : tmps[7]?.getD undef = er := by simpa using h3
  simp [results, Tryz.f102, go_sem, h2', h3', q0, q1, q2, q3, q4, q5, q6, q7, q8, q9, q10]
theorem res_rread {W : World} {b : Nat} {a0 a1 a2 a3 a4 a5 a6 a7 a8 a9 a10 er : Value} {tmps : Array Value} (h : W.heap[b]? = some (.cells #[a0, a1, a2, a3, a4, a5, a6, a7, a8, a9, a10] 40 (0, 0))) (h2 : tmps.getD 2 undef = .pointer (some ⟨b, 0, none⟩)) (h3 : tmps.getD 3 undef = er) :
    (results Tryz.f50 tmps).run Tryz.prog W = .ok (.tuple #[.agg #[a0, a1, a2, a3, a4, a5, a6, a7, a8, a9, a10], er]) W := by
  obtain ⟨q0, q1, q2, q3, q4, q5, q6, q7, q8, q9, q10⟩ := cells11 h
  have h2' : tmps[2]?.getD undef = .pointer (some ⟨b, 0, none⟩) := by simpa using h2
  have h3' : tmps[3]?.getD undef = er := by simpa using h3
  simp [results, Tryz.f50, go_sem, h2', h3', q0, q1, q2, q3, q4, q5, q6, q7, q8, q9, q10]
def RSetPost (e : Ev) (ud us um : Value) (f s : ByteArray) (w : World) (r : Ending) (w' : World) : Prop :=
  ∃ vd vs vm, r = .returned (.tuple #[.agg ((setE e f s).cells vd vs vm), .int .i64 (setC e f s : Nat)]) ∧ Rv w' (setE e f s) vd vs vm ∧ (∀ c, c < w.heap.size → (Off c ud ∧ Off c us ∧ Off c um) → Off c vd ∧ Off c vs ∧ Off c vm) ∧ Below w.heap.size w w'
abbrev zeroAgg : Value := .agg #[.string ⟨#[]⟩, .string ⟨#[]⟩, .int .i64 0, .int .i64 0, .string ⟨#[]⟩, .int .i64 0, .slice none 0 0, .int .i64 0, .int .i64 0, .slice none 0 0, .slice none 0 0]
theorem rset_bad {e : Ev} {ud us um : Value} {f s : ByteArray} {w W : World} {n : Int} (hn : ((setC e f s : Nat) : Int) = n) (h0 : setC e f s ≠ 0) (hb : Below w.heap.size w W) : RSetPost e ud us um f s w (.returned (.tuple #[zeroAgg, .int .i64 n])) W := by
  have he : setE e f s = zeroEv := by unfold setE; rw [if_neg h0]
  refine ⟨.slice none 0 0, .slice none 0 0, .slice none 0 0, ?_, ?_, fun c _ _ => ⟨off_nil _, off_nil _, off_nil _⟩, hb⟩
  · rw [he, hn]; rfl
  · rw [he]; exact zero_rv W
set_option maxRecDepth 100000 in
set_option maxHeartbeats 8000000 in
theorem setField_any (e : Ev) (vd vs vm : Value) (f s : ByteArray) (w : World) (hr : Rv w e vd vs vm) (hz : Size e) (hs : s.size ≤ 30000) :
    Calls Tryz.prog 102 #[.agg (e.cells vd vs vm), .string f, .string s] w (RSetPost e vd vs vm f s w) := by
  obtain ⟨W, hW⟩ : ∃ W, (w.alloc (.cells (e.cells vd vs vm) 40)).alloc (.cells zeroV 40) = W := ⟨_, rfl⟩
  have h2 : Two w W e vd vs vm := by
    rw [← hW]
    refine ⟨((Below.refl _ w).alloc (Nat.le_refl _) _).alloc (by simp) _, by simp, (Below.heap_alloc _ _ _ (by simp)).trans (heap_new w _), ?_⟩
    have h := heap_new (w.alloc (.cells (e.cells vd vs vm) 40)) (.cells zeroV 40)
    rwa [World.size_alloc] at h
  have o0 : Off (w.heap.size + 1) vd ∧ Off (w.heap.size + 1) vs ∧ Off (w.heap.size + 1) vm := ⟨off_reads hr.d (by omega), off_reads hr.s (by omega), off_mreads hr.m (by omega)⟩
  have hp := putField_any e vd vs vm f s W (hr.below h2.low) hs
  obtain ⟨pc, hpc⟩ : ∃ pc, putC f s = pc := ⟨_, rfl⟩
  unfold PfPost at hp
  rw [hpc] at hp
  have HP := Lib.hid hp
  have HPC := Lib.hid hpc
  have HW := Lib.hid hW
  have H2 := Lib.hid h2
  have HO0 := Lib.hid o0
  have HZ2 := Lib.hid (ev_put_size hz f hs)
  clear hp hpc hW h2 o0 hr hz
  go_enter Tryz.func102, Tryz.ntmps102
  obtain ⟨k0, k1, k2, k3, k4, k5, k6, k7, k8, k9, k10⟩ := cells11 H2.out.ev
  go_upto_region 1 with fail
  rw [HW.out]
  go_wp2_with fail
  (with_reducible refine HP.out.mono ?_)
  rintro e1 w1 ⟨E, vd1, vs1, vm1, ⟨⟨a1, n1, c1, rfl⟩, ⟨a2, n2, c2, rfl⟩, ⟨a3, n3, c3, rfl⟩⟩, rfl, hok, hb1⟩
  have H3 := Lib.hid (H2.out.below hb1)
  have HOK := Lib.hid hok
  have HB1 := Lib.hid hb1
  clear hok hb1 k0 k1 k2 k3 k4 k5 k6 k7 k8 k9 k10
  go_upto_region 2 with fail
  obtain ⟨W2, hW2⟩ : ∃ W2, w1.alloc (.cells (E.cells (.slice a1 n1 c1) (.slice a2 n2 c2) (.slice a3 n3 c3)) 40) = W2 := ⟨_, rfl⟩
  have hrow : W2.heap[w1.heap.size]? = some (.cells (E.cells (.slice a1 n1 c1) (.slice a2 n2 c2) (.slice a3 n3 c3)) 40) := by rw [← hW2]; exact heap_new w1 _
  have hb2 : Below w1.heap.size w1 W2 := by rw [← hW2]; exact (Below.refl _ w1).alloc (Nat.le_refl _) _
  rw [hW2]
  have H4 := Lib.hid (H3.out.below hb2)
  have HROW := Lib.hid hrow
  have HB2 := Lib.hid hb2
  clear hW2 hrow hb2
  by_cases hp0 : pc = 0
  case neg =>
    have hp1 : ((pc : Int) == 0) = false := by rw [beq_eq_false_iff_ne]; omega
    have hp2 : (0 : Int) < (pc : Int) := by omega
    have HSC := Lib.hid (show setC e f s = pc by unfold setC; rw [HPC.out, if_pos hp0])
    have HP0 := Lib.hid hp0
    obtain ⟨yy0, yy1, yy2, yy3, yy4, yy5, yy6, yy7, yy8, yy9, yy10⟩ := cells11 H4.out.res
    obtain ⟨y0, y1, y2, y3, y4, y5, y6, y7, y8, y9, y10⟩ := frozen11 H4.out.res
    clear hp0
    go_wp2
    refine bodyPost_ret (res_rset (put11_row H4.out.res) rfl rfl) rfl ?_
    exact rset_bad (by rw [HSC.out]) (by rw [HSC.out]; exact HP0.out) (H4.out.low.trans ((put11_only ..).below (Nat.le_succ _)))
  subst hp0
  obtain ⟨rfl, hrv, hoff⟩ := HOK.out rfl
  obtain ⟨E, hE⟩ : ∃ E, putE e f s = E := ⟨_, rfl⟩
  have hzE := HZ2.out
  rw [hE] at hrv hzE HROW
  have HOFF := Lib.hid hoff
  have ho1 := hoff (w.heap.size + 1) H2.out.top HO0.out
  have hck := eventError_any E _ _ _ W2 (hrv.below HB2.out) hzE
  obtain ⟨q, hq⟩ : ∃ q, badE E = q := ⟨_, rfl⟩
  rw [hq] at hck
  have HCK := Lib.hid hck
  have HRV := Lib.hid hrv
  have HOF := Lib.hid ho1
  have HEE := Lib.hid hE
  have HQ := Lib.hid hq
  obtain ⟨k0, k1, k2, k3, k4, k5, k6, k7, k8, k9, k10⟩ := cells11 HROW.out
  clear hck hrv ho1 hoff hE hq hzE
  go_wp2_with fail
  (with_reducible refine HCK.out.mono ?_)
  rintro e4 w4 ⟨rfl, hb4⟩
  have H5 := Lib.hid (H4.out.below hb4)
  have HRV5 := Lib.hid ((HRV.out.below HB2.out).below hb4)
  have HROW5 := Lib.hid (row_below HROW.out hb4)
  clear hb4 k0 k1 k2 k3 k4 k5 k6 k7 k8 k9 k10
  obtain ⟨k0, k1, k2, k3, k4, k5, k6, k7, k8, k9, k10⟩ := cells11 HROW5.out
  obtain ⟨yy0, yy1, yy2, yy3, yy4, yy5, yy6, yy7, yy8, yy9, yy10⟩ := cells11 H5.out.res
  obtain ⟨y0, y1, y2, y3, y4, y5, y6, y7, y8, y9, y10⟩ := frozen11 H5.out.res
  have hsc : setC e f s = q := by unfold setC; rw [HPC.out, if_neg (by omega), HEE.out, HQ.out]
  have HSC := Lib.hid hsc
  clear hsc
  by_cases hq0 : q = 0
  case neg =>
    have hp2 : (0 : Int) < (q : Int) := by omega
    have HP0 := Lib.hid hq0
    clear hq0
    go_wp2
    refine bodyPost_ret (res_rset (put11_row H5.out.res) rfl rfl) rfl ?_
    exact rset_bad (by rw [HSC.out]) (by rw [HSC.out]; exact HP0.out) (H5.out.low.trans ((put11_only ..).below (Nat.le_succ _)))
  subst hq0
  go_wp2
  refine bodyPost_ret (res_rset (put11_row H5.out.res) rfl rfl) rfl ?_
  have hSE : setE e f s = E := by unfold setE; rw [if_pos HSC.out, HEE.out]
  refine ⟨.slice a1 n1 c1, .slice a2 n2 c2, .slice a3 n3 c3, ?_, ?_, fun c hc h => HOFF.out c (by have := H2.out.top; omega) h, H5.out.low.trans ((put11_only ..).below (Nat.le_succ _))⟩
  · rw [hSE, HSC.out]; rfl
  · rw [hSE]; exact (put11_only ..).rv HRV5.out HOF.out.1 HOF.out.2.1 HOF.out.2.2
def PutAt (eK : Ev) (vd vs vm : Value) (F x : ByteArray) (pc : Nat) (wr : World) (s8 s9 : Value) (wc : World) : Prop :=
  ∃ p8 E a1 n1 c1 a2 n2 c2 a3 n3 c3, s8 = .pointer (some ⟨p8, 0, none⟩) ∧ s9 = .int .i64 (pc : Int) ∧ wc.heap[p8]? = some (.cells (E.cells (.slice a1 n1 c1) (.slice a2 n2 c2) (.slice a3 n3 c3)) 40) ∧ Below wr.heap.size wr wc ∧ wr.heap.size ≤ p8 ∧
    (pc = 0 → E = putE eK F x ∧ Rv wc E (.slice a1 n1 c1) (.slice a2 n2 c2) (.slice a3 n3 c3) ∧ ∀ c, c < wr.heap.size → (Off c vd ∧ Off c vs ∧ Off c vm) → Off c (.slice a1 n1 c1) ∧ Off c (.slice a2 n2 c2) ∧ Off c (.slice a3 n3 c3))
def RReadOff (s : ByteArray) (w : World) (r : Ending) (w' : World) : Prop :=
  ∃ vd vs vm, r = .returned (.tuple #[.agg ((readE s).cells vd vs vm), .int .i64 (readC s : Nat)]) ∧ Rv w' (readE s) vd vs vm ∧ (∀ c, c < w.heap.size → Off c vd ∧ Off c vs ∧ Off c vm) ∧ Below w.heap.size w w'
theorem rread_bad {s : ByteArray} {w W : World} {n : Int} (hn : ((readC s : Nat) : Int) = n) (h0 : readC s ≠ 0) (hb : Below w.heap.size w W) : RReadOff s w (.returned (.tuple #[zeroAgg, .int .i64 n])) W := by
  have he : readE s = zeroEv := by unfold readE readLE; rw [if_neg (show ¬ readLC (pieces 124 s) = 0 from h0)]
  refine ⟨.slice none 0 0, .slice none 0 0, .slice none 0 0, ?_, ?_, fun c _ => ⟨off_nil c, off_nil c, off_nil c⟩, hb⟩
  · rw [he, hn]; rfl
  · rw [he]; exact zero_rv W
set_option maxRecDepth 100000 in
set_option maxHeartbeats 8000000 in
theorem readEvent_off (s : ByteArray) (w : World) (hs : s.size ≤ 30000) :
    Calls Tryz.prog 50 #[.string s] w (RReadOff s w) := by
  obtain ⟨W, hW⟩ : ∃ W, w.alloc (.cells zeroV 40) = W := ⟨_, rfl⟩
  have hb0 : Below w.heap.size w W := by rw [← hW]; exact (Below.refl _ w).alloc (Nat.le_refl _) _
  have hres : W.heap[w.heap.size]? = some (.cells zeroV 40) := by rw [← hW]; exact heap_new w _
  have hz0 : W.heap.size = w.heap.size + 1 := by rw [← hW]; simp
  have hcut := cut_lit s.data.toList 124 124 W (by simp; omega) rfl
  rw [← mk_self s] at hcut
  unfold CutPost at hcut
  rw [← mk_self s] at hcut
  obtain ⟨L, hL⟩ : ∃ L, pieces 124 s = L := ⟨_, rfl⟩
  have hLs : ∀ x ∈ L, x.size ≤ 30000 := fun x hx => by rw [← hL] at hx; exact Nat.le_trans (pieces_le hx) hs
  have hLn : L ≠ [] := by
    obtain ⟨f, t, h⟩ := pieces_cons 124 s
    rw [← hL, h]; simp
  rw [hL] at hcut
  have hrc : readC s = readLC L := by unfold readC; rw [hL]
  have hre : readE s = readLE L := by unfold readE; rw [hL]
  have hl1 : L.length ≤ s.size + 1 := by rw [← hL]; exact pieces_len 124 s
  obtain ⟨N, hN⟩ : ∃ N, L.length = N := ⟨_, rfl⟩
  rw [hN] at hl1
  have HW := Lib.hid hW
  have HB0 := Lib.hid hb0
  have HRES := Lib.hid hres
  have HZ0 := Lib.hid hz0
  have HCUT := Lib.hid hcut
  have HLS := Lib.hid hLs
  have HLN := Lib.hid hLn
  have HRC := Lib.hid hrc
  have HRE := Lib.hid hre
  have HN := Lib.hid hN
  clear hW hb0 hres hz0 hcut hL hLs hLn hrc hre hN
  go_enter Tryz.func50, Tryz.ntmps50
  go_upto_region 1 with fail
  rw [HW.out]
  go_wp2_with fail
  (with_reducible refine HCUT.out.mono ?_)
  rintro e1 w1 ⟨cv, rfl, hown, hb1⟩
  obtain ⟨g, cap, rfl, hgl, hge, hc1⟩ : ∃ g cap, cv = .slice (some ⟨g, 0, none⟩) N cap ∧ g < w1.heap.size ∧ W.heap.size ≤ g ∧ ∀ (j : Nat) x, L[j]? = some x → w1.cell? ⟨g, j, none⟩ = some (.string x) := by
    rcases reads_ownS hown rfl with ⟨h, _⟩ | ⟨g, cap, h1, h2, h3, h4⟩
    · exact absurd h HLN.out
    · refine ⟨g, cap, by rw [← HN.out]; exact h1, h3, ?_, fun j x hx => by have := h4 j x hx; rwa [Nat.zero_add] at this⟩
      exact Tp.own_ge hown (by rw [h1]; rfl)
  have HB1 := Lib.hid hb1
  have HC1 := Lib.hid hc1
  have HGL := Lib.hid hgl
  have HGE := Lib.hid hge
  clear hown hb1 hgl hge hc1
  go_wp2_with fail
  (with_reducible refine (rfields_new w1).mono ?_)
  rintro e2 w2 ⟨rfl, hw2⟩
  have hb2 : Below w1.heap.size w1 w2 := by rw [hw2]; exact (Below.refl _ w1).alloc (Nat.le_refl _) _
  have hz2 : w1.heap.size < w2.heap.size := by rw [hw2]; simp
  have hf2 : w2.heap[w1.heap.size]? = some (.cells fieldsV 9) := by rw [hw2]; exact heap_new w1 _
  have HF2 := Lib.hid hf2
  have HB2 := Lib.hid (HB1.out.trans (hb2.mono HB1.out.size))
  have HR2 := Lib.hid (row_below HRES.out (HB1.out.trans (hb2.mono HB1.out.size)))
  have HC2 := Lib.hid (fun j x h => cell_later hb2 (HC1.out j x h))
  have HZ2 := Lib.hid hz2
  clear hb2 hw2 hf2 HC1 HRES
  by_cases h7 : N = 7
  case neg =>
    have h7b : ((N : Int) != 7) = true := by rw [bne_iff_ne]; omega
    have h7c : ((N : Int) != 6 + 1) = true := by rw [bne_iff_ne]; omega
    have HSC := Lib.hid (show readC s = 1 by rw [HRC.out]; unfold readLC; rw [if_neg (by rw [HN.out]; exact h7)])
    obtain ⟨yy0, yy1, yy2, yy3, yy4, yy5, yy6, yy7, yy8, yy9, yy10⟩ := cells11 HR2.out
    obtain ⟨y0, y1, y2, y3, y4, y5, y6, y7, y8, y9, y10⟩ := frozen11 HR2.out
    clear h7
    go_wp2
    refine bodyPost_ret (res_rread (put11_row HR2.out) rfl rfl) rfl ?_
    exact rread_bad (by rw [HSC.out]; rfl) (by rw [HSC.out]; decide) ((HB0.out.trans (HB2.out.mono HB0.out.size)).trans ((put11_only ..).below (Nat.le_refl _)))
  case pos =>
    subst h7
    have hl0 : (0 : Int) < 7 := by omega
    obtain ⟨f0, hf0⟩ : ∃ x, L[0]? = some x := ⟨_, List.getElem?_eq_getElem (by rw [HN.out]; omega)⟩
    have q0 := HC2.out 0 f0 hf0
    have hf0' : lAt L 0 = f0 := by unfold lAt; rw [List.getD_eq_getElem?_getD, hf0]; rfl
    have HF0 := Lib.hid hf0'
    clear hf0 hf0'
    go_upto_region 6 with fail
    obtain ⟨W3, hW3⟩ : ∃ W3, w2.alloc (.cells #[.string f0, .string ⟨#[]⟩, .int .i64 0, .int .i64 0, .string ⟨#[]⟩, .int .i64 0, .slice none 0 0, .int .i64 0, .int .i64 0, .slice none 0 0, .slice none 0 0] 40) = W3 := ⟨_, rfl⟩
    have hrow3 : Row W3 w2.heap.size (evK L 0) (.slice none 0 0) (.slice none 0 0) (.slice none 0 0) := by
      refine ⟨?_, ?_, off_nil _, off_nil _, off_nil _⟩
      · rw [← hW3]
        have := heap_new w2 (.cells #[.string f0, .string ⟨#[]⟩, .int .i64 0, .int .i64 0, .string ⟨#[]⟩, .int .i64 0, .slice none 0 0, .int .i64 0, .int .i64 0, .slice none 0 0, .slice none 0 0] 40)
        rw [← HF0.out] at this ⊢
        exact this
      · exact ⟨.inl ⟨rfl, _, _, rfl⟩, .inl ⟨rfl, _, _, rfl⟩, .inl ⟨rfl, _, _, rfl⟩⟩
    have hb23 : Below w2.heap.size w2 W3 := by rw [← hW3]; exact (Below.refl _ w2).alloc (Nat.le_refl _) _
    have hs3 : W3.heap.size = w2.heap.size + 1 := by rw [← hW3]; simp
    rw [hW3]
    have HROW3 := Lib.hid hrow3
    have HB23 := Lib.hid hb23
    have HS3 := Lib.hid hs3
    have HF3 := Lib.hid (row_below HF2.out hb23)
    have HC3 := Lib.hid (fun j x h => cell_later hb23 (HC2.out j x h))
    have HR3 := Lib.hid (row_below HR2.out hb23)
    have hbb : w.heap.size < w1.heap.size := by have := HB1.out.size; have := HZ0.out; omega
    have HBB := Lib.hid hbb
    have HLOW3 := Lib.hid ((HB0.out.trans (HB2.out.mono HB0.out.size)).trans (hb23.mono (by have := HZ2.out; omega)))
    clear hW3 hrow3 hb23 hs3 hbb q0
    go_wp2_with fail
    go_loopw [7] (fun p wr => ∃ (k : Nat) (vd vs vm : Value), k ≤ 6 ∧ p = .int .i64 (k : Int) ∧ Row wr w2.heap.size (evK L k) vd vs vm ∧ (∀ j, j < k → putC (fAt j) (lAt L (j + 1)) = 0) ∧ Far (fun q => q = w2.heap.size) W3 wr ∧ (∀ c, c ≤ w.heap.size → Off c vd ∧ Off c vs ∧ Off c vm)) (fun p _ => 6 - (intOf p).toNat)
    case atStart => exact ⟨0, _, _, _, Nat.zero_le _, rfl, HROW3.out, fun j h => absurd h (Nat.not_lt_zero j), Far.refl _ _, fun c _ => ⟨off_nil c, off_nil c, off_nil c⟩⟩
    case round =>
      obtain ⟨k, vd, vs, vm, hk, rfl, hrow, hall, hfar, hoff⟩ := hrel
      have HROW := Lib.hid hrow
      have HALL := Lib.hid hall
      have HFAR := Lib.hid hfar
      have HOFF := Lib.hid hoff
      have hlow : Below w.heap.size w wr := HLOW3.out.trans (hfar.below (fun q h => by have := HBB.out; have := HZ2.out; omega) HLOW3.out.size)
      have HLOW := Lib.hid hlow
      have hres : wr.heap[w.heap.size]? = some (.cells zeroV 40) := by
        rw [hfar.block _ (by have := HBB.out; have := HZ2.out; have := HS3.out; omega) (by have := HBB.out; have := HZ2.out; omega)]; exact HR3.out
      have HRES := Lib.hid hres
      clear hrow hall hoff hlow hres
      by_cases hlt : k < 6
      · have hc6 : wr.cell? ⟨w1.heap.size, k, none⟩ = some (.string (fieldL.getD k ByteArray.empty)) := far_cell hfar (field_cell HF3.out hlt) (by show w1.heap.size ≠ w2.heap.size; have := HZ2.out; omega)
        obtain ⟨x, hx⟩ : ∃ x, L[k + 1]? = some x := ⟨_, List.getElem?_eq_getElem (by rw [HN.out]; omega)⟩
        have hxl : lAt L (k + 1) = x := by unfold lAt; rw [List.getD_eq_getElem?_getD, hx]; rfl
        have hcx : wr.cell? ⟨g, k + 1, none⟩ = some (.string x) := far_cell hfar (HC3.out (k + 1) x hx) (by show g ≠ w2.heap.size; have := HGL.out; have := HZ2.out; omega)
        have hxs := HLS.out x (List.mem_of_getElem? hx)
        obtain ⟨F, hF⟩ : ∃ F, fieldL.getD k ByteArray.empty = F := ⟨_, rfl⟩
        have hfF : fAt k = F := hF
        rw [hF] at hc6
        have hp := fun W' (h : Below wr.heap.size wr W') => putField_any (evK L k) vd vs vm F x W' (HROW.out.rv.below h) hxs
        obtain ⟨pc, hpc⟩ : ∃ pc, putC F x = pc := ⟨_, rfl⟩
        unfold PfPost at hp
        simp only [hpc] at hp
        have HP := Lib.hid hp
        have HPC := Lib.hid (show putC (fAt k) (lAt L (k + 1)) = pc by rw [hxl, hfF]; exact hpc)
        have HK := Lib.hid (show evK L (k + 1) = putE (evK L k) F x by show putE _ (fAt k) (lAt L (k + 1)) = _; rw [hxl, hfF])
        have hi1 : (k : Int) < 6 := by omega
        have hi2 : (k : Int) + 1 < 7 := by omega
        obtain ⟨k0, k1, k2, k3, k4, k5, k6, k7, k8, k9, k10⟩ := cells11 HROW.out.row
        have hwr : IntKind.i64.wrap ((k : Int) + 1) = (k : Int) + 1 := IntWalk.i64_in _ (by omega)
        have hi3 : ¬ (k : Int) + 1 < 0 := by omega
        have hi4 : (0 : Int) ≤ (k : Int) + 1 := by omega
        have hi5 : ¬ (7 : Int) ≤ (k : Int) + 1 := by omega
        have hi6 : ((k : Int) + 1).toNat = k + 1 := by omega
        have hi7 : k + 1 < 7 := by omega
        have hd : Below wr.heap.size wr wr.drew := below_draw (Below.refl _ _) 1
        clear hx hxl hxs hfF hp hpc hF hfar
        go_wp2_with fail
        have hacc : Below wr.heap.size wr (wr.alloc (.cells zeroV 40)).drew := below_draw ((Below.refl _ _).alloc (Nat.le_refl _) _) 1
        have HACC := Lib.hid hacc
        have HD := Lib.hid hd
        have HZA := Lib.hid (show (wr.alloc (.cells zeroV 40)).drew.heap[wr.heap.size]? = some (.cells zeroV 40) from heap_new wr _)
        have hsa : (wr.alloc (.cells zeroV 40)).drew.heap.size = wr.heap.size + 1 := by show (wr.heap.push _).size = _; simp
        have HSA := Lib.hid hsa
        have hda : Below wr.heap.size wr (wr.alloc (.cells zeroV 40)) := (Below.refl _ _).alloc (Nat.le_refl _) _
        obtain ⟨ka0, ka1, ka2, ka3, ka4, ka5, ka6, ka7, ka8, ka9, ka10⟩ := cells11 (row_below HROW.out.row hda)
        have hca6 := cell_later hda hc6
        have hcax := cell_later hda hcx
        go_cut [8, 9] from 31 to 44 (fun s8 s9 wc => PutAt (evK L k) vd vs vm F x pc wr s8 s9 wc)
        case first =>
          go_region_with (first
              | ((with_reducible refine (HP.out _ (by with_reducible exact HD.out)).mono ?_)
                 rintro e5 w5 ⟨E, v1, v2, v3, ⟨⟨a1, n1, c1, rfl⟩, ⟨a2, n2, c2, rfl⟩, ⟨a3, n3, c3, rfl⟩⟩, rfl, hok5, hb5⟩
                 replace hacc := HD.out.trans (hb5.mono HD.out.size))
              | ((with_reducible refine (HP.out _ HACC.out).mono ?_)
                 rintro e5 w5 ⟨E, v1, v2, v3, ⟨⟨a1, n1, c1, rfl⟩, ⟨a2, n2, c2, rfl⟩, ⟨a3, n3, c3, rfl⟩⟩, rfl, hok5, hb5⟩
                 have hz5 : w5.heap[wr.heap.size]? = some (.cells zeroV 40) := (hb5.block _ (by rw [HSA.out]; omega)).trans HZA.out
                 replace hacc := HACC.out.trans (hb5.mono HACC.out.size)
                 obtain ⟨yy0, yy1, yy2, yy3, yy4, yy5, yy6, yy7, yy8, yy9, yy10⟩ := cells11 hz5
                 obtain ⟨y0, y1, y2, y3, y4, y5, y6, y7, y8, y9, y10⟩ := frozen11 hz5))
          all_goals go_wp2_with fail
          all_goals go_meet
          all_goals (first
            | (have hzz5 := hz5
               refine ⟨wr.heap.size, E, a1, n1, c1, a2, n2, c2, a3, n3, c3, rfl, rfl, put11_row hz5, hacc.trans ((put11_only ..).below (Nat.le_refl _)), Nat.le_refl _, fun h0 => ?_⟩
               obtain ⟨q1, q2, q3⟩ := hok5 h0
               have o1 := q3 wr.heap.size (by rw [HSA.out]; omega) ⟨off_reads HROW.out.rv.d (Nat.le_refl _), off_reads HROW.out.rv.s (Nat.le_refl _), off_mreads HROW.out.rv.m (Nat.le_refl _)⟩
               exact ⟨q1, (put11_only ..).rv q2 o1.1 o1.2.1 o1.2.2, fun c hc h => q3 c (by rw [HSA.out]; omega) h⟩)
            | (refine ⟨w5.heap.size, E, a1, n1, c1, a2, n2, c2, a3, n3, c3, rfl, rfl, heap_new w5 _, hacc.alloc hacc.size _, hacc.size, fun h0 => ?_⟩
               obtain ⟨q1, q2, q3⟩ := hok5 h0
               exact ⟨q1, q2.below ((Below.refl _ w5).alloc (Nat.le_refl _) _), fun c hc h => q3 c hc h⟩))
        case rest =>
          obtain ⟨p8, E, a1, n1, c1, a2, n2, c2, a3, n3, c3, rfl, rfl, hr5, hb6, hp8, hok5⟩ := hcut
          have HR5 := Lib.hid hr5
          have HOK5 := Lib.hid hok5
          have HROW6 := Lib.hid (HROW.out.below hb6)
          have HRES6 := Lib.hid (row_below HRES.out hb6)
          have HLOW6 := Lib.hid (HLOW.out.trans (hb6.mono HLOW.out.size))
          have HB6 := Lib.hid hb6
          clear hr5 hb6 hok5 hacc hc6 hcx k0 k1 k2 k3 k4 k5 k6 k7 k8 k9 k10 hd hda ka0 ka1 ka2 ka3 ka4 ka5 ka6 ka7 ka8 ka9 ka10 hca6 hcax hsa
          by_cases hp0 : pc = 0
          case neg =>
            have hp2 : (0 : Int) < (pc : Int) := by omega
            have HSC := Lib.hid (show readC s = pc by
              rw [HRC.out]; unfold readLC
              rw [if_pos HN.out, badK_miss (j := k) (by rw [HPC.out]; exact hp0) (Nat.zero_le _) (by omega) (fun i _ h => HALL.out i h), HPC.out])
            have HP0 := Lib.hid hp0
            obtain ⟨yy0, yy1, yy2, yy3, yy4, yy5, yy6, yy7, yy8, yy9, yy10⟩ := cells11 HRES6.out
            obtain ⟨y0, y1, y2, y3, y4, y5, y6, y7, y8, y9, y10⟩ := frozen11 HRES6.out
            clear hp0
            go_wp2
            refine bodyPost_ret (res_rread (put11_row HRES6.out) rfl rfl) rfl ?_
            exact rread_bad (by rw [HSC.out]) (by rw [HSC.out]; exact HP0.out) (HLOW6.out.trans ((put11_only ..).below (Nat.le_refl _)))
          case pos =>
            subst hp0
            obtain ⟨hEE, hrv5, hoff5⟩ := HOK5.out rfl
            have hlt1 : w2.heap.size < wr.heap.size := (Array.getElem?_eq_some_iff.1 HROW.out.row).1
            have hlt0 : w.heap.size < wr.heap.size := (Array.getElem?_eq_some_iff.1 HRES.out).1
            have o2 := hoff5 w2.heap.size hlt1 ⟨HROW.out.od, HROW.out.os, HROW.out.om⟩
            have o3 := fun c (hc : c ≤ w.heap.size) => hoff5 c (by omega) (HOFF.out c hc)
            have HRV6 := Lib.hid hrv5
            have HO2 := Lib.hid o2
            have HO3 := Lib.hid o3
            have HEE := Lib.hid hEE
            obtain ⟨k0, k1, k2, k3, k4, k5, k6, k7, k8, k9, k10⟩ := cells11 HR5.out
            obtain ⟨yy0, yy1, yy2, yy3, yy4, yy5, yy6, yy7, yy8, yy9, yy10⟩ := cells11 HROW6.out.row
            obtain ⟨y0, y1, y2, y3, y4, y5, y6, y7, y8, y9, y10⟩ := frozen11 HROW6.out.row
            clear hEE hrv5 hoff5 o2 o3
            go_wp2_with fail
            go_roundw
            case rel =>
              refine ⟨k + 1, .slice a1 n1 c1, .slice a2 n2 c2, .slice a3 n3 c3, by omega, by go_num, ⟨?_, ?_, HO2.out.1, HO2.out.2.1, HO2.out.2.2⟩, fun j hj => ?_, (HFAR.out.trans (Far.of_below HB6.out)).trans (put11_only ..).far, HO3.out⟩
              · rw [HK.out, ← HEE.out]; exact put11_row HROW6.out.row
              · rw [HK.out, ← HEE.out]; exact (put11_only ..).rv HRV6.out HO2.out.1 HO2.out.2.1 HO2.out.2.2
              · by_cases e : j = k
                · subst e; exact HPC.out
                · exact HALL.out j (by omega)
            case measure => simp [intOf]; omega
      · obtain rfl : k = 6 := by omega
        have hzE := evK_size HLS.out HN.out 6 (Nat.le_refl _)
        obtain ⟨E, hE⟩ : ∃ E, evK L 6 = E := ⟨_, rfl⟩
        rw [hE] at HROW hzE
        obtain ⟨a4, c4, rfl⟩ := HROW.out.rv.d.shape
        obtain ⟨a5, c5, rfl⟩ := HROW.out.rv.s.shape
        obtain ⟨a6, c6, rfl⟩ := HROW.out.rv.m.shape
        have hck := eventError_any E _ _ _ wr HROW.out.rv hzE
        obtain ⟨q, hq⟩ : ∃ q, badE E = q := ⟨_, rfl⟩
        rw [hq] at hck
        have hrq : readC s = q := by
          rw [HRC.out]; unfold readLC
          rw [if_pos HN.out, badK_hit (fun j _ h => HALL.out j (by omega)), hE, hq]
        have HCK := Lib.hid hck
        have HEE := Lib.hid hE
        have HRQ := Lib.hid hrq
        obtain ⟨k0, k1, k2, k3, k4, k5, k6, k7, k8, k9, k10⟩ := cells11 HROW.out.row
        clear hck hE hq hzE hrq hfar
        go_wp2_with fail
        (with_reducible refine HCK.out.mono ?_)
        rintro e6 w6 ⟨rfl, hb6⟩
        have HROW6 := Lib.hid (HROW.out.below hb6)
        have HRES6 := Lib.hid (row_below HRES.out hb6)
        have HLOW6 := Lib.hid (HLOW.out.trans (hb6.mono HLOW.out.size))
        clear hb6 k0 k1 k2 k3 k4 k5 k6 k7 k8 k9 k10
        obtain ⟨k0, k1, k2, k3, k4, k5, k6, k7, k8, k9, k10⟩ := cells11 HROW6.out.row
        obtain ⟨yy0, yy1, yy2, yy3, yy4, yy5, yy6, yy7, yy8, yy9, yy10⟩ := cells11 HRES6.out
        obtain ⟨y0, y1, y2, y3, y4, y5, y6, y7, y8, y9, y10⟩ := frozen11 HRES6.out
        by_cases hq0 : q = 0
        case neg =>
          have hp2 : (0 : Int) < (q : Int) := by omega
          have HP0 := Lib.hid hq0
          clear hq0
          go_wp2
          refine bodyPost_ret (res_rread (put11_row HRES6.out) rfl rfl) rfl ?_
          exact rread_bad (by rw [HRQ.out]) (by rw [HRQ.out]; exact HP0.out) (HLOW6.out.trans ((put11_only ..).below (Nat.le_refl _)))
        case pos =>
          subst hq0
          go_wp2
          refine bodyPost_ret (res_rread (put11_row HRES6.out) rfl rfl) rfl ?_
          have hRE : readE s = E := by
            rw [HRE.out]; unfold readLE
            rw [if_pos (by rw [← HRC.out]; exact HRQ.out), HEE.out]
          refine ⟨.slice a4 E.ru.ds.length c4, .slice a5 E.sk.length c5, .slice a6 E.mv.length c6, ?_, ?_, fun c hc => HOFF.out c (Nat.le_of_lt hc), HLOW6.out.trans ((put11_only ..).below (Nat.le_refl _))⟩
          · rw [hRE, HRQ.out]; rfl
          · rw [hRE]; exact (put11_only ..).rv HROW6.out.rv (HOFF.out _ (Nat.le_refl _)).1 (HOFF.out _ (Nat.le_refl _)).2.1 (HOFF.out _ (Nat.le_refl _)).2.2
end Evt
end Go.Proofs.YtghkalamlcfnnaaGreatDoor
