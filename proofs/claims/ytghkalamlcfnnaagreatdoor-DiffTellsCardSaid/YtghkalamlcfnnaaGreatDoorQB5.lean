/- EvPut, EvCopied: texts joined. -/
import Derived.Test.YtghkalamlcfnnaaGreatDoorQEvPutL
import Derived.Test.YtghkalamlcfnnaaGreatDoorQA6
import Derived.Test.YtghkalamlcfnnaaGreatDoorQA7
section
namespace Go.Proofs.YtghkalamlcfnnaaGreatDoor
open Go Go.RowKit Go.Shelf Lmd
attribute [local go_sem] Oper.semAt_some
namespace Evt
open Rul Day Cand Er Tp
structure Row (W : World) (b : Nat) (e : Ev) (vd vs vm : Value) : Prop where
  row : W.heap[b]? = some (.cells (e.cells vd vs vm) 40)
  rv : Rv W e vd vs vm
  od : Off b vd
  os : Off b vs
  om : Off b vm
theorem Row.below {W W' : World} {b : Nat} {e : Ev} {vd vs vm : Value} (h : Row W b e vd vs vm) (hb : Below W.heap.size W W') : Row W' b e vd vs vm :=
  ⟨row_below h.row hb, h.rv.below hb, h.od, h.os, h.om⟩
def PutPost (er : Nat → Addr) (b : Nat) (e : Ev) (vd vs vm : Value) (f s : ByteArray) (w : World) (r : Ending) (w' : World) : Prop :=
  r = .returned (errV er (putC f s)) ∧ Far (fun k => k = b) w w' ∧ (putC f s = 0 → ∃ vd' vs' vm', Row w' b (putE e f s) vd' vs' vm' ∧ ∀ c, c < w.heap.size → (Off c vd ∧ Off c vs ∧ Off c vm) → Off c vd' ∧ Off c vs' ∧ Off c vm')
theorem atoi_all (s : ByteArray) (w : World) (hs : s.size ≤ 2000000) (hE : ELib w) :
    Calls Tryz.prog 187 #[.string s] w fun e w' => ∃ n er, e = .returned (.tuple #[.int .i64 n, er]) ∧ ((Lib.atoiAll s.data.toList = .ok n ∧ er = .nilIface) ∨ (lgOk s.data.toList = false ∧ ∃ N, er = .iface 312 (.pointer (some ⟨N, 0, none⟩)))) ∧ Below w.heap.size w w' := by
  rcases h : Lib.atoiAll s.data.toList with v | _ | _
  · refine (Tryz.strconv_Atoi_ok s (by omega) v h w).mono ?_
    rintro e w' ⟨rfl, (rfl | ⟨t, rfl⟩)⟩
    · exact ⟨v, .nilIface, rfl, .inl ⟨rfl, rfl⟩, Below.refl _ _⟩
    · exact ⟨v, .nilIface, rfl, .inl ⟨rfl, rfl⟩, Lib.bytesWorld_below _ _ _⟩
  · obtain ⟨tp, p, hv⟩ := hE.sy
    refine (Any.strconv_Atoi_syntax_var Tryz.laysC172 s (by omega) h tp p w hv).mono ?_
    rintro e w' ⟨N, rfl, _, _, hb⟩
    exact ⟨0, _, rfl, .inr ⟨by unfold lgOk; rw [h], N, rfl⟩, hb⟩
  · obtain ⟨tp, p, hv⟩ := hE.ra
    refine (Any.strconv_Atoi_range_var Tryz.laysC172 s (by omega) h tp p w hv).mono ?_
    rintro e w' ⟨N, rfl, _, _, hb⟩
    exact ⟨_, _, rfl, .inr ⟨by unfold lgOk; rw [h], N, rfl⟩, hb⟩
theorem atoi_ge {l : List UInt8} {v : Int} (h : Lib.atoiAll l = .ok v) : -9223372036854775808 ≤ v := by
  unfold Lib.atoiAll at h
  split at h
  · cases h
  · dsimp only at h
    split at h
    · cases h
    · cases h
    · split at h
      · cases h
      · split at h
        · cases h
        · cases h
          rename_i h1 h2
          split <;> omega
theorem far_b {w w' : World} {b : Nat} (h : Below w.heap.size w w') : Far (fun k => k = b) w w' := Far.of_below h
set_option maxRecDepth 100000 in
set_option maxHeartbeats 8000000 in
theorem put_title (e : Ev) (vd vs vm : Value) (b : Nat) (f s : ByteArray) (er : Nat → Addr) (m : Int) (w : World) (hv : Env w er m) (hR : Row w b e vd vs vm) (hs : s.size ≤ 30000) (h1 : f.toList = [116, 105, 116, 108, 101]) :
    Calls Tryz.prog 133 #[.pointer (some ⟨b, 0, none⟩), .string f, .string s] w (PutPost er b e vd vs vm f s w) := by
  have hbl : b < w.heap.size := (Array.getElem?_eq_some_iff.1 hR.row).1
  have hdy := readDay_five s er w hv.five
  have hat := atoi_all s w (by omega) hv.lib
  have hrd := readF_any s m er w hs hv.five hv.lib hv.tab hv.ml
  have hsk := readSkips_any s er w (by omega) hv.five
  have hmv := readMoves_any s er m w (by omega) hv
  obtain ⟨R, hRR⟩ : ∃ R, readS s = R := ⟨_, rfl⟩
  rw [hRR] at hrd
  have HRR := Lib.hid hRR
  have HR := Lib.hid hR
  have HV := Lib.hid hv
  have HDY := Lib.hid hdy
  have HAT := Lib.hid hat
  have HRD := Lib.hid hrd
  have HSK := Lib.hid hsk
  have HMV := Lib.hid hmv
  clear hdy hat hrd hsk hmv hv hRR
  obtain ⟨k0, k1, k2, k3, k4, k5, k6, k7, k8, k9, k10⟩ := cells11 hR.row
  obtain ⟨z0, z1, z2, z3, z4, z5, z6, z7, z8, z9, z10⟩ := frozen11 hR.row
  clear hR
  go_enter Tryz.func133, Tryz.ntmps133
  go_wp2
  go_ret
  have hc : putC f s = 0 := by unfold putC; rw [if_pos h1]
  have he : putE e f s = { e with ti := s } := by unfold putE; rw [if_pos h1]
  refine ⟨by rw [hc]; rfl, (Far.refl (fun k => k = b) w).set (p := ⟨b, 1, none⟩) rfl _, fun _ => ⟨vd, vs, vm, ?_⟩⟩
  rw [he]
  refine ⟨?_, fun c _ h => h⟩
  exact ⟨row_set HR.out.row 1 _, (HR.out.rv.off HR.out.od HR.out.os HR.out.om).as rfl rfl rfl, HR.out.od, HR.out.os, HR.out.om⟩
set_option maxRecDepth 100000 in
set_option maxHeartbeats 8000000 in
theorem put_start (e : Ev) (vd vs vm : Value) (b : Nat) (f s : ByteArray) (er : Nat → Addr) (m : Int) (w : World) (hv : Env w er m) (hR : Row w b e vd vs vm) (hs : s.size ≤ 30000) (h1 : ¬ f.toList = [116, 105, 116, 108, 101]) (h2 : f.toList = [115, 116, 97, 114, 116]) :
    Calls Tryz.prog 133 #[.pointer (some ⟨b, 0, none⟩), .string f, .string s] w (PutPost er b e vd vs vm f s w) := by
  have hbl : b < w.heap.size := (Array.getElem?_eq_some_iff.1 hR.row).1
  have hdy := readDay_five s er w hv.five
  have hat := atoi_all s w (by omega) hv.lib
  have hrd := readF_any s m er w hs hv.five hv.lib hv.tab hv.ml
  have hsk := readSkips_any s er w (by omega) hv.five
  have hmv := readMoves_any s er m w (by omega) hv
  obtain ⟨R, hRR⟩ : ∃ R, readS s = R := ⟨_, rfl⟩
  rw [hRR] at hrd
  have HRR := Lib.hid hRR
  have HR := Lib.hid hR
  have HV := Lib.hid hv
  have HDY := Lib.hid hdy
  have HAT := Lib.hid hat
  have HRD := Lib.hid hrd
  have HSK := Lib.hid hsk
  have HMV := Lib.hid hmv
  clear hdy hat hrd hsk hmv hv hRR
  obtain ⟨k0, k1, k2, k3, k4, k5, k6, k7, k8, k9, k10⟩ := cells11 hR.row
  obtain ⟨z0, z1, z2, z3, z4, z5, z6, z7, z8, z9, z10⟩ := frozen11 hR.row
  clear hR
  go_enter Tryz.func133, Tryz.ntmps133
  have hc : putC f s = dayC s.data.toList := by unfold putC; rw [if_neg h1, if_pos h2]
  have he : putE e f s = { e with st := dayX s.data.toList } := by unfold putE; rw [if_neg h1, if_pos h2]
  have HC := Lib.hid hc
  have HE := Lib.hid he
  clear hc he
  go_wp2_with fail
  (with_reducible refine HDY.out.mono ?_)
  rintro e2 w2 ⟨rfl, hb2⟩
  obtain ⟨k0, k1, k2, k3, k4, k5, k6, k7, k8, k9, k10⟩ := cells11 (row_below HR.out.row hb2)
  obtain ⟨z0, z1, z2, z3, z4, z5, z6, z7, z8, z9, z10⟩ := frozen11 (row_below HR.out.row hb2)
  have HB2 := Lib.hid hb2
  clear hb2
  go_wp2
  go_ret
  have r2 := HR.out.below HB2.out
  refine ⟨by (rw [HC.out]); all_goals rfl, (far_b HB2.out).set (p := ⟨b, 2, none⟩) rfl _, fun _ => ⟨vd, vs, vm, ?_⟩⟩
  rw [HE.out]
  refine ⟨?_, fun c _ h => h⟩
  exact ⟨row_set r2.row 2 _, (r2.rv.off r2.od r2.os r2.om).as rfl rfl rfl, r2.od, r2.os, r2.om⟩
set_option maxRecDepth 100000 in
set_option maxHeartbeats 8000000 in
theorem put_long (e : Ev) (vd vs vm : Value) (b : Nat) (f s : ByteArray) (er : Nat → Addr) (m : Int) (w : World) (hv : Env w er m) (hR : Row w b e vd vs vm) (hs : s.size ≤ 30000) (h1 : ¬ f.toList = [116, 105, 116, 108, 101]) (h2 : ¬ f.toList = [115, 116, 97, 114, 116]) (h3 : f.toList = [108, 111, 110, 103]) :
    Calls Tryz.prog 133 #[.pointer (some ⟨b, 0, none⟩), .string f, .string s] w (PutPost er b e vd vs vm f s w) := by
  have hbl : b < w.heap.size := (Array.getElem?_eq_some_iff.1 hR.row).1
  have hdy := readDay_five s er w hv.five
  have hat := atoi_all s w (by omega) hv.lib
  have hrd := readF_any s m er w hs hv.five hv.lib hv.tab hv.ml
  have hsk := readSkips_any s er w (by omega) hv.five
  have hmv := readMoves_any s er m w (by omega) hv
  obtain ⟨R, hRR⟩ : ∃ R, readS s = R := ⟨_, rfl⟩
  rw [hRR] at hrd
  have HRR := Lib.hid hRR
  have HR := Lib.hid hR
  have HV := Lib.hid hv
  have HDY := Lib.hid hdy
  have HAT := Lib.hid hat
  have HRD := Lib.hid hrd
  have HSK := Lib.hid hsk
  have HMV := Lib.hid hmv
  clear hdy hat hrd hsk hmv hv hRR
  obtain ⟨k0, k1, k2, k3, k4, k5, k6, k7, k8, k9, k10⟩ := cells11 hR.row
  obtain ⟨z0, z1, z2, z3, z4, z5, z6, z7, z8, z9, z10⟩ := frozen11 hR.row
  clear hR
  go_enter Tryz.func133, Tryz.ntmps133
  have hc : putC f s = if lgOk s.data.toList = true then 0 else 1 := by unfold putC; rw [if_neg h1, if_neg h2, if_pos h3]
  have he : putE e f s = { e with lg := numIs s.data.toList } := by unfold putE; rw [if_neg h1, if_neg h2, if_pos h3]
  have HC := Lib.hid hc
  have HE := Lib.hid he
  clear hc he
  go_wp2_with fail
  (with_reducible refine HAT.out.mono ?_)
  rintro e2 w2 ⟨n, er2, rfl, hn, hb2⟩
  obtain ⟨k0, k1, k2, k3, k4, k5, k6, k7, k8, k9, k10⟩ := cells11 (row_below HR.out.row hb2)
  obtain ⟨z0, z1, z2, z3, z4, z5, z6, z7, z8, z9, z10⟩ := frozen11 (row_below HR.out.row hb2)
  have HB2 := Lib.hid hb2
  have hcE := (HV.out.below hb2).errs.s0.cell
  clear hb2
  rcases hn with ⟨hok, rfl⟩ | ⟨hno, N, rfl⟩
  · by_cases h9 : s.size ≤ 9
    · have h9i : ¬ (9 : Int) < (s.size : Int) := by omega
      have hle := atoi_le hok
      have hge := atoi_ge hok
      have hit := itoa_b n hge hle w2 (HV.out.below HB2.out).tab
      have HIT := Lib.hid hit
      have HOK := Lib.hid hok
      clear hit hok
      go_wp2_with fail
      (with_reducible refine HIT.out.mono ?_)
      rintro e3 w3 ⟨rfl, hb3⟩
      have hb23 : Below w.heap.size w w3 := HB2.out.trans (hb3.mono HB2.out.size)
      obtain ⟨k0, k1, k2, k3, k4, k5, k6, k7, k8, k9, k10⟩ := cells11 (row_below HR.out.row hb23)
      obtain ⟨z0, z1, z2, z3, z4, z5, z6, z7, z8, z9, z10⟩ := frozen11 (row_below HR.out.row hb23)
      have hcE := (HV.out.below hb23).errs.s0.cell
      have HB3 := Lib.hid hb23
      clear hb3 hb23
      by_cases hi : Lib.itoa n = s.data.toList
      · have hq : (Lib.itoa n == s.toList) = true := by rw [ByteArray.toList_eq]; exact beq_iff_eq.2 hi
        have hi2 : Lib.itoa n = s.toList := by rw [ByteArray.toList_eq]; exact hi
        have HI := Lib.hid hi
        clear hi
        go_wp2
        go_ret
        have hl : lgOk s.data.toList = true := by
          unfold lgOk
          rw [HOK.out]
          simp only [Bool.and_eq_true, decide_eq_true_eq]
          exact ⟨by simpa using h9, HI.out⟩
        have hnn : numIs s.data.toList = n := by unfold numIs; rw [HOK.out]
        have r2 := HR.out.below HB3.out
        refine ⟨by rw [HC.out, if_pos hl]; rfl, (far_b HB3.out).set (p := ⟨b, 3, none⟩) rfl _, fun _ => ⟨vd, vs, vm, ?_⟩⟩
        rw [HE.out, hnn]
        refine ⟨?_, fun c _ h => h⟩
        exact ⟨row_set r2.row 3 _, (r2.rv.off r2.od r2.os r2.om).as rfl rfl rfl, r2.od, r2.os, r2.om⟩
      · have hq : (Lib.itoa n == s.toList) = false := by rw [ByteArray.toList_eq]; exact beq_false_of_ne hi
        have hi2 : ¬ Lib.itoa n = s.toList := by rw [ByteArray.toList_eq]; exact hi
        have HI := Lib.hid hi
        clear hi
        go_wp2
        go_ret
        have hl : ¬ lgOk s.data.toList = true := by
          unfold lgOk
          rw [HOK.out]
          simp only [Bool.and_eq_true, decide_eq_true_eq]
          exact fun h => HI.out h.2
        refine ⟨by rw [HC.out, if_neg hl]; rfl, far_b HB3.out, fun h => by rw [HC.out, if_neg hl] at h; cases h⟩
    · have h9i : (9 : Int) < (s.size : Int) := by omega
      have hl : ¬ lgOk s.data.toList = true := by
        unfold lgOk
        rw [hok]
        simp only [Bool.and_eq_true, decide_eq_true_eq]
        exact fun h => h9 (by simpa using h.1)
      have HL := Lib.hid hl
      clear hl hok
      go_wp2
      go_ret
      refine ⟨by rw [HC.out, if_neg HL.out]; rfl, far_b HB2.out, fun h => by rw [HC.out, if_neg HL.out] at h; cases h⟩
  · have HL := Lib.hid (show ¬ lgOk s.data.toList = true by rw [hno]; simp)
    clear hno
    go_wp2
    go_ret
    refine ⟨by rw [HC.out, if_neg HL.out]; rfl, far_b HB2.out, fun h => by rw [HC.out, if_neg HL.out] at h; cases h⟩
set_option maxRecDepth 100000 in
set_option maxHeartbeats 8000000 in
theorem put_rule (e : Ev) (vd vs vm : Value) (b : Nat) (f s : ByteArray) (er : Nat → Addr) (m : Int) (w : World) (hv : Env w er m) (hR : Row w b e vd vs vm) (hs : s.size ≤ 30000) (h1 : ¬ f.toList = [116, 105, 116, 108, 101]) (h2 : ¬ f.toList = [115, 116, 97, 114, 116]) (h3 : ¬ f.toList = [108, 111, 110, 103]) (h4 : f.toList = [114, 117, 108, 101]) :
    Calls Tryz.prog 133 #[.pointer (some ⟨b, 0, none⟩), .string f, .string s] w (PutPost er b e vd vs vm f s w) := by
  have hbl : b < w.heap.size := (Array.getElem?_eq_some_iff.1 hR.row).1
  have hdy := readDay_five s er w hv.five
  have hat := atoi_all s w (by omega) hv.lib
  have hrd := readF_any s m er w hs hv.five hv.lib hv.tab hv.ml
  have hsk := readSkips_any s er w (by omega) hv.five
  have hmv := readMoves_any s er m w (by omega) hv
  obtain ⟨R, hRR⟩ : ∃ R, readS s = R := ⟨_, rfl⟩
  rw [hRR] at hrd
  have HRR := Lib.hid hRR
  have HR := Lib.hid hR
  have HV := Lib.hid hv
  have HDY := Lib.hid hdy
  have HAT := Lib.hid hat
  have HRD := Lib.hid hrd
  have HSK := Lib.hid hsk
  have HMV := Lib.hid hmv
  clear hdy hat hrd hsk hmv hv hRR
  obtain ⟨k0, k1, k2, k3, k4, k5, k6, k7, k8, k9, k10⟩ := cells11 hR.row
  obtain ⟨z0, z1, z2, z3, z4, z5, z6, z7, z8, z9, z10⟩ := frozen11 hR.row
  clear hR
  go_enter Tryz.func133, Tryz.ntmps133
  have hc : putC f s = R.1 := by unfold putC; rw [if_neg h1, if_neg h2, if_neg h3, if_pos h4, HRR.out]
  have he : putE e f s = { e with ru := R.2 } := by unfold putE; rw [if_neg h1, if_neg h2, if_neg h3, if_pos h4, HRR.out]
  have HC := Lib.hid hc
  have HE := Lib.hid he
  clear hc he
  go_wp2_with fail
  (with_reducible refine HRD.out.mono ?_)
  rintro e2 w2 ⟨v2, rfl, hr2, hf2, hb2⟩
  obtain ⟨k0, k1, k2, k3, k4, k5, k6, k7, k8, k9, k10⟩ := cells11 (row_below HR.out.row hb2)
  obtain ⟨z0, z1, z2, z3, z4, z5, z6, z7, z8, z9, z10⟩ := frozen11 (row_below HR.out.row hb2)
  have HB2 := Lib.hid hb2
  have HR2 := Lib.hid hr2
  have HF2 := Lib.hid hf2
  have hor : Off b v2 := fun g o n c h1 h2 => by have := hf2 g o n c h1 h2; omega
  have HOR := Lib.hid hor
  obtain ⟨a2, c2, rfl⟩ := hr2.shape
  obtain ⟨dn, hdn⟩ : ∃ n, R.2.ds.length = n := ⟨_, rfl⟩
  rw [hdn]
  rw [hdn] at HR2 HOR HF2
  have hu := Tryz.underlying37
  clear hb2 hr2 hf2 hor hdn
  go_wp2
  go_ret
  have r2 := HR.out.below HB2.out
  refine ⟨by (rw [HC.out]); all_goals rfl, (((((far_b HB2.out).set (p := ⟨b, 4, none⟩) rfl _).set (p := ⟨b, 5, none⟩) rfl _).set (p := ⟨b, 6, none⟩) rfl _).set (p := ⟨b, 7, none⟩) rfl _).set (p := ⟨b, 8, none⟩) rfl _, fun _ => ⟨.slice a2 dn c2, vs, vm, ?_⟩⟩
  rw [HE.out]
  refine ⟨?_, fun c hc h => ⟨fun g o n cc h1 h2 => by have := HF2.out g o n cc h1 h2; omega, h.2⟩⟩
  refine ⟨?_, ⟨?_, ?_, ?_⟩, HOR.out, r2.os, r2.om⟩
  · exact row_set (row_set (row_set (row_set (row_set r2.row 4 _) 5 _) 6 _) 7 _) 8 _
  · exact reads_off (reads_off (reads_off (reads_off (reads_off HR2.out HOR.out) HOR.out) HOR.out) HOR.out) HOR.out
  · exact reads_off (reads_off (reads_off (reads_off (reads_off r2.rv.s r2.os) r2.os) r2.os) r2.os) r2.os
  · exact mreads_off (mreads_off (mreads_off (mreads_off (mreads_off r2.rv.m r2.om) r2.om) r2.om) r2.om) r2.om
set_option maxRecDepth 100000 in
set_option maxHeartbeats 8000000 in
theorem put_skips (e : Ev) (vd vs vm : Value) (b : Nat) (f s : ByteArray) (er : Nat → Addr) (m : Int) (w : World) (hv : Env w er m) (hR : Row w b e vd vs vm) (hs : s.size ≤ 30000) (h1 : ¬ f.toList = [116, 105, 116, 108, 101]) (h2 : ¬ f.toList = [115, 116, 97, 114, 116]) (h3 : ¬ f.toList = [108, 111, 110, 103]) (h4 : ¬ f.toList = [114, 117, 108, 101]) (h5 : f.toList = [115, 107, 105, 112, 115]) :
    Calls Tryz.prog 133 #[.pointer (some ⟨b, 0, none⟩), .string f, .string s] w (PutPost er b e vd vs vm f s w) := by
  have hbl : b < w.heap.size := (Array.getElem?_eq_some_iff.1 hR.row).1
  have hdy := readDay_five s er w hv.five
  have hat := atoi_all s w (by omega) hv.lib
  have hrd := readF_any s m er w hs hv.five hv.lib hv.tab hv.ml
  have hsk := readSkips_any s er w (by omega) hv.five
  have hmv := readMoves_any s er m w (by omega) hv
  obtain ⟨R, hRR⟩ : ∃ R, readS s = R := ⟨_, rfl⟩
  rw [hRR] at hrd
  have HRR := Lib.hid hRR
  have HR := Lib.hid hR
  have HV := Lib.hid hv
  have HDY := Lib.hid hdy
  have HAT := Lib.hid hat
  have HRD := Lib.hid hrd
  have HSK := Lib.hid hsk
  have HMV := Lib.hid hmv
  clear hdy hat hrd hsk hmv hv hRR
  obtain ⟨k0, k1, k2, k3, k4, k5, k6, k7, k8, k9, k10⟩ := cells11 hR.row
  obtain ⟨z0, z1, z2, z3, z4, z5, z6, z7, z8, z9, z10⟩ := frozen11 hR.row
  clear hR
  go_enter Tryz.func133, Tryz.ntmps133
  have hc : putC f s = skC (listP s) := by unfold putC; rw [if_neg h1, if_neg h2, if_neg h3, if_neg h4, if_pos h5]
  have he : putE e f s = { e with sk := skV (listP s) } := by unfold putE; rw [if_neg h1, if_neg h2, if_neg h3, if_neg h4, if_pos h5]
  have HC := Lib.hid hc
  have HE := Lib.hid he
  clear hc he
  go_wp2_with fail
  (with_reducible refine HSK.out.mono ?_)
  rintro e2 w2 ⟨v2, rfl, hn2, hr2, hb2⟩
  obtain ⟨k0, k1, k2, k3, k4, k5, k6, k7, k8, k9, k10⟩ := cells11 (row_below HR.out.row hb2)
  obtain ⟨z0, z1, z2, z3, z4, z5, z6, z7, z8, z9, z10⟩ := frozen11 (row_below HR.out.row hb2)
  obtain ⟨a2, n2, c2, rfl⟩ : ∃ a n c, v2 = .slice a n c := by
    by_cases h0 : skC (listP s) = 0
    · obtain ⟨a, c, h⟩ := (hr2 h0).1.shape; exact ⟨a, _, c, h⟩
    · exact ⟨none, 0, 0, hn2 h0⟩
  have HB2 := Lib.hid hb2
  have HR2 := Lib.hid hr2
  clear hb2 hr2 hn2
  go_wp2
  go_ret
  have r2 := HR.out.below HB2.out
  refine ⟨by (rw [HC.out]); all_goals rfl, (far_b HB2.out).set (p := ⟨b, 9, none⟩) rfl _, fun h => ⟨vd, .slice a2 n2 c2, vm, ?_⟩⟩
  rw [HC.out] at h
  obtain ⟨q1, q2⟩ := HR2.out h
  have hor : Off b (.slice a2 n2 c2) := fun g o n c h1 h2 => by have := q2 g o n c h1; omega
  rw [HE.out]
  refine ⟨?_, fun c hc h => ⟨h.1, fun g o n cc h1 _ => by have := q2 g o n cc h1; omega, h.2.2⟩⟩
  exact ⟨row_set r2.row 9 _, ⟨reads_off r2.rv.d r2.od, reads_off q1 hor, mreads_off r2.rv.m r2.om⟩, r2.od, hor, r2.om⟩
set_option maxRecDepth 100000 in
set_option maxHeartbeats 8000000 in
theorem put_moves (e : Ev) (vd vs vm : Value) (b : Nat) (f s : ByteArray) (er : Nat → Addr) (m : Int) (w : World) (hv : Env w er m) (hR : Row w b e vd vs vm) (hs : s.size ≤ 30000) (h1 : ¬ f.toList = [116, 105, 116, 108, 101]) (h2 : ¬ f.toList = [115, 116, 97, 114, 116]) (h3 : ¬ f.toList = [108, 111, 110, 103]) (h4 : ¬ f.toList = [114, 117, 108, 101]) (h5 : ¬ f.toList = [115, 107, 105, 112, 115]) (h6 : f.toList = [109, 111, 118, 101, 115]) :
    Calls Tryz.prog 133 #[.pointer (some ⟨b, 0, none⟩), .string f, .string s] w (PutPost er b e vd vs vm f s w) := by
  have hbl : b < w.heap.size := (Array.getElem?_eq_some_iff.1 hR.row).1
  have hdy := readDay_five s er w hv.five
  have hat := atoi_all s w (by omega) hv.lib
  have hrd := readF_any s m er w hs hv.five hv.lib hv.tab hv.ml
  have hsk := readSkips_any s er w (by omega) hv.five
  have hmv := readMoves_any s er m w (by omega) hv
  obtain ⟨R, hRR⟩ : ∃ R, readS s = R := ⟨_, rfl⟩
  rw [hRR] at hrd
  have HRR := Lib.hid hRR
  have HR := Lib.hid hR
  have HV := Lib.hid hv
  have HDY := Lib.hid hdy
  have HAT := Lib.hid hat
  have HRD := Lib.hid hrd
  have HSK := Lib.hid hsk
  have HMV := Lib.hid hmv
  clear hdy hat hrd hsk hmv hv hRR
  obtain ⟨k0, k1, k2, k3, k4, k5, k6, k7, k8, k9, k10⟩ := cells11 hR.row
  obtain ⟨z0, z1, z2, z3, z4, z5, z6, z7, z8, z9, z10⟩ := frozen11 hR.row
  clear hR
  go_enter Tryz.func133, Tryz.ntmps133
  have hc : putC f s = mvC (listP s) := by unfold putC; rw [if_neg h1, if_neg h2, if_neg h3, if_neg h4, if_neg h5, if_pos h6]
  have he : putE e f s = { e with mv := mvV (listP s) } := by unfold putE; rw [if_neg h1, if_neg h2, if_neg h3, if_neg h4, if_neg h5, if_pos h6]
  have HC := Lib.hid hc
  have HE := Lib.hid he
  clear hc he
  go_wp2_with fail
  (with_reducible refine HMV.out.mono ?_)
  rintro e2 w2 ⟨v2, rfl, hn2, hr2, hb2⟩
  obtain ⟨k0, k1, k2, k3, k4, k5, k6, k7, k8, k9, k10⟩ := cells11 (row_below HR.out.row hb2)
  obtain ⟨z0, z1, z2, z3, z4, z5, z6, z7, z8, z9, z10⟩ := frozen11 (row_below HR.out.row hb2)
  obtain ⟨a2, n2, c2, rfl⟩ : ∃ a n c, v2 = .slice a n c := by
    by_cases h0 : mvC (listP s) = 0
    · obtain ⟨a, c, h⟩ := (hr2 h0).1.shape; exact ⟨a, _, c, h⟩
    · exact ⟨none, 0, 0, hn2 h0⟩
  have HB2 := Lib.hid hb2
  have HR2 := Lib.hid hr2
  clear hb2 hr2 hn2
  go_wp2
  go_ret
  have r2 := HR.out.below HB2.out
  refine ⟨by (rw [HC.out]); all_goals rfl, (far_b HB2.out).set (p := ⟨b, 10, none⟩) rfl _, fun h => ⟨vd, vs, .slice a2 n2 c2, ?_⟩⟩
  rw [HC.out] at h
  obtain ⟨q1, q2⟩ := HR2.out h
  have hor : Off b (.slice a2 n2 c2) := fun g o n c h1 h2 => by have := q2 g o n c h1; omega
  rw [HE.out]
  refine ⟨?_, fun c hc h => ⟨h.1, h.2.1, fun g o n cc h1 _ => by have := q2 g o n cc h1; omega⟩⟩
  exact ⟨row_set r2.row 10 _, ⟨reads_off r2.rv.d r2.od, reads_off r2.rv.s r2.os, mreads_off q1 hor⟩, r2.od, r2.os, hor⟩
set_option maxRecDepth 100000 in
set_option maxHeartbeats 8000000 in
theorem put_none (e : Ev) (vd vs vm : Value) (b : Nat) (f s : ByteArray) (er : Nat → Addr) (m : Int) (w : World) (hv : Env w er m) (hR : Row w b e vd vs vm) (hs : s.size ≤ 30000) (h1 : ¬ f.toList = [116, 105, 116, 108, 101]) (h2 : ¬ f.toList = [115, 116, 97, 114, 116]) (h3 : ¬ f.toList = [108, 111, 110, 103]) (h4 : ¬ f.toList = [114, 117, 108, 101]) (h5 : ¬ f.toList = [115, 107, 105, 112, 115]) (h6 : ¬ f.toList = [109, 111, 118, 101, 115]) :
    Calls Tryz.prog 133 #[.pointer (some ⟨b, 0, none⟩), .string f, .string s] w (PutPost er b e vd vs vm f s w) := by
  have hbl : b < w.heap.size := (Array.getElem?_eq_some_iff.1 hR.row).1
  have hdy := readDay_five s er w hv.five
  have hat := atoi_all s w (by omega) hv.lib
  have hrd := readF_any s m er w hs hv.five hv.lib hv.tab hv.ml
  have hsk := readSkips_any s er w (by omega) hv.five
  have hmv := readMoves_any s er m w (by omega) hv
  obtain ⟨R, hRR⟩ : ∃ R, readS s = R := ⟨_, rfl⟩
  rw [hRR] at hrd
  have HRR := Lib.hid hRR
  have HR := Lib.hid hR
  have HV := Lib.hid hv
  have HDY := Lib.hid hdy
  have HAT := Lib.hid hat
  have HRD := Lib.hid hrd
  have HSK := Lib.hid hsk
  have HMV := Lib.hid hmv
  clear hdy hat hrd hsk hmv hv hRR
  obtain ⟨k0, k1, k2, k3, k4, k5, k6, k7, k8, k9, k10⟩ := cells11 hR.row
  obtain ⟨z0, z1, z2, z3, z4, z5, z6, z7, z8, z9, z10⟩ := frozen11 hR.row
  clear hR
  go_enter Tryz.func133, Tryz.ntmps133
  have hc : putC f s = 4 := by unfold putC; rw [if_neg h1, if_neg h2, if_neg h3, if_neg h4, if_neg h5, if_neg h6]
  have HC := Lib.hid hc
  have b1 : (f.toList == [116, 105, 116, 108, 101]) = false := by simpa using h1
  have b2 : (f.toList == [115, 116, 97, 114, 116]) = false := by simpa using h2
  have b3 : (f.toList == [108, 111, 110, 103]) = false := by simpa using h3
  have b4 : (f.toList == [114, 117, 108, 101]) = false := by simpa using h4
  have b5 : (f.toList == [115, 107, 105, 112, 115]) = false := by simpa using h5
  have b6 : (f.toList == [109, 111, 118, 101, 115]) = false := by simpa using h6
  have hcE := HV.out.errs.s3.cell
  clear h1 h2 h3 h4 h5 h6 hc
  go_wp2
  go_ret
  refine ⟨by rw [HC.out]; rfl, Far.refl _ w, fun h => by rw [HC.out] at h; cases h⟩
theorem put_any (e : Ev) (vd vs vm : Value) (b : Nat) (f s : ByteArray) (er : Nat → Addr) (m : Int) (w : World) (hv : Env w er m) (hR : Row w b e vd vs vm) (hs : s.size ≤ 30000) :
    Calls Tryz.prog 133 #[.pointer (some ⟨b, 0, none⟩), .string f, .string s] w (PutPost er b e vd vs vm f s w) := by
  by_cases h1 : f.toList = [116, 105, 116, 108, 101]
  · exact put_title e vd vs vm b f s er m w hv hR hs h1
  by_cases h2 : f.toList = [115, 116, 97, 114, 116]
  · exact put_start e vd vs vm b f s er m w hv hR hs h1 h2
  by_cases h3 : f.toList = [108, 111, 110, 103]
  · exact put_long e vd vs vm b f s er m w hv hR hs h1 h2 h3
  by_cases h4 : f.toList = [114, 117, 108, 101]
  · exact put_rule e vd vs vm b f s er m w hv hR hs h1 h2 h3 h4
  by_cases h5 : f.toList = [115, 107, 105, 112, 115]
  · exact put_skips e vd vs vm b f s er m w hv hR hs h1 h2 h3 h4 h5
  by_cases h6 : f.toList = [109, 111, 118, 101, 115]
  · exact put_moves e vd vs vm b f s er m w hv hR hs h1 h2 h3 h4 h5 h6
  exact put_none e vd vs vm b f s er m w hv hR hs h1 h2 h3 h4 h5 h6
end Evt
end Go.Proofs.YtghkalamlcfnnaaGreatDoor
end
section
namespace Go.Proofs.YtghkalamlcfnnaaGreatDoor
open Go Go.RowKit Go.Shelf Lmd
attribute [local go_sem] Oper.semAt_some
namespace Evt
open Rul Day Cand Er
set_option maxRecDepth 100000 in
set_option maxHeartbeats 4000000 in
theorem copied_any (e : Ev) (vd vs vm : Value) (w : World) (hr : Rv w e vd vs vm) (hz : Size e) :
    Calls Tryz.prog 152 #[.agg (e.cells vd vs vm)] w fun r w' => ∃ vd' vs' vm', r = .returned (.agg (e.cells vd' vs' vm')) ∧ Rv w' e vd' vs' vm' ∧ From w.heap.size vd' ∧ From w.heap.size vs' ∧ From w.heap.size vm' ∧ Below w.heap.size w w' := by
  obtain ⟨W, hW⟩ : ∃ W, (w.alloc (.cells (e.cells vd vs vm) 40)).alloc (.cells #[.string ⟨#[]⟩, .string ⟨#[]⟩, .int .i64 0, .int .i64 0, .string ⟨#[]⟩, .int .i64 0, .slice none 0 0, .int .i64 0, .int .i64 0, .slice none 0 0, .slice none 0 0] 40) = W := ⟨_, rfl⟩
  have hB : Below w.heap.size w W := by rw [← hW]; exact ((Below.refl _ w).alloc (Nat.le_refl _) _).alloc (by simp) _
  have hx : W.heap[w.heap.size]? = some (.cells (e.cells vd vs vm) 40) := by rw [← hW]; exact (Below.heap_alloc _ _ _ (by simp)).trans (heap_new w _)
  have hy : W.heap[w.heap.size + 1]? = some (.cells #[.string ⟨#[]⟩, .string ⟨#[]⟩, .int .i64 0, .int .i64 0, .string ⟨#[]⟩, .int .i64 0, .slice none 0 0, .int .i64 0, .int .i64 0, .slice none 0 0, .slice none 0 0] 40) := by
    rw [← hW]
    have h := heap_new (w.alloc (.cells (e.cells vd vs vm) 40)) (.cells #[.string ⟨#[]⟩, .string ⟨#[]⟩, .int .i64 0, .int .i64 0, .string ⟨#[]⟩, .int .i64 0, .slice none 0 0, .int .i64 0, .int .i64 0, .slice none 0 0, .slice none 0 0] 40)
    rwa [World.size_alloc] at h
  have hsz : W.heap.size = w.heap.size + 2 := by rw [← hW]; simp
  have hcd := fun W' (h : Below W.heap.size W W') => cloneInts_any e.ru.ds vd W' ((hr.below hB).d.below h) (by have := hz.ds; omega)
  have hcs := fun W' (h : Below W.heap.size W W') => cloneInts_any e.sk vs W' ((hr.below hB).s.below h) hz.sk
  have hcm := fun W' (h : Below W.heap.size W W') => cloneMoves_any e.mv vm W' ((hr.below hB).m.below h) hz.mv
  have HCD := Lib.hid hcd
  have HCS := Lib.hid hcs
  have HCM := Lib.hid hcm
  have HX := Lib.hid hx
  have HY := Lib.hid hy
  have HB := Lib.hid hB
  have HW := Lib.hid hW
  have HSZ := Lib.hid hsz
  have hacc : Below W.heap.size W W.drew := below_draw (Below.refl _ _) 1
  clear hr hz hW hB hx hy hcd hcs hcm hsz
  go_enter Tryz.func152, Tryz.ntmps152
  go_upto_region 1 with fail
  rw [HW.out]
  obtain ⟨-, -, -, -, -, -, k6, -, -, k9, k10⟩ := cells11 (row_below HX.out hacc)
  have hu := Tryz.underlying37
  go_region_with (first
    | ((with_reducible refine (HCD.out _ hacc).mono ?_); rintro e1 w1 ⟨v1, rfl, hr1, hf1, hb1⟩; obtain ⟨a1, c1, rfl⟩ := hr1.shape; replace hacc := belowT hacc hb1; obtain ⟨⟨k9, k10⟩, -⟩ := row_cells (row_below HX.out hacc); have HR1 := Lib.hid hr1; have HF1 := Lib.hid hf1; have HB1 := Lib.hid hb1; clear hr1 hf1 hb1)
    | ((with_reducible refine (HCS.out _ hacc).mono ?_); rintro e2 w2 ⟨v2, rfl, hr2, hf2, hb2⟩; obtain ⟨a2, c2, rfl⟩ := hr2.shape; replace hacc := belowT hacc hb2; obtain ⟨⟨k9, k10⟩, -⟩ := row_cells (row_below HX.out hacc); have HR2 := Lib.hid hr2; have HF2 := Lib.hid hf2; have HB2 := Lib.hid hb2; clear hr2 hf2 hb2)
    | ((with_reducible refine (HCM.out _ hacc).mono ?_); rintro e3 w3 ⟨v3, rfl, hr3, hf3, hb3⟩; obtain ⟨a3, c3, rfl⟩ := hr3.shape; replace hacc := belowT hacc hb3; obtain ⟨⟨k9, k10⟩, k6, f6, f9, f10⟩ := row_cells (row_below HX.out hacc); have HR3 := Lib.hid hr3; have HF3 := Lib.hid hf3; have HB3 := Lib.hid hb3; clear hr3 hf3 hb3))
  all_goals (
    have hx3 := row_below HX.out hacc
    have hy3 := row_below HY.out hacc
    have hsz3 := hacc.size
    go_upto_region 2 with fail
    (first
      | (obtain ⟨W4, hW4⟩ : ∃ W4, (((w3.setCell ⟨w.heap.size, 6, none⟩ (.slice a1 e.ru.ds.length c1)).setCell ⟨w.heap.size, 9, none⟩ (.slice a2 e.sk.length c2)).setCell ⟨w.heap.size, 10, none⟩ (.slice a3 e.mv.length c3)) = W4 := ⟨_, rfl⟩
         rw [hW4]
         have on4 : Only w.heap.size w3 W4 := by rw [← hW4]; exact (((Only.refl _ _).set 6 _).set 9 _).set 10 _
         have hr4 : W4.heap[w.heap.size]? = some (.cells (e.cells (.slice a1 e.ru.ds.length c1) (.slice a2 e.sk.length c2) (.slice a3 e.mv.length c3)) 40) := by rw [← hW4]; exact row_set (row_set (row_set (hx3) 6 _) 9 _) 10 _
         clear hW4)
      | (obtain ⟨W4, hW4⟩ : ∃ W4, (((w3.setCell ⟨w.heap.size, 6, none⟩ (.slice a1 e.ru.ds.length c1)).setCell ⟨w.heap.size, 10, none⟩ (.slice a3 e.mv.length c3)).setCell ⟨w.heap.size, 9, none⟩ (.slice a2 e.sk.length c2)) = W4 := ⟨_, rfl⟩
         rw [hW4]
         have on4 : Only w.heap.size w3 W4 := by rw [← hW4]; exact (((Only.refl _ _).set 6 _).set 10 _).set 9 _
         have hr4 : W4.heap[w.heap.size]? = some (.cells (e.cells (.slice a1 e.ru.ds.length c1) (.slice a2 e.sk.length c2) (.slice a3 e.mv.length c3)) 40) := by rw [← hW4]; exact row_set (row_set (row_set (hx3) 6 _) 10 _) 9 _
         clear hW4)
      | (obtain ⟨W4, hW4⟩ : ∃ W4, (((w3.setCell ⟨w.heap.size, 9, none⟩ (.slice a2 e.sk.length c2)).setCell ⟨w.heap.size, 6, none⟩ (.slice a1 e.ru.ds.length c1)).setCell ⟨w.heap.size, 10, none⟩ (.slice a3 e.mv.length c3)) = W4 := ⟨_, rfl⟩
         rw [hW4]
         have on4 : Only w.heap.size w3 W4 := by rw [← hW4]; exact (((Only.refl _ _).set 9 _).set 6 _).set 10 _
         have hr4 : W4.heap[w.heap.size]? = some (.cells (e.cells (.slice a1 e.ru.ds.length c1) (.slice a2 e.sk.length c2) (.slice a3 e.mv.length c3)) 40) := by rw [← hW4]; exact row_set (row_set (row_set (hx3) 9 _) 6 _) 10 _
         clear hW4)
      | (obtain ⟨W4, hW4⟩ : ∃ W4, (((w3.setCell ⟨w.heap.size, 9, none⟩ (.slice a2 e.sk.length c2)).setCell ⟨w.heap.size, 10, none⟩ (.slice a3 e.mv.length c3)).setCell ⟨w.heap.size, 6, none⟩ (.slice a1 e.ru.ds.length c1)) = W4 := ⟨_, rfl⟩
         rw [hW4]
         have on4 : Only w.heap.size w3 W4 := by rw [← hW4]; exact (((Only.refl _ _).set 9 _).set 10 _).set 6 _
         have hr4 : W4.heap[w.heap.size]? = some (.cells (e.cells (.slice a1 e.ru.ds.length c1) (.slice a2 e.sk.length c2) (.slice a3 e.mv.length c3)) 40) := by rw [← hW4]; exact row_set (row_set (row_set (hx3) 9 _) 10 _) 6 _
         clear hW4)
      | (obtain ⟨W4, hW4⟩ : ∃ W4, (((w3.setCell ⟨w.heap.size, 10, none⟩ (.slice a3 e.mv.length c3)).setCell ⟨w.heap.size, 6, none⟩ (.slice a1 e.ru.ds.length c1)).setCell ⟨w.heap.size, 9, none⟩ (.slice a2 e.sk.length c2)) = W4 := ⟨_, rfl⟩
         rw [hW4]
         have on4 : Only w.heap.size w3 W4 := by rw [← hW4]; exact (((Only.refl _ _).set 10 _).set 6 _).set 9 _
         have hr4 : W4.heap[w.heap.size]? = some (.cells (e.cells (.slice a1 e.ru.ds.length c1) (.slice a2 e.sk.length c2) (.slice a3 e.mv.length c3)) 40) := by rw [← hW4]; exact row_set (row_set (row_set (hx3) 10 _) 6 _) 9 _
         clear hW4)
      | (obtain ⟨W4, hW4⟩ : ∃ W4, (((w3.setCell ⟨w.heap.size, 10, none⟩ (.slice a3 e.mv.length c3)).setCell ⟨w.heap.size, 9, none⟩ (.slice a2 e.sk.length c2)).setCell ⟨w.heap.size, 6, none⟩ (.slice a1 e.ru.ds.length c1)) = W4 := ⟨_, rfl⟩
         rw [hW4]
         have on4 : Only w.heap.size w3 W4 := by rw [← hW4]; exact (((Only.refl _ _).set 10 _).set 9 _).set 6 _
         have hr4 : W4.heap[w.heap.size]? = some (.cells (e.cells (.slice a1 e.ru.ds.length c1) (.slice a2 e.sk.length c2) (.slice a3 e.mv.length c3)) 40) := by rw [← hW4]; exact row_set (row_set (row_set (hx3) 10 _) 9 _) 6 _
         clear hW4))
    have hy4 : W4.heap[w.heap.size + 1]? = _ := (on4.block _ (by omega)).trans hy3
    have HY4 := Lib.hid hy4
    have HR4 := Lib.hid hr4
    have ON4 := Lib.hid on4
    have HACC := Lib.hid hacc
    clear hx3 hy3 hsz3 hacc on4
    obtain ⟨j0, j1, j2, j3, j4, j5, j6, j7, j8, j9, j10⟩ := cells11 hr4
    obtain ⟨yy0, yy1, yy2, yy3, yy4, yy5, yy6, yy7, yy8, yy9, yy10⟩ := cells11 hy4
    obtain ⟨y0, y1, y2, y3, y4, y5, y6, y7, y8, y9, y10⟩ := frozen11 hy4
    clear hr4 hy4
    go_wp2
    refine bodyPost_ret (results_cell_row rfl _ _ (w.heap.size + 1) _ _ _ _ rfl (put11_row HY4.out) Tryz.underlying40 rfl (by kernel_rfl)) rfl ?_
    have hs1 := HB1.out.size
    have hs2 := HB2.out.size
    have hs3 := HB3.out.size
    have hsw : W.drew.heap.size = w.heap.size + 2 := HSZ.out
    have f1 : From (w.heap.size + 2) (.slice a1 e.ru.ds.length c1) := HF1.out.mono (by omega)
    have f2 : From (w.heap.size + 2) (.slice a2 e.sk.length c2) := HF2.out.mono (by omega)
    have f3 : From (w.heap.size + 2) (.slice a3 e.mv.length c3) := HF3.out.mono (by omega)
    have hrv3 : Rv w3 e (.slice a1 e.ru.ds.length c1) (.slice a2 e.sk.length c2) (.slice a3 e.mv.length c3) := ⟨(HR1.out.below HB2.out).below HB3.out, HR2.out.below HB3.out, HR3.out⟩
    have hrv4 := ON4.out.rv hrv3 (off_from f1 (by omega)) (off_from f2 (by omega)) (off_from f3 (by omega))
    refine ⟨_, _, _, rfl, (put11_only ..).rv hrv4 (off_from f1 (by omega)) (off_from f2 (by omega)) (off_from f3 (by omega)), f1.mono (by omega), f2.mono (by omega), f3.mono (by omega), ?_⟩
    exact ((HB.out.trans (HACC.out.mono HB.out.size)).trans (ON4.out.below (Nat.le_refl _))).trans ((put11_only ..).below (Nat.le_succ _)))
end Evt
end Go.Proofs.YtghkalamlcfnnaaGreatDoor
end
