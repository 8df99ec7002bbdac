/- EvPut, EvCopied: texts joined. -/
import Derived.Test.YtghkalamlcfnnaaGreatDoorQEvPutL
import Derived.Test.YtghkalamlcfnnaaGreatDoorQA6
import Derived.Test.YtghkalamlcfnnaaGreatDoorQA7
section
section
namespace Go.Proofs.YtghkalamlcfnnaaGreatDoor
open Go Go.RowKit Go.Shelf Lmd
attribute [local go_sem] Oper.semAt_some
namespace Evt
open Rul Day Cand Er Tp
structure Row (W : World) (b : Nat) (e : Ev) (vd vs vm : Value) : Prop where
  row : W.heap[b]? = some (.cells (e.cells vd vs vm) 40)
  rv : Rv W e vd vs vm
  od : Off b vd
  os : Off b vs
  om : Off b vm
theorem Row.below {W W' : World} {b : Nat} {e : Ev} {vd vs vm : Value} (h : Row W b e vd vs vm) (hb : Below W.heap.size W W') : Row W' b e vd vs vm :=
  ⟨row_below h.row hb, h.rv.below hb, h.od, h.os, h.om⟩
def PutPost (er : Nat → Addr) (b : Nat) (e : Ev) (vd vs vm : Value) (f s : ByteArray) (w : World) (r : Ending) (w' : World) : Prop :=
  r = .returned (errV er (putC f s)) ∧ Far (fun k => k = b) w w' ∧ (putC f s = 0 → ∃ vd' vs' vm', Row w' b (putE e f s) vd' vs' vm' ∧ ∀ c, c < w.heap.size → (Off c vd ∧ Off c vs ∧ Off c vm) → Off c vd' ∧ Off c vs' ∧ Off c vm')
theorem atoi_all (s : ByteArray) (w : World) (hs : s.size ≤ 2000000) (hE : ELib w) :
    Calls Tryz.prog 187 #[.string s] w fun e w' => ∃ n er, e = .returned (.tuple #[.int .i64 n, er]) ∧ ((Lib.atoiAll s.data.toList = .ok n ∧ er = .nilIface) ∨ (lgOk s.data.toList = false ∧ ∃ N, er = .iface 312 (.pointer (some ⟨N, 0, none⟩)))) ∧ Below w.heap.size w w' := by
  rcases h : Lib.atoiAll s.data.toList with v | _ | _
  · refine (Tryz.strconv_Atoi_ok s (by omega) v h w).mono ?_
    rintro e w' ⟨rfl, (rfl | ⟨t, rfl⟩)⟩
    · exact ⟨v, .nilIface, rfl, .inl ⟨rfl, rfl⟩, Below.refl _ _⟩
    · exact ⟨v, .nilIface, rfl, .inl ⟨rfl, rfl⟩, Lib.bytesWorld_below _ _ _⟩
  · obtain ⟨tp, p, hv⟩ := hE.sy
    refine (Any.strconv_Atoi_syntax_var Tryz.laysC172 s (by omega) h tp p w hv).mono ?_
    rintro e w' ⟨N, rfl, _, _, hb⟩
    exact ⟨0, _, rfl, .inr ⟨by unfold lgOk; rw [h], N, rfl⟩, hb⟩
  · obtain ⟨tp, p, hv⟩ := hE.ra
    refine (Any.strconv_Atoi_range_var Tryz.laysC172 s (by omega) h tp p w hv).mono ?_
    rintro e w' ⟨N, rfl, _, _, hb⟩
    exact ⟨_, _, rfl, .inr ⟨by unfold lgOk; rw [h], N, rfl⟩, hb⟩
theorem atoi_ge {l : List UInt8} {v : Int} (h : Lib.atoiAll l = .ok v) : -9223372036854775808 ≤ v := by
  unfold Lib.atoiAll at h
  split at h
  · cases h
  · dsimp only at h
    split at h
    · cases h
    · cases h
    · split at h
      · cases h
      · split at h
        · cases h
        · cases h
          rename_i h1 h2
          split <;> omega
theorem far_b {w w' : World} {b : Nat} (h : Below w.heap.size w w') : Far (fun k => k = b) w w' := Far.of_below h
set_option maxRecDepth 100000 in
set_option maxHeartbeats 8000000 in
theorem put_title (e : Ev) (vd vs vm : Value) (b : Nat) (f s : ByteArray) (er : Nat → Addr) (m : Int) (w : World) (hv : Env w er m) (hR : Row w b e vd vs vm) (hs : s.size ≤ 30000) (h1 : f.toList = [116, 105, 116, 108, 101]) :
    Calls Tryz.prog 133 #[.pointer (some ⟨b, 0, none⟩), .string f, .string s] w (PutPost er b e vd vs vm f s w) := by
  have hbl : b < w.heap.size := (Array.getElem?_eq_some_iff.1 hR.row).1
  have hdy := readDay_five s er w hv.five
  have hat := atoi_all s w (by omega) hv.lib
  have hrd := readF_any s m er w hs hv.five hv.lib hv.tab hv.ml
  have hsk := readSkips_any s er w (by omega) hv.five
  have hmv := readMoves_any s er m w (by omega) hv
  obtain ⟨R, hRR⟩ : ∃ R, readS s = R := ⟨_, rfl⟩
  rw [hRR] at hrd
  have HRR := Lib.hid hRR
  have HR := Lib.hid hR
  have HV := Lib.hid hv
  have HDY := Lib.hid hdy
  have HAT := Lib.hid hat
  have HRD := Lib.hid hrd
  have HSK := Lib.hid hsk
  have HMV := Lib.hid hmv
  clear hdy hat hrd hsk hmv hv hRR
  obtain ⟨k0, k1, k2, k3, k4, k5, k6, k7, k8, k9, k10⟩ := cells11 hR.row
  obtain ⟨z0, z1, z2, z3, z4, z5, z6, z7, z8, z9, z10⟩ := frozen11 hR.row
  clear hR
  go_enter Tryz.func133, Tryz.ntmps133
  go_wp2
  go_ret
  have hc : putC f s = 0 := by unfold putC; rw [if_pos h1]
  have he : putE e f s = { e with ti := s } := by unfold putE; rw [if_pos h1]
  refine ⟨by rw [hc]; rfl, (Far.refl (fun k => k = b) w).set (p := ⟨b, 1, none⟩) rfl _, fun _ => ⟨vd, vs, vm, ?_⟩⟩
  rw [he]
  refine ⟨?_, fun c _ h => h⟩
  exact ⟨row_set HR.out.row 1 _, (HR.out.rv.off HR.out.od HR.out.os HR.out.om).as rfl rfl rfl, HR.out.od, HR.out.os, HR.out.om⟩
set_option maxRecDepth 100000 in
set_option maxHeartbeats 8000000 in
theorem put_start (e : Ev) (vd vs vm : Value) (b : Nat) (f s : ByteArray) (er : Nat → Addr) (m : Int) (w : World) (hv : Env w er m) (hR : Row w b e vd vs vm) (hs : s.size ≤ 30000) (h1 : ¬ f.toList = [116, 105, 116, 108, 101]) (h2 : f.toList = [115, 116, 97, 114, 116]) :
    Calls Tryz.prog 133 #[.pointer (some ⟨b, 0, none⟩), .string f, .string s] w (PutPost er b e vd vs vm f s w) := by
  have hbl : b < w.heap.size := (Array.getElem?_eq_some_iff.1 hR.row).1
  have hdy := readDay_five s er w hv.five
  have hat := atoi_all s w (by omega) hv.lib
  have hrd := readF_any s m er w hs hv.five hv.lib hv.tab hv.ml
  have hsk := readSkips_any s er w (by omega) hv.five
  have hmv := readMoves_any s er m w (by omega) hv
  obtain ⟨R, hRR⟩ : ∃ R, readS s = R := ⟨_, rfl⟩
  rw [hRR] at hrd
  have HRR := Lib.hid hRR
  have HR := Lib.hid hR
  have HV := Lib.hid hv
  have HDY := Lib.hid hdy
  have HAT := Lib.hid hat
  have HRD := Lib.hid hrd
  have HSK := Lib.hid hsk
  have HMV := Lib.hid hmv
  clear hdy hat hrd hsk hmv hv hRR
  obtain ⟨k0, k1, k2, k3, k4, k5, k6, k7, k8, k9, k10⟩ := cells11 hR.row
  obtain ⟨z0, z1, z2, z3, z4, z5, z6, z7, z8, z9, z10⟩ := frozen11 hR.row
  clear hR
  go_enter Tryz.func133, Tryz.ntmps133
  have hc : putC f s = dayC s.data.toList := by unfold putC; rw [if_neg h1, if_pos h2]
  have he : putE e f s = { e with st := dayX s.data.toList } := by unfold putE; rw [if_neg h1, if_pos h2]
  have HC := Lib.hid hc
  have HE := Lib.hid he
  clear hc he
  go_wp2_with fail
  (with_reducible refine HDY.out.mono ?_)
  rintro e2 w2 ⟨rfl, hb2⟩
  obtain ⟨k0, k1, k2, k3, k4, k5, k6, k7, k8, k9, k10⟩ := cells11 (row_below HR.out.row hb2)
  obtain ⟨z0, z1, z2, z3, z4, z5, z6, z7, z8, z9, z10⟩ := frozen11 (row_below HR.out.row hb2)
  have HB2 := Lib.hid hb2
  clear hb2
  go_wp2
  go_ret
  have r2 := HR.out.below HB2.out
  refine ⟨by (rw [HC.out]); all_goals rfl, (far_b HB2.out).set (p := ⟨b, 2, none⟩) rfl _, fun _ => ⟨vd, vs, vm, ?_⟩⟩
  rw [HE.out]
  refine ⟨?_, fun c _ h => h⟩
  exact ⟨row_set r2.row 2 _, (r2.rv.off r2.od r2.os r2.om).as rfl rfl rfl, r2.od, r2.os, r2.om⟩
set_option maxRecDepth 100000 in
set_option maxHeartbeats 8000000 in
theorem put_long (e : Ev) (vd vs vm : Value) (b : Nat) (f s : ByteArray) (er : Nat → Addr) (m : Int) (w : World) (hv : Env w er m) (hR : Row w b e vd vs vm) (hs : s.size ≤ 30000) (h1 : ¬ f.toList = [116, 105, 116, 108, 101]) (h2 : ¬ f.toList = [115, 116, 97, 114, 116]) (h3 : f.toList = [108, 111, 110, 103]) :
    Calls Tryz.prog 133 #[.pointer (some ⟨b, 0, none⟩), .string f, .string s] w (PutPost er b e vd vs vm f s w) := by
  have hbl : b < w.heap.size := (Array.getElem?_eq_some_iff.1 hR.row).1
  have hdy := readDay_five s er w hv.five
  have hat := atoi_all s w (by omega) hv.lib
  have hrd := readF_any s m er w hs hv.five hv.lib hv.tab hv.ml
  have hsk := readSkips_any s er w (by omega) hv.five
  have hmv := readMoves_any s er m w (by omega) hv
  obtain ⟨R, hRR⟩ : ∃ R, readS s = R := ⟨_, rfl⟩
  rw [hRR] at hrd
  have HRR := Lib.hid hRR
  have HR := Lib.hid hR
  have HV := Lib.hid hv
  have HDY := Lib.hid hdy
  have HAT := Lib.hid hat
  have HRD := Lib.hid hrd
  have HSK := Lib.hid hsk
  have HMV := Lib.hid hmv
  clear hdy hat hrd hsk hmv hv hRR
  obtain ⟨k0, k1, k2, k3, k4, k5, k6, k7, k8, k9, k10⟩ := cells11 hR.row
  obtain ⟨z0, z1, z2, z3, z4, z5, z6, z7, z8, z9, z10⟩ := frozen11 hR.row
  clear hR
  go_enter Tryz.func133, Tryz.ntmps133
  have hc : putC f s = if lgOk s.data.toList = true then 0 else 1 := by unfold putC; rw [if_neg h1, if_neg h2, if_pos h3]
  have he : putE e f s = { e with lg := numIs s.data.toList } := by unfold putE; rw [if_neg h1, if_neg h2, if_pos h3]
  have HC := Lib.hid hc
  have HE := Lib.hid he
  clear hc he
  go_wp2_with fail
  (with_reducible refine HAT.out.mono ?_)
  rintro e2 w2 ⟨n, er2, rfl, hn, hb2⟩
  obtain ⟨k0, k1, k2, k3, k4, k5, k6, k7, k8, k9, k10⟩ := cells11 (row_below HR.out.row hb2)
  obtain ⟨z0, z1, z2, z3, z4, z5, z6, z7, z8, z9, z10⟩ := frozen11 (row_below HR.out.row hb2)
  have HB2 := Lib.hid hb2
  have hcE := (HV.out.below hb2).errs.s0.cell
  clear hb2
  rcases hn with ⟨hok, rfl⟩ | ⟨hno, N, rfl⟩
  · by_cases h9 : s.size ≤ 9
    · have h9i : ¬ (9 : Int) < (s.size : Int) := by omega
      have hle := atoi_le hok
      have hge := atoi_ge hok
      have hit := itoa_b n hge hle w2 (HV.out.below HB2.out).tab
      have HIT := Lib.hid hit
      have HOK := Lib.hid hok
      clear hit hok
      go_wp2_with fail
      (with_reducible refine HIT.out.mono ?_)
      rintro e3 w3 ⟨rfl, hb3⟩
      have hb23 : Below w.heap.size w w3 := HB2.out.trans (hb3.mono HB2.out.size)
      obtain ⟨k0, k1, k2, k3, k4, k5, k6, k7, k8, k9, k10⟩ := cells11 (row_below HR.out.row hb23)
      obtain ⟨z0, z1, z2, z3, z4, z5, z6, z7, z8, z9, z10⟩ := frozen11 (row_below HR.out.row hb23)
      have hcE := (HV.out.below hb23).errs.s0.cell
      have HB3 := Lib.hid hb23
      clear hb3 hb23
      by_cases hi : Lib.itoa n = s.data.toList
      · have hq : (Lib.itoa n == s.toList) = true := by rw [ByteArray.toList_eq]; exact beq_iff_eq.2 hi
        have hi2 : Lib.itoa n = s.toList := by rw [ByteArray.toList_eq]; exact hi
        have HI := Lib.hid hi
        clear hi
        go_wp2
        go_ret
        have hl : lgOk s.data.toList = true := by
          unfold lgOk
          rw [HOK.out]
          simp only [Bool.and_eq_true, decide_eq_true_eq]
          exact ⟨by simpa using h9, HI.out⟩
        have hnn : numIs s.data.toList = n := by unfold numIs; rw [HOK.out]
        have r2 := HR.out.below HB3.out
        refine ⟨by rw [HC.out, if_pos hl]; rfl, (far_b HB3.out).set (p := ⟨b, 3, none⟩) rfl _, fun _ => ⟨vd, vs, vm, ?_⟩⟩
        rw [HE.out, hnn]
        refine ⟨?_, fun c _ h => h⟩
        exact ⟨row_set r2.row 3 _, (r2.rv.off r2.od r2.os r2.om).as rfl rfl rfl, r2.od, r2.os, r2.om⟩
      · have hq : (Lib.itoa n == s.toList) = false := by rw [ByteArray.toList_eq]; exact beq_false_of_ne hi
        have hi2 : ¬ Lib.itoa n = s.toList := by rw [ByteArray.toList_eq]; exact hi
        have HI := Lib.hid hi
        clear hi
        go_wp2
        go_ret
        have hl : ¬ lgOk s.data.toList = true := by
          unfold lgOk
          rw [HOK.out]
          simp only [Bool.and_eq_true, decide_eq_true_eq]
          exact fun h => HI.out h.2
        refine ⟨by rw [HC.out, if_neg hl]; rfl, far_b HB3.out, fun h => by rw [HC.out, if_neg hl] at h; cases h⟩
    · have h9i : (9 : Int) < (s.size : Int) := by omega
      have hl : ¬ lgOk s.data.toList = true := by
        unfold lgOk
        rw [hok]
        simp only [Bool.and_eq_true, decide_eq_true_eq]
        exact fun h => h9 (by simpa using h.1)
      have HL := Lib.hid hl
      clear hl hok
      go_wp2
      go_ret
      refine ⟨by rw [HC.out, if_neg HL.out]; rfl, far_b HB2.out, fun h => by rw [HC.out, if_neg HL.out] at h; cases h⟩
  · have HL := Lib.hid (show ¬ lgOk s.data.toList = true by rw [hno]; simp)
    clear hno
    go_wp2
    go_ret
    refine ⟨by rw [HC.out, if_neg HL.out]; rfl, far_b HB2.out, fun h => by rw [HC.out, if_neg HL.out] at h; cases h⟩
set_option maxRecDepth 100000 in
set_option maxHeartbeats 8000000 in
theorem put_rule (e : Ev) (vd vs vm : Value) (b : Nat) (f s : ByteArray) (er : Nat → Addr) (m : Int) (w : World) (hv : Env w er m) (hR : Row w b e vd vs vm) (hs : s.size ≤ 30000) (h1 : ¬ f.toList = [116, 105, 116, 108, 101]) (h2 : ¬ f.toList = [115, 116, 97, 114, 116]) (h3 : ¬ f.toList = [108, 111, 110, 103]) (h4 : f.toList = [114, 117, 108, 101]) :
    Calls Tryz.prog 133 #[.pointer (some ⟨b, 0, none⟩), .string f, .string s] w (PutPost er b e vd vs vm f s w) := by
  have hbl : b < w.heap.size := (Array.getElem?_eq_some_iff.1 hR.row).1
  have hdy := readDay_five s er w hv.five
  have hat := atoi_all s w (by omega) hv.lib
  have hrd := readF_any s m er w hs hv.five hv.lib hv.tab hv.ml
  have hsk := readSkips_any s er w (by omega) hv.five
  have hmv := readMoves_any s er m w (by omega) hv
  obtain ⟨R, hRR⟩ : ∃ R, readS s = R := ⟨_, rfl⟩
  rw [hRR] at hrd
  have HRR := Lib.hid hRR
  have HR := Lib.hid hR
  have HV := Lib.hid hv
  have HDY := Lib.hid hdy
  have HAT := Lib.hid hat
  have HRD := Lib.hid hrd
  have HSK := Lib.hid hsk
  have HMV := Lib.hid hmv
  clear hdy hat hrd hsk hmv hv hRR
  obtain ⟨k0, k1, k2, k3, k4, k5, k6, k7, k8, k9, k10⟩ := cells11 hR.row
  obtain ⟨z0, z1, z2, z3, z4, z5, z6, z7, z8, z9, z10⟩ := frozen11 hR.row
  clear hR
  go_enter Tryz.func133, Tryz.ntmps133
  have hc : putC f s = R.1 := by unfold putC; rw [if_neg h1, if_neg h2, if_neg h3, if_pos h4, HRR.out]
  have he : putE e f s = { e with ru := R.2 } := by unfold putE; rw [if_neg h1, if_neg h2, if_neg h3, if_pos h4, HRR.out]
  have HC := Lib.hid hc
  have HE := Lib.hid he
  clear hc he
  go_wp2_with fail
  (with_reducible refine HRD.out.mono ?_)
  rintro e2 w2 ⟨v2, rfl, hr2, hf2, hb2⟩
  obtain ⟨k0, k1, k2, k3, k4, k5, k6, k7, k8, k9, k10⟩ := cells11 (row_below HR.out.row hb2)
  obtain ⟨z0, z1, z2, z3, z4, z5, z6, z7, z8, z9, z10⟩ := frozen11 (row_below HR.out.row hb2)
  have HB2 := Lib.hid hb2
  have HR2 := Lib.hid hr2
  have HF2 := Lib.hid hf2
  have hor : Off b v2 := fun g o n c h1 h2 => by have := hf2 g o n c h1 h2; omega
  have HOR := Lib.hid hor
  obtain ⟨a2, c2, rfl⟩ := hr2.shape
  obtain ⟨dn, hdn⟩ : ∃ n, R.2.ds.length = n := ⟨_, rfl⟩
  rw [hdn]
  rw [hdn] at HR2 HOR HF2
  have hu := Tryz.underlying37
  clear hb2 hr2 hf2 hor hdn
  go_wp2
  go_ret
  have r2 := HR.out.below HB2.out
  refine ⟨by (rw [HC.out]); all_goals rfl, (((((far_b HB2.out).set (p := ⟨b, 4, none⟩) rfl _).set (p := ⟨b, 5, none⟩) rfl _).set (p := ⟨b, 6, none⟩) rfl _).set (p := ⟨b, 7, none⟩) rfl _).set (p := ⟨b, 8, none⟩) rfl _, fun _ => ⟨.slice a2 dn c2, vs, vm, ?_⟩⟩
  rw [HE.out]
  refine ⟨?_, fun c hc h => ⟨fun g o n cc h1 h2 => by have := HF2.out g o n cc h1 h2; omega, h.2⟩⟩
  refine ⟨?_, ⟨?_, ?_, ?_⟩, HOR.out, r2.os, r2.om⟩
  · exact row_set (row_set (row_set (row_set (row_set r2.row 4 _) 5 _) 6 _) 7 _) 8 _
  · exact reads_off (reads_off (reads_off (reads_off (reads_off HR2.out HOR.out) HOR.out) HOR.out) HOR.out) HOR.out
  · exact reads_off (reads_off (reads_off (reads_off (reads_off r2.rv.s r2.os) r2.os) r2.os) r2.os) r2.os
  · exact mreads_off (mreads_off (mreads_off (mreads_off (mreads_off r2.rv.m r2.om) r2.om) r2.om) r2.om) r2.om
set_option maxRecDepth 100000 in
set_option maxHeartbeats 8000000 in
theorem put_skips (e : Ev) (vd vs vm : Value) (b : Nat) (f s : ByteArray) (er : Nat → Addr) (m : Int) (w : World) (hv : Env w er m) (hR : Row w b e vd vs vm) (hs : s.size ≤ 30000) (h1 : ¬ f.toList = [116, 105, 116, 108, 101]) (h2 : ¬ f.toList = [115, 116, 97, 114, 116]) (h3 : ¬ f.toList = [108, 111, 110, 103]) (h4 : ¬ f.toList = [114, 117, 108, 101]) (h5 : f.toList = [115, 107, 105, 112, 115]) :
    Calls Tryz.prog 133 #[.pointer (some ⟨b, 0, none⟩), .string f, .string s] w (PutPost er b e vd vs vm f s w) := by
  have hbl : b < w.heap.size := (Array.getElem?_eq_some_iff.1 hR.row).1
  have hdy := readDay_five s er w hv.five
  have hat := atoi_all s w (by omega) hv.lib
  have hrd := readF_any s m er w hs hv.five hv.lib hv.tab hv.ml
  have hsk := readSkips_any s er w (by omega) hv.five
  have hmv := readMoves_any s er m w (by omega) hv
  obtain ⟨R, hRR⟩ : ∃ R, readS s = R := ⟨_, rfl⟩
  rw [hRR] at hrd
  have HRR := Lib.hid hRR
  have HR := Lib.hid hR
  have HV := Lib.hid hv
  have HDY := Lib.hid hdy
  have HAT := Lib.hid hat
  have HRD := Lib.hid hrd
  have HSK := Lib.hid hsk
  have HMV := Lib.hid hmv
  clear hdy hat hrd hsk hmv hv hRR
  obtain ⟨k0, k1, k2, k3, k4, k5, k6, k7, k8, k9, k10⟩ := cells11 hR.row
  obtain ⟨z0, z1, z2, z3, z4, z5, z6, z7, z8, z9, z10⟩ := frozen11 hR.row
  clear hR
  go_enter Tryz.func133, Tryz.ntmps133
  have hc : putC f s = skC (listP s) := by unfold putC; rw [if_neg h1, if_neg h2, if_neg h3, if_neg h4, if_pos h5]
  have he : putE e f s = { e with sk := skV (listP s) } := by unfold putE; rw [if_neg h1, if_neg h2, if_neg h3, if_neg h4, if_pos h5]
  have HC := Lib.hid hc
  have HE := Lib.hid he
  clear hc he
  go_wp2_with fail
  (with_reducible refine HSK.out.mono ?_)
  rintro e2 w2 ⟨v2, rfl, hn2, hr2, hb2⟩
  obtain ⟨k0, k1, k2, k3, k4, k5, k6, k7, k8, k9, k10⟩ := cells11 (row_below HR.out.row hb2)
  obtain ⟨z0, z1, z2, z3, z4, z5, z6, z7, z8, z9, z10⟩ := frozen11 (row_below HR.out.row hb2)
  obtain ⟨a2, n2, c2, rfl⟩ : ∃ a n c, v2 = .slice a n c := by
    by_cases h0 : skC (listP s) = 0
    · obtain ⟨a, c, h⟩ := (hr2 h0).1.shape; exact ⟨a, _, c, h⟩
    · exact ⟨none, 0, 0, hn2 h0⟩
  have HB2 := Lib.hid hb2
  have HR2 := Lib.hid hr2
  clear hb2 hr2 hn2
  go_wp2
  go_ret
  have r2 := HR.out.below HB2.out
  refine ⟨by (rw [HC.out]); all_goals rfl, (far_b HB2.out).set (p := ⟨b, 9, none⟩) rfl _, fun h => ⟨vd, .slice a2 n2 c2, vm, ?_⟩⟩
  rw [HC.out] at h
  obtain ⟨q1, q2⟩ := HR2.out h
  have hor : Off b (.slice a2 n2 c2) := fun g o n c h1 h2 => by have := q2 g o n c h1; omega
  rw [HE.out]
  refine ⟨?_, fun c hc h => ⟨h.1, fun g o n cc h1 _ => by have := q2 g o n cc h1; omega, h.2.2⟩⟩
  exact ⟨row_set r2.row 9 _, ⟨reads_off r2.rv.d r2.od, reads_off q1 hor, mreads_off r2.rv.m r2.om⟩, r2.od, hor, r2.om⟩
set_option maxRecDepth 100000 in
set_option maxHeartbeats 8000000 in
theorem put_moves (e : Ev) (vd vs vm : Value) (b : Nat) (f s : ByteArray) (er : Nat → Addr) (m : Int) (w : World) (hv : Env w er m) (hR : Row w b e vd vs vm) (hs : s.size ≤ 30000) (h1 : ¬ f.toList = [116, 105, 116, 108, 101]) (h2 : ¬ f.toList = [115, 116, 97, 114, 116]) (h3 : ¬ f.toList = [108, 111, 110, 103]) (h4 : ¬ f.toList = [114, 117, 108, 101]) (h5 : ¬ f.toList = [115, 107, 105, 112, 115]) (h6 : f.toList = [109, 111, 118, 101, 115]) :
    Calls Tryz.prog 133 #[.pointer (some ⟨b, 0, none⟩), .string f, .string s] w (PutPost er b e vd vs vm f s w) := by
  have hbl : b < w.heap.size := (Array.getElem?_eq_some_iff.1 hR.row).1
  have hdy := readDay_five s er w hv.five
  have hat := atoi_all s w (by omega) hv.lib
  have hrd := readF_any s m er w hs hv.five hv.lib hv.tab hv.ml
  have hsk := readSkips_any s er w (by omega) hv.five
  have hmv := readMoves_any s er m w (by omega) hv
  obtain ⟨R, hRR⟩ : ∃ R, readS s = R := ⟨_, rfl⟩
  rw [hRR] at hrd
  have HRR := Lib.hid hRR
  have HR := Lib.hid hR
  have HV := Lib.hid hv
  have HDY := Lib.hid hdy
  have HAT := Lib.hid hat
  have HRD := Lib.hid hrd
  have HSK := Lib.hid hsk
  have HMV := Lib.hid hmv
  clear hdy hat hrd hsk hmv hv hRR
  obtain ⟨k0, k1, k2, k3, k4, k5, k6, k7, k8, k9, k10⟩ := cells11 hR.row
  obtain ⟨z0, z1, z2, z3, z4, z5, z6, z7, z8, z9, z10⟩ := frozen11 hR.row
  clear hR
  go_enter Tryz.func133, Tryz.ntmps133
  have hc : putC f s = mvC (listP s) := by unfold putC; rw [if_neg h1, if_neg h2, if_neg h3, if_neg h4, if_neg h5, if_pos h6]
  have he : putE e f s = { e with mv := mvV (listP s) } := by unfold putE; rw [if_neg h1, if_neg h2, if_neg h3, if_neg h4, if_neg h5, if_pos h6]
  have HC := Lib.hid hc
  have HE := Lib.hid he
  clear hc he
  go_wp2_with fail
  (with_reducible refine HMV.out.mono ?_)
  rintro e2 w2 ⟨v2, rfl, hn2, hr2, hb2⟩
  obtain ⟨k0, k1, k2, k3, k4, k5, k6, k7, k8, k9, k10⟩ := cells11 (row_below HR.out.row hb2)
  obtain ⟨z0, z1, z2, z3, z4, z5, z6, z7, z8, z9, z10⟩ := frozen11 (row_below HR.out.row hb2)
  obtain ⟨a2, n2, c2, rfl⟩ : ∃ a n c, v2 = .slice a n c := by
    by_cases h0 : mvC (listP s) = 0
    · obtain ⟨a, c, h⟩ := (hr2 h0).1.shape; exact ⟨a, _, c, h⟩
    · exact ⟨none, 0, 0, hn2 h0⟩
  have HB2 := Lib.hid hb2
  have HR2 := Lib.hid hr2
  clear hb2 hr2 hn2
  go_wp2
  go_ret
  have r2 := HR.out.below HB2.out
  refine ⟨by (rw [HC.out]); all_goals rfl, (far_b HB2.out).set (p := ⟨b, 10, none⟩) rfl _, fun h => ⟨vd, vs, .slice a2 n2 c2, ?_⟩⟩
  rw [HC.out] at h
  obtain ⟨q1, q2⟩ := HR2.out h
  have hor : Off b (.slice a2 n2 c2) := fun g o n c h1 h2 => by have := q2 g o n c h1; omega
  rw [HE.out]
  refine ⟨?_, fun c hc h => ⟨h.1, h.2.1, fun g o n cc h1 _ => by have := q2 g o n cc h1; omega⟩⟩
  exact ⟨row_set r2.row 10 _, ⟨reads_off r2.rv.d r2.od, reads_off r2.rv.s r2.os, mreads_off q1 hor⟩, r2.od, r2.os, hor⟩
set_option maxRecDepth 100000 in
set_option maxHeartbeats 8000000 in
theorem put_none (e : Ev) (vd vs vm : Value) (b : Nat) (f s : ByteArray) (er : Nat → Addr) (m : Int) (w : World) (hv : Env w er m) (hR : Row w b e vd vs vm) (hs : s.size ≤ 30000) (h1 : ¬ f.toList = [116, 105, 116, 108, 101]) (h2 : ¬ f.toList = [115, 116, 97, 114, 116]) (h3 : ¬ f.toList = [108, 111, 110, 103]) (h4 : ¬ f.toList = [114, 117, 108, 101]) (h5 : ¬ f.toList = [115, 107, 105, 112, 115]) (h6 : ¬ f.toList = [109, 111, 118, 101, 115]) :
    Calls Tryz.prog 133 #[.pointer (some ⟨b, 0, none⟩), .string f, .string s] w (PutPost er b e vd vs vm f s w) := by
  have hbl : b < w.heap.size := (Array.getElem?_eq_some_iff.1 hR.row).1
  have hdy := readDay_five s er w hv.five
  have hat := atoi_all s w (by omega) hv.lib
  have hrd := readF_any s m er w hs hv.five hv.lib hv.tab hv.ml
  have hsk := readSkips_any s er w (by omega) hv.five
  have hmv := readMoves_any s er m w (by omega) hv
  obtain ⟨R, hRR⟩ : ∃ R, readS s = R := ⟨_, rfl⟩
  rw [hRR] at hrd
  have HRR := Lib.hid hRR
  have HR := Lib.hid hR
  have HV := Lib.hid hv
  have HDY := Lib.hid hdy
  have HAT := Lib.hid hat
  have HRD := Lib.hid hrd
  have HSK := Lib.hid hsk
  have HMV := Lib.hid hmv
  clear hdy hat hrd hsk hmv hv hRR
  obtain ⟨k0, k1, k2, k3, k4, k5, k6, k7, k8, k9, k10⟩ := cells11 hR.row
  obtain ⟨z0, z1, z2, z3, z4, z5, z6, z7, z8, z9, z10⟩ := frozen11 hR.row
  clear hR
  go_enter Tryz.func133, Tryz.ntmps133
  have hc : putC f s = 4 := by unfold putC; rw [if_neg h1, if_neg h2, if_neg h3, if_neg h4, if_neg h5, if_neg h6]
  have HC := Lib.hid hc
  have b1 : (f.toList == [116, 105, 116, 108, 101]) = false := by simpa using h1
  have b2 : (f.toList == [115, 116, 97, 114, 116]) = false := by simpa using h2
  have b3 : (f.toList == [108, 111, 110, 103]) = false := by simpa using h3
  have b4 : (f.toList == [114, 117, 108, 101]) = false := by simpa using h4
  have b5 : (f.toList == [115, 107, 105, 112, 115]) = false := by simpa using h5
  have b6 : (f.toList == [109, 111, 118, 101, 115]) = false := by simpa using h6
  have hcE := HV.out.errs.s3.cell
  clear h1 h2 h3 h4 h5 h6 hc
  go_wp2
  go_ret
  refine ⟨by rw [HC.out]; rfl, Far.refl _ w, fun h => by rw [HC.out] at h; cases h⟩
theorem put_any (e : Ev) (vd vs vm : Value) (b : Nat) (f s : ByteArray) (er : Nat → Addr) (m : Int) (w : World) (hv : Env w er m) (hR : Row w b e vd vs vm) (hs : s.size ≤ 30000) :
    Calls Tryz.prog 133 #[.pointer (some ⟨b, 0, none⟩), .string f, .string s] w (PutPost er b e vd vs vm f s w) := by
  by_cases h1 : f.toList = [116, 105, 116, 108, 101]
  · exact put_title e vd vs vm b f s er m w hv hR hs h1
  by_cases h2 : f.toList = [115, 116, 97, 114, 116]
  · exact put_start e vd vs vm b f s er m w hv hR hs h1 h2
  by_cases h3 : f.toList = [108, 111, 110, 103]
  · exact put_long e vd vs vm b f s er m w hv hR hs h1 h2 h3
  by_cases h4 : f.toList = [114, 117, 108, 101]
  · exact put_rule e vd vs vm b f s er m w hv hR hs h1 h2 h3 h4
  by_cases h5 : f.toList = [115, 107, 105, 112, 115]
  · exact put_skips e vd vs vm b f s er m w hv hR hs h1 h2 h3 h4 h5
  by_cases h6 : f.toList = [109, 111, 118, 101, 115]
  · exact put_moves e vd vs vm b f s er m w hv hR hs h1 h2 h3 h4 h5 h6
  exact put_none e vd vs vm b f s er m w hv hR hs h1 h2 h3 h4 h5 h6
end Evt
end Go.Proofs.YtghkalamlcfnnaaGreatDoor
end
section
namespace Go.Proofs.YtghkalamlcfnnaaGreatDoor
open Go Go.RowKit Go.Shelf Lmd
attribute [local go_sem] Oper.semAt_some
namespace Evt
open Rul Day Cand Er
end Evt
end Go.Proofs.YtghkalamlcfnnaaGreatDoor
end
end
section
namespace Go.Proofs.YtghkalamlcfnnaaGreatDoor
open Go Go.RowKit Go.Shelf Lmd
attribute [local go_sem] Oper.semAt_some
namespace Evt
open Rul Day Cand Er Tp
theorem mid_len2 (t : List ByteArray) (n : Nat) (h : ∀ x ∈ t, x.size ≤ n) : (midOf t).1.length ≤ n + 1 := by
  cases t with
  | nil => simp [midOf]
  | cons d t =>
    simp only [midOf]
    split
    · have h3 := pieces_len 44 d
      have h4 := h d (by simp)
      simp only [daysV, List.length_map]; omega
    · simp
theorem readS_len2 (s : ByteArray) : (readS s).2.ds.length ≤ s.size + 1 := by
  unfold readS
  split
  · simp
  · have hp : ∀ x ∈ pieces 32 s, x.size ≤ s.size := fun x hx => pieces_le hx
    generalize pieces 32 s = L at hp
    rcases L with _ | ⟨f, _ | ⟨n, t⟩⟩
    · simp [readCR, zeroRu]
    · simp [readCR, zeroRu]
    · simp only [readCR]
      split
      · split
        · simp [zeroRu]
        · split
          · simp [zeroRu]
          · split
            · simp [zeroRu]
            · exact mid_len2 t _ (fun x hx => hp x (by simp [hx]))
      · simp [zeroRu]
theorem ev_put_size {e : Ev} (hz : Size e) (f : ByteArray) {s : ByteArray} (hs : s.size ≤ 30000) : Size (putE e f s) := by
  have h1 := readS_len2 s
  have h2 := listP_len s
  have h3 : (skV (listP s)).length = (listP s).length := by unfold skV; rw [List.length_map]
  have h4 : (mvV (listP s)).length = (listP s).length := by unfold mvV; rw [List.length_map]
  obtain ⟨a, b, c, d, g⟩ := hz
  unfold putE
  split
  · exact ⟨a, (by show s.size ≤ _; omega), c, d, g⟩
  split
  · exact ⟨a, b, c, d, g⟩
  split
  · exact ⟨a, b, c, d, g⟩
  split
  · exact ⟨a, b, (by show (readS s).2.ds.length < _; omega), d, g⟩
  split
  · exact ⟨a, b, c, (by show (skV (listP s)).length ≤ _; omega), g⟩
  split
  · exact ⟨a, b, c, d, (by show (mvV (listP s)).length ≤ _; omega)⟩
  · exact ⟨a, b, c, d, g⟩
theorem zero_rv (w : World) : Rv w zeroEv (.slice none 0 0) (.slice none 0 0) (.slice none 0 0) := ⟨.inl ⟨rfl, _, _, rfl⟩, .inl ⟨rfl, _, _, rfl⟩, .inl ⟨rfl, _, _, rfl⟩⟩
theorem zero_size : Size zeroEv := ⟨by decide, by decide, by decide, by decide, by decide⟩
theorem res_read_ev {W : World} {b : Nat} {a0 a1 a2 a3 a4 a5 a6 a7 a8 a9 a10 er : Value} {tmps : Array Value} (h : W.heap[b]? = some (.cells #[a0, a1, a2, a3, a4, a5, a6, a7, a8, a9, a10] 40 (0, 0))) (h2 : tmps.getD 2 undef = .pointer (some ⟨b, 0, none⟩)) (h3 : tmps.getD 3 undef = er) :
    (results Tryz.f81 tmps).run Tryz.prog W = .ok (.tuple #[.agg #[a0, a1, a2, a3, a4, a5, a6, a7, a8, a9, a10], er]) W := by
  obtain ⟨q0, q1, q2, q3, q4, q5, q6, q7, q8, q9, q10⟩ := cells11 h
  have h2' : tmps[2]?.getD undef = .pointer (some ⟨b, 0, none⟩) := by simpa using h2
  have h3' : tmps[3]?.getD undef = er := by simpa using h3
  simp [results, Tryz.f81, go_sem, h2', h3', q0, q1, q2, q3, q4, q5, q6, q7, q8, q9, q10]
def ReadPost (er : Nat → Addr) (s : ByteArray) (w : World) (r : Ending) (w' : World) : Prop :=
  ∃ vd vs vm, r = .returned (.tuple #[.agg ((readE s).cells vd vs vm), errV er (readC s)]) ∧ Rv w' (readE s) vd vs vm ∧ Below w.heap.size w w'
theorem read_bad (er : Nat → Addr) {s : ByteArray} {w W : World} {c : Nat} (hc : readC s = c + 1) (hb : Below w.heap.size w W) : ReadPost er s w (.returned (.tuple #[.agg #[.string ⟨#[]⟩, .string ⟨#[]⟩, .int .i64 0, .int .i64 0, .string ⟨#[]⟩, .int .i64 0, .slice none 0 0, .int .i64 0, .int .i64 0, .slice none 0 0, .slice none 0 0], ev (er c)])) W := by
  have he : readE s = zeroEv := by unfold readE readLE; rw [if_neg (by unfold readC at hc; omega)]
  refine ⟨.slice none 0 0, .slice none 0 0, .slice none 0 0, ?_, ?_, hb⟩
  · rw [he, hc]; rfl
  · rw [he]; exact zero_rv W
theorem split_byte (s : ByteArray) (c : UInt8) (m : Int) (w : World) (hs : s.size < 4294967281) (hm : w.cell? ⟨12, 0, none⟩ = some (.int .i64 m)) :
    Calls Tryz.prog 132 #[.string s, .string ⟨#[c]⟩] w fun e w' => e = .returned (.slice (some ⟨w.heap.size, 0, none⟩) (pieces c s).length (pieces c s).length) ∧ w' = w.alloc (.cells ((pieces c s).map Value.string).toArray 9) := by
  have hl : (pieces c s).length = Lib.countB s ⟨#[c]⟩ + 1 := Lib.splitB_all ⟨#[c]⟩ (Nat.le_refl 1) _ _ _ rfl
  rw [hl]
  exact Tryz.strings_Split s ⟨#[c]⟩ m w hs hm (Nat.le_refl 1)
theorem fAt_size {k : Nat} (hk : k < 6) : (fAt k).size ≤ 5 := by
  have : k = 0 ∨ k = 1 ∨ k = 2 ∨ k = 3 ∨ k = 4 ∨ k = 5 := by omega
  rcases this with rfl | rfl | rfl | rfl | rfl | rfl <;> decide
theorem evK_size {L : List ByteArray} (h : ∀ x ∈ L, x.size ≤ 30000) (hL : L.length = 7) : ∀ k, k ≤ 6 → Size (evK L k)
  | 0, _ => by
    obtain ⟨a, b, c, d, g⟩ := zero_size
    refine ⟨?_, b, c, d, g⟩
    show (lAt L 0).size ≤ _
    have := h (lAt L 0) (by unfold lAt; rw [List.getD_eq_getElem?_getD, List.getElem?_eq_getElem (by omega)]; exact List.getElem_mem _)
    omega
  | k + 1, hk => ev_put_size (evK_size h hL k (by omega)) _ (h _ (by unfold lAt; rw [List.getD_eq_getElem?_getD, List.getElem?_eq_getElem (by omega)]; exact List.getElem_mem _))
set_option maxRecDepth 100000 in
set_option maxHeartbeats 8000000 in
theorem read_ev (s : ByteArray) (er : Nat → Addr) (m : Int) (w : World) (hv : Env w er m) (hs : s.size ≤ 30000) :
    Calls Tryz.prog 81 #[.string s] w (ReadPost er s w) := by
  obtain ⟨W, hW⟩ : ∃ W, w.alloc (.cells zeroV 40) = W := ⟨_, rfl⟩
  have hb0 : Below w.heap.size w W := by rw [← hW]; exact (Below.refl _ w).alloc (Nat.le_refl _) _
  have hres : W.heap[w.heap.size]? = some (.cells zeroV 40) := by rw [← hW]; exact heap_new w _
  have hz0 : W.heap.size = w.heap.size + 1 := by rw [← hW]; simp
  have hsp := split_byte s 124 m W (by omega) (cell_later hb0 hv.ml)
  obtain ⟨L, hL⟩ : ∃ L, pieces 124 s = L := ⟨_, rfl⟩
  have hLs : ∀ x ∈ L, x.size ≤ 30000 := fun x hx => by rw [← hL] at hx; exact Nat.le_trans (pieces_le hx) hs
  rw [hL] at hsp
  have hrc : readC s = readLC L := by unfold readC; rw [hL]
  have hre : readE s = readLE L := by unfold readE; rw [hL]
  have hl1 : L.length ≤ s.size + 1 := by rw [← hL]; exact pieces_len 124 s
  obtain ⟨N, hN⟩ : ∃ N, L.length = N := ⟨_, rfl⟩
  rw [hN] at hsp hl1
  have hgl : 1 < w.heap.size := cell_lt hv.errs.s0.cell
  have HV := Lib.hid hv
  have HW := Lib.hid hW
  have HB0 := Lib.hid hb0
  have HRES := Lib.hid hres
  have HZ0 := Lib.hid hz0
  have HSP := Lib.hid hsp
  have HLS := Lib.hid hLs
  have HRC := Lib.hid hrc
  have HRE := Lib.hid hre
  have HN := Lib.hid hN
  clear hv hW hb0 hres hz0 hsp hL hLs hrc hre hN
  go_enter Tryz.func81, Tryz.ntmps81
  go_upto_region 1 with fail
  rw [HW.out]
  go_wp2_with fail
  (with_reducible refine HSP.out.mono ?_)
  rintro e1 w1 ⟨rfl, hw1⟩
  have hb1 : Below W.heap.size W w1 := by rw [hw1]; exact (Below.refl _ W).alloc (Nat.le_refl _) _
  have x1 : w1.heap[W.heap.size]? = some (.cells (L.map Value.string).toArray 9) := by rw [hw1]; exact heap_new W _
  have hc1 : ∀ (j : Nat) x, L[j]? = some x → w1.cell? ⟨W.heap.size, j, none⟩ = some (.string x) := fun j x hx => cell_of x1 (by simp [hx])
  have hz1 : W.heap.size < w1.heap.size := by rw [hw1]; simp
  have HB1 := Lib.hid hb1
  have HC1 := Lib.hid hc1
  have HZ1 := Lib.hid hz1
  clear hw1 hb1 x1 hc1 hz1
  go_wp2_with fail
  (with_reducible refine (fields_new w1).mono ?_)
  rintro e2 w2 ⟨rfl, hw2⟩
  have hb2 : Below w1.heap.size w1 w2 := by rw [hw2]; exact (Below.refl _ w1).alloc (Nat.le_refl _) _
  have hz2 : w1.heap.size < w2.heap.size := by rw [hw2]; simp
  have HB2 := Lib.hid (HB1.out.trans (hb2.mono HB1.out.size))
  have HR2 := Lib.hid (row_below HRES.out (HB1.out.trans (hb2.mono HB1.out.size)))
  have HC2 := Lib.hid (fun j x h => cell_later hb2 (HC1.out j x h))
  clear hb2 hw2 HC1 HB1 HRES
  by_cases h7 : N = 7
  case neg =>
    have h7b : ((N : Int) != 7) = true := by rw [bne_iff_ne]; omega
    have h7c : ((N : Int) != 6 + 1) = true := by rw [bne_iff_ne]; omega
    have HSC := Lib.hid (show readC s = 0 + 1 by rw [HRC.out]; unfold readLC; rw [if_neg (by rw [HN.out]; exact h7)])
    have cE := (HV.out.below (HB0.out.trans (HB2.out.mono HB0.out.size))).errs.s0.cell
    obtain ⟨yy0, yy1, yy2, yy3, yy4, yy5, yy6, yy7, yy8, yy9, yy10⟩ := cells11 HR2.out
    obtain ⟨y0, y1, y2, y3, y4, y5, y6, y7, y8, y9, y10⟩ := frozen11 HR2.out
    clear h7
    go_wp2_with fail
    go_region_with (fail)
    all_goals go_wp2
    all_goals (
      refine bodyPost_ret (res_read_ev (put11_rowD HR2.out) rfl rfl) rfl ?_
      exact read_bad er HSC.out (Rul.below_drew ((HB0.out.trans (HB2.out.mono HB0.out.size)).trans ((put11_only ..).below (Nat.le_refl _)))))
  case pos =>
    subst h7
    have hl0 : (0 : Int) < 7 := by omega
    obtain ⟨f0, hf0⟩ : ∃ x, L[0]? = some x := ⟨_, List.getElem?_eq_getElem (by rw [HN.out]; omega)⟩
    have q0 := HC2.out 0 f0 hf0
    have hf0' : lAt L 0 = f0 := by unfold lAt; rw [List.getD_eq_getElem?_getD, hf0]; rfl
    have HF0 := Lib.hid hf0'
    clear hf0 hf0'
    go_upto_region 5 with fail
    obtain ⟨W3, hW3⟩ : ∃ W3, w2.alloc (.cells #[.string f0, .string ⟨#[]⟩, .int .i64 0, .int .i64 0, .string ⟨#[]⟩, .int .i64 0, .slice none 0 0, .int .i64 0, .int .i64 0, .slice none 0 0, .slice none 0 0] 40) = W3 := ⟨_, rfl⟩
    have hrow3 : Row W3 w2.heap.size (evK L 0) (.slice none 0 0) (.slice none 0 0) (.slice none 0 0) := by
      refine ⟨?_, ?_, off_nil _, off_nil _, off_nil _⟩
      · rw [← hW3]
        have := heap_new w2 (.cells #[.string f0, .string ⟨#[]⟩, .int .i64 0, .int .i64 0, .string ⟨#[]⟩, .int .i64 0, .slice none 0 0, .int .i64 0, .int .i64 0, .slice none 0 0, .slice none 0 0] 40)
        rw [← HF0.out] at this ⊢
        exact this
      · exact ⟨.inl ⟨rfl, _, _, rfl⟩, .inl ⟨rfl, _, _, rfl⟩, .inl ⟨rfl, _, _, rfl⟩⟩
    have hb23 : Below w2.heap.size w2 W3 := by rw [← hW3]; exact (Below.refl _ w2).alloc (Nat.le_refl _) _
    have hs3 : W3.heap.size = w2.heap.size + 1 := by rw [← hW3]; simp
    rw [hW3]
    have HROW3 := Lib.hid hrow3
    have HB23 := Lib.hid hb23
    have HS3 := Lib.hid hs3
    clear hW3 hrow3 hb23 hs3 q0
    go_wp2_with fail
    (with_reducible refine (fields_new W3).mono ?_)
    rintro e4 w4 ⟨rfl, hw4⟩
    have hb4 : Below W3.heap.size W3 w4 := by rw [hw4]; exact (Below.refl _ W3).alloc (Nat.le_refl _) _
    have hf4 : w4.heap[W3.heap.size]? = some (.cells fieldsV 9) := by rw [hw4]; exact heap_new W3 _
    have HROW4 := Lib.hid (HROW3.out.below hb4)
    have HF4 := Lib.hid hf4
    have HB24 := Lib.hid (HB23.out.trans (hb4.mono HB23.out.size))
    have HC4 := Lib.hid (fun j x h => cell_later (HB23.out.trans (hb4.mono HB23.out.size)) (HC2.out j x h))
    have HR4 := Lib.hid (row_below HR2.out (HB23.out.trans (hb4.mono HB23.out.size)))
    have HLOW4 := Lib.hid ((HB0.out.trans (HB2.out.mono HB0.out.size)).trans ((HB23.out.trans (hb4.mono HB23.out.size)).mono (by have := HB0.out.size; have := HB2.out.size; omega)))
    have hz4 : W3.heap.size < w4.heap.size := by rw [hw4]; simp
    have HZ4 := Lib.hid hz4
    have hbb : w.heap.size < w2.heap.size := by have := HB2.out.size; have := HZ0.out; omega
    have HBB := Lib.hid hbb
    have hwb : W.heap.size < w2.heap.size := by have := HZ1.out; omega
    clear hw4 hb4 hf4 hz4 hbb
    go_wp2_with fail
    go_loopw [26] (fun p wr => ∃ (k : Nat) (vd vs vm : Value), k ≤ 6 ∧ p = .int .i64 (k : Int) ∧ Row wr w2.heap.size (evK L k) vd vs vm ∧ (∀ j, j < k → putC (fAt j) (lAt L (j + 1)) = 0) ∧ Far (fun q => q = w2.heap.size) w4 wr ∧ (Off w.heap.size vd ∧ Off w.heap.size vs ∧ Off w.heap.size vm)) (fun p _ => 6 - (intOf p).toNat)
    case atStart => exact ⟨0, _, _, _, Nat.zero_le _, rfl, HROW4.out, fun j h => absurd h (Nat.not_lt_zero j), Far.refl _ _, off_nil _, off_nil _, off_nil _⟩
    case round =>
      obtain ⟨k, vd, vs, vm, hk, rfl, hrow, hall, hfar, hoff⟩ := hrel
      have HROW := Lib.hid hrow
      have HALL := Lib.hid hall
      have HFAR := Lib.hid hfar
      have HOFF := Lib.hid hoff
      have hlow : Below w.heap.size w wr := HLOW4.out.trans (hfar.below (fun q h => by have := HBB.out; omega) HLOW4.out.size)
      have HLOW := Lib.hid hlow
      have hres : wr.heap[w.heap.size]? = some (.cells zeroV 40) := by
        rw [hfar.block _ (by have := HBB.out; have := HB24.out.size; omega) (by have := HBB.out; omega)]; exact HR4.out
      have HRES := Lib.hid hres
      clear hrow hall hoff hlow hres
      by_cases hlt : k < 6
      · have hc6 := field_cell (hfar.block _ HZ4.out (by have := HS3.out; omega) ▸ HF4.out : wr.heap[W3.heap.size]? = _) hlt
        obtain ⟨x, hx⟩ : ∃ x, L[k + 1]? = some x := ⟨_, List.getElem?_eq_getElem (by rw [HN.out]; omega)⟩
        have hxl : lAt L (k + 1) = x := by unfold lAt; rw [List.getD_eq_getElem?_getD, hx]; rfl
        have hcx : wr.cell? ⟨W.heap.size, k + 1, none⟩ = some (.string x) := far_cell hfar (HC4.out (k + 1) x hx) (by show W.heap.size ≠ w2.heap.size; omega)
        have hxs := HLS.out x (List.mem_of_getElem? hx)
        have hfs := fAt_size hlt
        obtain ⟨F, hF⟩ : ∃ F, fieldL.getD k ByteArray.empty = F := ⟨_, rfl⟩
        have hfF : fAt k = F := hF
        rw [hF] at hc6
        have hp := put_any (evK L k) vd vs vm w2.heap.size F x er m wr (HV.out.below HLOW.out) HROW.out hxs
        obtain ⟨pc, hpc⟩ : ∃ pc, putC F x = pc := ⟨_, rfl⟩
        unfold PutPost at hp
        rw [hpc] at hp
        have HP := Lib.hid hp
        have HPC := Lib.hid (show putC (fAt k) (lAt L (k + 1)) = pc by rw [hxl, hfF]; exact hpc)
        have HK := Lib.hid (show evK L (k + 1) = putE (evK L k) F x by show putE _ (fAt k) (lAt L (k + 1)) = _; rw [hxl, hfF])
        have hi1 : (k : Int) < 6 := by omega
        have hi2 : (k : Int) + 1 < 7 := by omega
        clear hx hxl hxs hfs hF hfF hp hpc hfar
        go_wp2_with fail
        (with_reducible refine HP.out.mono ?_)
        rintro e5 w5 ⟨rfl, hfar5, hok5⟩
        have HOK := Lib.hid hok5
        have HFAR5 := Lib.hid hfar5
        clear hfar5 hok5 hc6 hcx
        cases pc with
        | succ c =>
          have hlow5 : Below w.heap.size w w5 := HLOW.out.trans (HFAR5.out.below (fun q h => by have := HBB.out; omega) HLOW.out.size)
          have hres5 : w5.heap[w.heap.size]? = some (.cells zeroV 40) := by
            rw [HFAR5.out.block _ (by have := (Array.getElem?_eq_some_iff.1 HRES.out).1; exact this) (by have := HBB.out; omega)]; exact HRES.out
          have HLOW5 := Lib.hid hlow5
          have HRES5 := Lib.hid hres5
          have HSC := Lib.hid (show readC s = c + 1 by
            rw [HRC.out]; unfold readLC
            rw [if_pos HN.out, badK_miss (j := k) (by rw [HPC.out]; omega) (Nat.zero_le _) (by omega) (fun i _ h => HALL.out i h), HPC.out])
          obtain ⟨yy0, yy1, yy2, yy3, yy4, yy5, yy6, yy7, yy8, yy9, yy10⟩ := cells11 hres5
          obtain ⟨y0, y1, y2, y3, y4, y5, y6, y7, y8, y9, y10⟩ := frozen11 hres5
          clear hlow5 hres5
          simp only [errV]
          go_wp2
          refine bodyPost_ret (res_read_ev (put11_row HRES5.out) rfl rfl) rfl ?_
          exact read_bad er HSC.out (HLOW5.out.trans ((put11_only ..).below (Nat.le_refl _)))
        | zero =>
          obtain ⟨vd5, vs5, vm5, hrow5, hoff5⟩ := HOK.out rfl
          have HROW5 := Lib.hid hrow5
          have HOFF5 := Lib.hid (hoff5 w.heap.size (by have := (Array.getElem?_eq_some_iff.1 HRES.out).1; exact this) HOFF.out)
          clear hrow5 hoff5
          simp only [errV]
          go_wp2_with fail
          go_roundw
          case rel =>
            refine ⟨k + 1, vd5, vs5, vm5, by omega, by go_num, by rw [HK.out]; exact HROW5.out, fun j hj => ?_, HFAR.out.trans HFAR5.out, HOFF5.out⟩
            by_cases e : j = k
            · subst e; exact HPC.out
            · exact HALL.out j (by omega)
          case measure => simp [intOf]; omega
      · obtain rfl : k = 6 := by omega
        have hzE := evK_size HLS.out HN.out 6 (Nat.le_refl _)
        obtain ⟨E, hE⟩ : ∃ E, evK L 6 = E := ⟨_, rfl⟩
        rw [hE] at HROW hzE
        obtain ⟨a4, c4, rfl⟩ := HROW.out.rv.d.shape
        obtain ⟨a5, c5, rfl⟩ := HROW.out.rv.s.shape
        obtain ⟨a6, c6, rfl⟩ := HROW.out.rv.m.shape
        have hck := check_any E _ _ _ er wr (HV.out.below HLOW.out).errs HROW.out.rv hzE
        obtain ⟨q, hq⟩ : ∃ q, badE E = q := ⟨_, rfl⟩
        rw [hq] at hck
        have hrq : readC s = q := by
          rw [HRC.out]; unfold readLC
          rw [if_pos HN.out, badK_hit (fun j _ h => HALL.out j (by omega)), hE, hq]
        have HCK := Lib.hid hck
        have HEE := Lib.hid hE
        have HRQ := Lib.hid hrq
        obtain ⟨k0, k1, k2, k3, k4, k5, k6, k7, k8, k9, k10⟩ := cells11 HROW.out.row
        clear hck hE hq hzE hrq hfar
        go_wp2_with fail
        (with_reducible refine HCK.out.mono ?_)
        rintro e6 w6 ⟨rfl, hb6⟩
        have HROW6 := Lib.hid (HROW.out.below hb6)
        have HRES6 := Lib.hid (row_below HRES.out hb6)
        have HLOW6 := Lib.hid (HLOW.out.trans (hb6.mono HLOW.out.size))
        clear hb6 k0 k1 k2 k3 k4 k5 k6 k7 k8 k9 k10
        obtain ⟨k0, k1, k2, k3, k4, k5, k6, k7, k8, k9, k10⟩ := cells11 HROW6.out.row
        obtain ⟨yy0, yy1, yy2, yy3, yy4, yy5, yy6, yy7, yy8, yy9, yy10⟩ := cells11 HRES6.out
        obtain ⟨y0, y1, y2, y3, y4, y5, y6, y7, y8, y9, y10⟩ := frozen11 HRES6.out
        cases q with
        | succ c =>
          simp only [errV]
          go_wp2
          refine bodyPost_ret (res_read_ev (put11_row HRES6.out) rfl rfl) rfl ?_
          exact read_bad er HRQ.out (HLOW6.out.trans ((put11_only ..).below (Nat.le_refl _)))
        | zero =>
          simp only [errV]
          go_wp2
          refine bodyPost_ret (res_read_ev (put11_row HRES6.out) rfl rfl) rfl ?_
          have hRE : readE s = E := by
            rw [HRE.out]; unfold readLE
            rw [if_pos (by rw [← HRC.out]; exact HRQ.out), HEE.out]
          refine ⟨.slice a4 E.ru.ds.length c4, .slice a5 E.sk.length c5, .slice a6 E.mv.length c6, ?_, ?_, HLOW6.out.trans ((put11_only ..).below (Nat.le_refl _))⟩
          · rw [hRE, HRQ.out]; rfl
          · rw [hRE]; exact (put11_only ..).rv HROW6.out.rv HOFF.out.1 HOFF.out.2.1 HOFF.out.2.2
end Evt
end Go.Proofs.YtghkalamlcfnnaaGreatDoor
end
