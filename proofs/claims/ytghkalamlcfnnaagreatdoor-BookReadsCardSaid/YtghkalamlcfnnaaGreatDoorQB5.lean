/- EvPut, EvCopied: texts joined. -/
import Derived.Test.YtghkalamlcfnnaaGreatDoorQEvPutL
import Derived.Test.YtghkalamlcfnnaaGreatDoorQA6
import Derived.Test.YtghkalamlcfnnaaGreatDoorQA7
section
/- package event: put: a field's text into an event that lies in memory. -/
namespace Go.Proofs.YtghkalamlcfnnaaGreatDoor
open Go Go.RowKit Go.Shelf Lmd
attribute [local go_sem] Oper.semAt_some
namespace Evt
open Rul Day Cand Er Tp

/-- an event in memory: its row, and its lists elsewhere -/
structure Row (W : World) (b : Nat) (e : Ev) (vd vs vm : Value) : Prop where
  row : W.heap[b]? = some (.cells (e.cells vd vs vm) 40)
  rv : Rv W e vd vs vm
  od : Off b vd
  os : Off b vs
  om : Off b vm
theorem Row.below {W W' : World} {b : Nat} {e : Ev} {vd vs vm : Value} (h : Row W b e vd vs vm) (hb : Below W.heap.size W W') : Row W' b e vd vs vm :=
  ⟨row_below h.row hb, h.rv.below hb, h.od, h.os, h.om⟩
def PutPost (er : Nat → Addr) (b : Nat) (e : Ev) (vd vs vm : Value) (f s : ByteArray) (w : World) (r : Ending) (w' : World) : Prop :=
  r = .returned (errV er (putC f s)) ∧ Far (fun k => k = b) w w' ∧ (putC f s = 0 → ∃ vd' vs' vm', Row w' b (putE e f s) vd' vs' vm' ∧ ∀ c, c < w.heap.size → (Off c vd ∧ Off c vs ∧ Off c vm) → Off c vd' ∧ Off c vs' ∧ Off c vm')
theorem atoi_all (s : ByteArray) (w : World) (hs : s.size ≤ 2000000) (hE : ELib w) :
    Calls Tryz.prog 187 #[.string s] w fun e w' => ∃ n er, e = .returned (.tuple #[.int .i64 n, er]) ∧ ((Lib.atoiAll s.data.toList = .ok n ∧ er = .nilIface) ∨ (lgOk s.data.toList = false ∧ ∃ N, er = .iface 312 (.pointer (some ⟨N, 0, none⟩)))) ∧ Below w.heap.size w w' := by
  rcases h : Lib.atoiAll s.data.toList with v | _ | _
  · refine (Tryz.strconv_Atoi_ok s (by omega) v h w).mono ?_
    rintro e w' ⟨rfl, (rfl | ⟨t, rfl⟩)⟩
    · exact ⟨v, .nilIface, rfl, .inl ⟨rfl, rfl⟩, Below.refl _ _⟩
    · exact ⟨v, .nilIface, rfl, .inl ⟨rfl, rfl⟩, Lib.bytesWorld_below _ _ _⟩
  · obtain ⟨tp, p, hv⟩ := hE.sy
    refine (Any.strconv_Atoi_syntax_var Tryz.laysC172 s (by omega) h tp p w hv).mono ?_
    rintro e w' ⟨N, rfl, _, _, hb⟩
    exact ⟨0, _, rfl, .inr ⟨by unfold lgOk; rw [h], N, rfl⟩, hb⟩
  · obtain ⟨tp, p, hv⟩ := hE.ra
    refine (Any.strconv_Atoi_range_var Tryz.laysC172 s (by omega) h tp p w hv).mono ?_
    rintro e w' ⟨N, rfl, _, _, hb⟩
    exact ⟨_, _, rfl, .inr ⟨by unfold lgOk; rw [h], N, rfl⟩, hb⟩
theorem atoi_ge {l : List UInt8} {v : Int} (h : Lib.atoiAll l = .ok v) : -9223372036854775808 ≤ v := by
  unfold Lib.atoiAll at h
  split at h
  · cases h
  · dsimp only at h
    split at h
    · cases h
    · cases h
    · split at h
      · cases h
      · split at h
        · cases h
        · cases h
          rename_i h1 h2
          split <;> omega
theorem far_b {w w' : World} {b : Nat} (h : Below w.heap.size w w') : Far (fun k => k = b) w w' := Far.of_below h
set_option maxRecDepth 100000 in
set_option maxHeartbeats 8000000 in
theorem put_title (e : Ev) (vd vs vm : Value) (b : Nat) (f s : ByteArray) (er : Nat → Addr) (m : Int) (w : World) (hv : Env w er m) (hR : Row w b e vd vs vm) (hs : s.size ≤ 30000) (h1 : f.toList = [116, 105, 116, 108, 101]) :
    Calls Tryz.prog 133 #[.pointer (some ⟨b, 0, none⟩), .string f, .string s] w (PutPost er b e vd vs vm f s w) := by
  have hbl : b < w.heap.size := (Array.getElem?_eq_some_iff.1 hR.row).1
  have hdy := readDay_five s er w hv.five
  have hat := atoi_all s w (by omega) hv.lib
  have hrd := readF_any s m er w hs hv.five hv.lib hv.tab hv.ml
  have hsk := readSkips_any s er w (by omega) hv.five
  have hmv := readMoves_any s er m w (by omega) hv
  obtain ⟨R, hRR⟩ : ∃ R, readS s = R := ⟨_, rfl⟩
  rw [hRR] at hrd
  have HRR := Lib.hid hRR
  have HR := Lib.hid hR
  have HV := Lib.hid hv
  have HDY := Lib.hid hdy
  have HAT := Lib.hid hat
  have HRD := Lib.hid hrd
  have HSK := Lib.hid hsk
  have HMV := Lib.hid hmv
  clear hdy hat hrd hsk hmv hv hRR
  obtain ⟨k0, k1, k2, k3, k4, k5, k6, k7, k8, k9, k10⟩ := cells11 hR.row
  obtain ⟨z0, z1, z2, z3, z4, z5, z6, z7, z8, z9, z10⟩ := frozen11 hR.row
  clear hR
  go_enter Tryz.func133, Tryz.ntmps133
  go_wp2
  go_ret
  have hc : putC f s = 0 := by unfold putC; rw [if_pos h1]
  have he : putE e f s = { e with ti := s } := by unfold putE; rw [if_pos h1]
  refine ⟨by rw [hc]; rfl, (Far.refl (fun k => k = b) w).set (p := ⟨b, 1, none⟩) rfl _, fun _ => ⟨vd, vs, vm, ?_⟩⟩
  rw [he]
  refine ⟨?_, fun c _ h => h⟩
  exact ⟨row_set HR.out.row 1 _, (HR.out.rv.off HR.out.od HR.out.os HR.out.om).as rfl rfl rfl, HR.out.od, HR.out.os, HR.out.om⟩
set_option maxRecDepth 100000 in
set_option maxHeartbeats 8000000 in
theorem put_start (e : Ev) (vd vs vm : Value) (b : Nat) (f s : ByteArray) (er : Nat → Addr) (m : Int) (w : World) (hv : Env w er m) (hR : Row w b e vd vs vm) (hs : s.size ≤ 30000) (h1 : ¬ f.toList = [116, 105, 116, 108, 101]) (h2 : f.toList = [115, 116, 97, 114, 116]) :
    Calls Tryz.prog 133 #[.pointer (some ⟨b, 0, none⟩), .string f, .string s] w (PutPost er b e vd vs vm f s w) := by
  have hbl : b < w.heap.size := (Array.getElem?_eq_some_iff.1 hR.row).1
  have hdy := readDay_five s er w hv.five
  have hat := atoi_all s w (by omega) hv.lib
  have hrd := readF_any s m er w hs hv.five hv.lib hv.tab hv.ml
  have hsk := readSkips_any s er w (by omega) hv.five
  have hmv := readMoves_any s er m w (by omega) hv
  obtain ⟨R, hRR⟩ : ∃ R, readS s = R := ⟨_, rfl⟩
  rw [hRR] at hrd
  have HRR := Lib.hid hRR
  have HR := Lib.hid hR
  have HV := Lib.hid hv
  have HDY := Lib.hid hdy
  have HAT := Lib.hid hat
  have HRD := Lib.hid hrd
  have HSK := Lib.hid hsk
  have HMV := Lib.hid hmv
  clear hdy hat hrd hsk hmv hv hRR
  obtain ⟨k0, k1, k2, k3, k4, k5, k6, k7, k8, k9, k10⟩ := cells11 hR.row
  obtain ⟨z0, z1, z2, z3, z4, z5, z6, z7, z8, z9, z10⟩ := frozen11 hR.row
  clear hR
  go_enter Tryz.func133, Tryz.ntmps133
  have hc : putC f s = dayC s.data.toList := by unfold putC; rw [if_neg h1, if_pos h2]
  have he : putE e f s = { e with st := dayX s.data.toList } := by unfold putE; rw [if_neg h1, if_pos h2]
  have HC := Lib.hid hc
  have HE := Lib.hid he
  clear hc he
  go_wp2_with fail
  (with_reducible refine HDY.out.mono ?_)
  rintro e2 w2 ⟨rfl, hb2⟩
  obtain ⟨k0, k1, k2, k3, k4, k5, k6, k7, k8, k9, k10⟩ := cells11 (row_below HR.out.row hb2)
  obtain ⟨z0, z1, z2, z3, z4, z5, z6, z7, z8, z9, z10⟩ := frozen11 (row_below HR.out.row hb2)
  have HB2 := Lib.hid hb2
  clear hb2
  go_wp2
  go_ret
  have r2 := HR.out.below HB2.out
  refine ⟨by (rw [HC.out]); all_goals rfl, (far_b HB2.out).set (p := ⟨b, 2, none⟩) rfl _, fun _ => ⟨vd, vs, vm, ?_⟩⟩
  rw [HE.out]
  refine ⟨?_, fun c _ h => h⟩
  exact ⟨row_set r2.row 2 _, (r2.rv.off r2.od r2.os r2.om).as rfl rfl rfl, r2.od, r2.os, r2.om⟩
set_option maxRecDepth 100000 in
set_option maxHeartbeats 8000000 in
theorem put_long (e : Ev) (vd vs vm : Value) (b : Nat) (f s : ByteArray) (er : Nat → Addr) (m : Int) (w : World) (hv : Env w er m) (hR : Row w b e vd vs vm) (hs : s.size ≤ 30000) (h1 : ¬ f.toList = [116, 105, 116, 108, 101]) (h2 : ¬ f.toList = [115, 116, 97, 114, 116]) (h3 : f.toList = [108, 111, 110, 103]) :
    Calls Tryz.prog 133 #[.pointer (some ⟨b, 0, none⟩), .string f, .string s] w (PutPost er b e vd vs vm f s w) := by
  have hbl : b < w.heap.size := (Array.getElem?_eq_some_iff.1 hR.row).1
  have hdy := readDay_five s er w hv.five
  have hat := atoi_all s w (by omega) hv.lib
  have hrd := readF_any s m er w hs hv.five hv.lib hv.tab hv.ml
  have hsk := readSkips_any s er w (by omega) hv.five
  have hmv := readMoves_any s er m w (by omega) hv
  obtain ⟨R, hRR⟩ : ∃ R, readS s = R := ⟨_, rfl⟩
  rw [hRR] at hrd
  have HRR := Lib.hid hRR
  have HR := Lib.hid hR
  have HV := Lib.hid hv
  have HDY := Lib.hid hdy
  have HAT := Lib.hid hat
  have HRD := Lib.hid hrd
  have HSK := Lib.hid hsk
  have HMV := Lib.hid hmv
  clear hdy hat hrd hsk hmv hv hRR
  obtain ⟨k0, k1, k2, k3, k4, k5, k6, k7, k8, k9, k10⟩ := cells11 hR.row
  obtain ⟨z0, z1, z2, z3, z4, z5, z6, z7, z8, z9, z10⟩ := frozen11 hR.row
  clear hR
  go_enter Tryz.func133, Tryz.ntmps133
  have hc : putC f s = if lgOk s.data.toList = true then 0 else 1 := by unfold putC; rw [if_neg h1, if_neg h2, if_pos h3]
  have he : putE e f s = { e with lg := numIs s.data.toList } := by unfold putE; rw [if_neg h1, if_neg h2, if_pos h3]
  have HC := Lib.hid hc
  have HE := Lib.hid he
  clear hc he
  go_wp2_with fail
  (with_reducible refine HAT.out.mono ?_)
  rintro e2 w2 ⟨n, er2, rfl, hn, hb2⟩
  obtain ⟨k0, k1, k2, k3, k4, k5, k6, k7, k8, k9, k10⟩ := cells11 (row_below HR.out.row hb2)
  obtain ⟨z0, z1, z2, z3, z4, z5, z6, z7, z8, z9, z10⟩ := frozen11 (row_below HR.out.row hb2)
  have HB2 := Lib.hid hb2
  have hcE := (HV.out.below hb2).errs.s0.cell
  clear hb2
  rcases hn with ⟨hok, rfl⟩ | ⟨hno, N, rfl⟩
  · by_cases h9 : s.size ≤ 9
    · have h9i : ¬ (9 : Int) < (s.size : Int) := by omega
      have hle := atoi_le hok
      have hge := atoi_ge hok
      have hit := itoa_b n hge hle w2 (HV.out.below HB2.out).tab
      have HIT := Lib.hid hit
      have HOK := Lib.hid hok
      clear hit hok
      go_wp2_with fail
      (with_reducible refine HIT.out.mono ?_)
      rintro e3 w3 ⟨rfl, hb3⟩
      have hb23 : Below w.heap.size w w3 := HB2.out.trans (hb3.mono HB2.out.size)
      obtain ⟨k0, k1, k2, k3, k4, k5, k6, k7, k8, k9, k10⟩ := cells11 (row_below HR.out.row hb23)
      obtain ⟨z0, z1, z2, z3, z4, z5, z6, z7, z8, z9, z10⟩ := frozen11 (row_below HR.out.row hb23)
      have hcE := (HV.out.below hb23).errs.s0.cell
      have HB3 := Lib.hid hb23
      clear hb3 hb23
      by_cases hi : Lib.itoa n = s.data.toList
      · have hq : (Lib.itoa n == s.toList) = true := by rw [ByteArray.toList_eq]; exact beq_iff_eq.2 hi
        have hi2 : Lib.itoa n = s.toList := by rw [ByteArray.toList_eq]; exact hi
        have HI := Lib.hid hi
        clear hi
        go_wp2
        go_ret
        have hl : lgOk s.data.toList = true := by
          unfold lgOk
          rw [HOK.out]
          simp only [Bool.and_eq_true, decide_eq_true_eq]
          exact ⟨by simpa using h9, HI.out⟩
        have hnn : numIs s.data.toList = n := by unfold numIs; rw [HOK.out]
        have r2 := HR.out.below HB3.out
        refine ⟨by rw [HC.out, if_pos hl]; rfl, (far_b HB3.out).set (p := ⟨b, 3, none⟩) rfl _, fun _ => ⟨vd, vs, vm, ?_⟩⟩
        rw [HE.out, hnn]
        refine ⟨?_, fun c _ h => h⟩
        exact ⟨row_set r2.row 3 _, (r2.rv.off r2.od r2.os r2.om).as rfl rfl rfl, r2.od, r2.os, r2.om⟩
      · have hq : (Lib.itoa n == s.toList) = false := by rw [ByteArray.toList_eq]; exact beq_false_of_ne hi
        have hi2 : ¬ Lib.itoa n = s.toList := by rw [ByteArray.toList_eq]; exact hi
        have HI := Lib.hid hi
        clear hi
        go_wp2
        go_ret
        have hl : ¬ lgOk s.data.toList = true := by
          unfold lgOk
          rw [HOK.out]
          simp only [Bool.and_eq_true, decide_eq_true_eq]
          exact fun h => HI.out h.2
        refine ⟨by rw [HC.out, if_neg hl]; rfl, far_b HB3.out, fun h => by rw [HC.out, if_neg hl] at h; cases h⟩
    · have h9i : (9 : Int) < (s.size : Int) := by omega
      have hl : ¬ lgOk s.data.toList = true := by
        unfold lgOk
        rw [hok]
        simp only [Bool.and_eq_true, decide_eq_true_eq]
        exact fun h => h9 (by simpa using h.1)
      have HL := Lib.hid hl
      clear hl hok
      go_wp2
      go_ret
      refine ⟨by rw [HC.out, if_neg HL.out]; rfl, far_b HB2.out, fun h => by rw [HC.out, if_neg HL.out] at h; cases h⟩
  · have HL := Lib.hid (show ¬ lgOk s.data.toList = true by rw [hno]; simp)
    clear hno
    go_wp2
    go_ret
    refine ⟨by rw [HC.out, if_neg HL.out]; rfl, far_b HB2.out, fun h => by rw [HC.out, if_neg HL.out] at h; cases h⟩
set_option maxRecDepth 100000 in
set_option maxHeartbeats 8000000 in
theorem put_rule (e : Ev) (vd vs vm : Value) (b : Nat) (f s : ByteArray) (er : Nat → Addr) (m : Int) (w : World) (hv : Env w er m) (hR : Row w b e vd vs vm) (hs : s.size ≤ 30000) (h1 : ¬ f.toList = [116, 105, 116, 108, 101]) (h2 : ¬ f.toList = [115, 116, 97, 114, 116]) (h3 : ¬ f.toList = [108, 111, 110, 103]) (h4 : f.toList = [114, 117, 108, 101]) :
    Calls Tryz.prog 133 #[.pointer (some ⟨b, 0, none⟩), .string f, .string s] w (PutPost er b e vd vs vm f s w) := by
  have hbl : b < w.heap.size := (Array.getElem?_eq_some_iff.1 hR.row).1
  have hdy := readDay_five s er w hv.five
  have hat := atoi_all s w (by omega) hv.lib
  have hrd := readF_any s m er w hs hv.five hv.lib hv.tab hv.ml
  have hsk := readSkips_any s er w (by omega) hv.five
  have hmv := readMoves_any s er m w (by omega) hv
  obtain ⟨R, hRR⟩ : ∃ R, readS s = R := ⟨_, rfl⟩
  rw [hRR] at hrd
  have HRR := Lib.hid hRR
  have HR := Lib.hid hR
  have HV := Lib.hid hv
  have HDY := Lib.hid hdy
  have HAT := Lib.hid hat
  have HRD := Lib.hid hrd
  have HSK := Lib.hid hsk
  have HMV := Lib.hid hmv
  clear hdy hat hrd hsk hmv hv hRR
  obtain ⟨k0, k1, k2, k3, k4, k5, k6, k7, k8, k9, k10⟩ := cells11 hR.row
  obtain ⟨z0, z1, z2, z3, z4, z5, z6, z7, z8, z9, z10⟩ := frozen11 hR.row
  clear hR
  go_enter Tryz.func133, Tryz.ntmps133
  have hc : putC f s = R.1 := by unfold putC; rw [if_neg h1, if_neg h2, if_neg h3, if_pos h4, HRR.out]
  have he : putE e f s = { e with ru := R.2 } := by unfold putE; rw [if_neg h1, if_neg h2, if_neg h3, if_pos h4, HRR.out]
  have HC := Lib.hid hc
  have HE := Lib.hid he
  clear hc he
  go_wp2_with fail
  (with_reducible refine HRD.out.mono ?_)
  rintro e2 w2 ⟨v2, rfl, hr2, hf2, hb2⟩
  obtain ⟨k0, k1, k2, k3, k4, k5, k6, k7, k8, k9, k10⟩ := cells11 (row_below HR.out.row hb2)
  obtain ⟨z0, z1, z2, z3, z4, z5, z6, z7, z8, z9, z10⟩ := frozen11 (row_below HR.out.row hb2)
  have HB2 := Lib.hid hb2
  have HR2 := Lib.hid hr2
  have HF2 := Lib.hid hf2
  have hor : Off b v2 := fun g o n c h1 h2 => by have := hf2 g o n c h1 h2; omega
  have HOR := Lib.hid hor
  obtain ⟨a2, c2, rfl⟩ := hr2.shape
  obtain ⟨dn, hdn⟩ : ∃ n, R.2.ds.length = n := ⟨_, rfl⟩
  rw [hdn]
  rw [hdn] at HR2 HOR HF2
  have hu := Tryz.underlying37
  clear hb2 hr2 hf2 hor hdn
  go_wp2
  go_ret
  have r2 := HR.out.below HB2.out
  refine ⟨by (rw [HC.out]); all_goals rfl, (((((far_b HB2.out).set (p := ⟨b, 4, none⟩) rfl _).set (p := ⟨b, 5, none⟩) rfl _).set (p := ⟨b, 6, none⟩) rfl _).set (p := ⟨b, 7, none⟩) rfl _).set (p := ⟨b, 8, none⟩) rfl _, fun _ => ⟨.slice a2 dn c2, vs, vm, ?_⟩⟩
  rw [HE.out]
  refine ⟨?_, fun c hc h => ⟨fun g o n cc h1 h2 => by have := HF2.out g o n cc h1 h2; omega, h.2⟩⟩
  refine ⟨?_, ⟨?_, ?_, ?_⟩, HOR.out, r2.os, r2.om⟩
  · exact row_set (row_set (row_set (row_set (row_set r2.row 4 _) 5 _) 6 _) 7 _) 8 _
  · exact reads_off (reads_off (reads_off (reads_off (reads_off HR2.out HOR.out) HOR.out) HOR.out) HOR.out) HOR.out
  · exact reads_off (reads_off (reads_off (reads_off (reads_off r2.rv.s r2.os) r2.os) r2.os) r2.os) r2.os
  · exact mreads_off (mreads_off (mreads_off (mreads_off (mreads_off r2.rv.m r2.om) r2.om) r2.om) r2.om) r2.om
set_option maxRecDepth 100000 in
set_option maxHeartbeats 8000000 in
theorem put_skips (e : Ev) (vd vs vm : Value) (b : Nat) (f s : ByteArray) (er : Nat → Addr) (m : Int) (w : World) (hv : Env w er m) (hR : Row w b e vd vs vm) (hs : s.size ≤ 30000) (h1 : ¬ f.toList = [116, 105, 116, 108, 101]) (h2 : ¬ f.toList = [115, 116, 97, 114, 116]) (h3 : ¬ f.toList = [108, 111, 110, 103]) (h4 : ¬ f.toList = [114, 117, 108, 101]) (h5 : f.toList = [115, 107, 105, 112, 115]) :
    Calls Tryz.prog 133 #[.pointer (some ⟨b, 0, none⟩), .string f, .string s] w (PutPost er b e vd vs vm f s w) := by
  have hbl : b < w.heap.size := (Array.getElem?_eq_some_iff.1 hR.row).1
  have hdy := readDay_five s er w hv.five
  have hat := atoi_all s w (by omega) hv.lib
  have hrd := readF_any s m er w hs hv.five hv.lib hv.tab hv.ml
  have hsk := readSkips_any s er w (by omega) hv.five
  have hmv := readMoves_any s er m w (by omega) hv
  obtain ⟨R, hRR⟩ : ∃ R, readS s = R := ⟨_, rfl⟩
  rw [hRR] at hrd
  have HRR := Lib.hid hRR
  have HR := Lib.hid hR
  have HV := Lib.hid hv
  have HDY := Lib.hid hdy
  have HAT := Lib.hid hat
  have HRD := Lib.hid hrd
  have HSK := Lib.hid hsk
  have HMV := Lib.hid hmv
  clear hdy hat hrd hsk hmv hv hRR
  obtain ⟨k0, k1, k2, k3, k4, k5, k6, k7, k8, k9, k10⟩ := cells11 hR.row
  obtain ⟨z0, z1, z2, z3, z4, z5, z6, z7, z8, z9, z10⟩ := frozen11 hR.row
  clear hR
  go_enter Tryz.func133, Tryz.ntmps133
  have hc : putC f s = skC (listP s) := by unfold putC; rw [if_neg h1, if_neg h2, if_neg h3, if_neg h4, if_pos h5]
  have he : putE e f s = { e with sk := skV (listP s) } := by unfold putE; rw [if_neg h1, if_neg h2, if_neg h3, if_neg h4, if_pos h5]
  have HC := Lib.hid hc
  have HE := Lib.hid he
  clear hc he
  go_wp2_with fail
  (with_reducible refine HSK.out.mono ?_)
  rintro e2 w2 ⟨v2, rfl, hn2, hr2, hb2⟩
  obtain ⟨k0, k1, k2, k3, k4, k5, k6, k7, k8, k9, k10⟩ := cells11 (row_below HR.out.row hb2)
  obtain ⟨z0, z1, z2, z3, z4, z5, z6, z7, z8, z9, z10⟩ := frozen11 (row_below HR.out.row hb2)
  obtain ⟨a2, n2, c2, rfl⟩ : ∃ a n c, v2 = .slice a n c := by
    by_cases h0 : skC (listP s) = 0
    · obtain ⟨a, c, h⟩ := (hr2 h0).1.shape; exact ⟨a, _, c, h⟩
    · exact ⟨none, 0, 0, hn2 h0⟩
  have HB2 := Lib.hid hb2
  have HR2 := Lib.hid hr2
  clear hb2 hr2 hn2
  go_wp2
  go_ret
  have r2 := HR.out.below HB2.out
  refine ⟨by (rw [HC.out]); all_goals rfl, (far_b HB2.out).set (p := ⟨b, 9, none⟩) rfl _, fun h => ⟨vd, .slice a2 n2 c2, vm, ?_⟩⟩
  rw [HC.out] at h
  obtain ⟨q1, q2⟩ := HR2.out h
  have hor : Off b (.slice a2 n2 c2) := fun g o n c h1 h2 => by have := q2 g o n c h1; omega
  rw [HE.out]
  refine ⟨?_, fun c hc h => ⟨h.1, fun g o n cc h1 _ => by have := q2 g o n cc h1; omega, h.2.2⟩⟩
  exact ⟨row_set r2.row 9 _, ⟨reads_off r2.rv.d r2.od, reads_off q1 hor, mreads_off r2.rv.m r2.om⟩, r2.od, hor, r2.om⟩
set_option maxRecDepth 100000 in
set_option maxHeartbeats 8000000 in
theorem put_moves (e : Ev) (vd vs vm : Value) (b : Nat) (f s : ByteArray) (er : Nat → Addr) (m : Int) (w : World) (hv : Env w er m) (hR : Row w b e vd vs vm) (hs : s.size ≤ 30000) (h1 : ¬ f.toList = [116, 105, 116, 108, 101]) (h2 : ¬ f.toList = [115, 116, 97, 114, 116]) (h3 : ¬ f.toList = [108, 111, 110, 103]) (h4 : ¬ f.toList = [114, 117, 108, 101]) (h5 : ¬ f.toList = [115, 107, 105, 112, 115]) (h6 : f.toList = [109, 111, 118, 101, 115]) :
    Calls Tryz.prog 133 #[.pointer (some ⟨b, 0, none⟩), .string f, .string s] w (PutPost er b e vd vs vm f s w) := by
  have hbl : b < w.heap.size := (Array.getElem?_eq_some_iff.1 hR.row).1
  have hdy := readDay_five s er w hv.five
  have hat := atoi_all s w (by omega) hv.lib
  have hrd := readF_any s m er w hs hv.five hv.lib hv.tab hv.ml
  have hsk := readSkips_any s er w (by omega) hv.five
  have hmv := readMoves_any s er m w (by omega) hv
  obtain ⟨R, hRR⟩ : ∃ R, readS s = R := ⟨_, rfl⟩
  rw [hRR] at hrd
  have HRR := Lib.hid hRR
  have HR := Lib.hid hR
  have HV := Lib.hid hv
  have HDY := Lib.hid hdy
  have HAT := Lib.hid hat
  have HRD := Lib.hid hrd
  have HSK := Lib.hid hsk
  have HMV := Lib.hid hmv
  clear hdy hat hrd hsk hmv hv hRR
  obtain ⟨k0, k1, k2, k3, k4, k5, k6, k7, k8, k9, k10⟩ := cells11 hR.row
  obtain ⟨z0, z1, z2, z3, z4, z5, z6, z7, z8, z9, z10⟩ := frozen11 hR.row
  clear hR
  go_enter Tryz.func133, Tryz.ntmps133
  have hc : putC f s = mvC (listP s) := by unfold putC; rw [if_neg h1, if_neg h2, if_neg h3, if_neg h4, if_neg h5, if_pos h6]
  have he : putE e f s = { e with mv := mvV (listP s) } := by unfold putE; rw [if_neg h1, if_neg h2, if_neg h3, if_neg h4, if_neg h5, if_pos h6]
  have HC := Lib.hid hc
  have HE := Lib.hid he
  clear hc he
  go_wp2_with fail
  (with_reducible refine HMV.out.mono ?_)
  rintro e2 w2 ⟨v2, rfl, hn2, hr2, hb2⟩
  obtain ⟨k0, k1, k2, k3, k4, k5, k6, k7, k8, k9, k10⟩ := cells11 (row_below HR.out.row hb2)
  obtain ⟨z0, z1, z2, z3, z4, z5, z6, z7, z8, z9, z10⟩ := frozen11 (row_below HR.out.row hb2)
  obtain ⟨a2, n2, c2, rfl⟩ : ∃ a n c, v2 = .slice a n c := by
    by_cases h0 : mvC (listP s) = 0
    · obtain ⟨a, c, h⟩ := (hr2 h0).1.shape; exact ⟨a, _, c, h⟩
    · exact ⟨none, 0, 0, hn2 h0⟩
  have HB2 := Lib.hid hb2
  have HR2 := Lib.hid hr2
  clear hb2 hr2 hn2
  go_wp2
  go_ret
  have r2 := HR.out.below HB2.out
  refine ⟨by (rw [HC.out]); all_goals rfl, (far_b HB2.out).set (p := ⟨b, 10, none⟩) rfl _, fun h => ⟨vd, vs, .slice a2 n2 c2, ?_⟩⟩
  rw [HC.out] at h
  obtain ⟨q1, q2⟩ := HR2.out h
  have hor : Off b (.slice a2 n2 c2) := fun g o n c h1 h2 => by have := q2 g o n c h1; omega
  rw [HE.out]
  refine ⟨?_, fun c hc h => ⟨h.1, h.2.1, fun g o n cc h1 _ => by have := q2 g o n cc h1; omega⟩⟩
  exact ⟨row_set r2.row 10 _, ⟨reads_off r2.rv.d r2.od, reads_off r2.rv.s r2.os, mreads_off q1 hor⟩, r2.od, r2.os, hor⟩
set_option maxRecDepth 100000 in
set_option maxHeartbeats 8000000 in
theorem put_none (e : Ev) (vd vs vm : Value) (b : Nat) (f s : ByteArray) (er : Nat → Addr) (m : Int) (w : World) (hv : Env w er m) (hR : Row w b e vd vs vm) (hs : s.size ≤ 30000) (h1 : ¬ f.toList = [116, 105, 116, 108, 101]) (h2 : ¬ f.toList = [115, 116, 97, 114, 116]) (h3 : ¬ f.toList = [108, 111, 110, 103]) (h4 : ¬ f.toList = [114, 117, 108, 101]) (h5 : ¬ f.toList = [115, 107, 105, 112, 115]) (h6 : ¬ f.toList = [109, 111, 118, 101, 115]) :
    Calls Tryz.prog 133 #[.pointer (some ⟨b, 0, none⟩), .string f, .string s] w (PutPost er b e vd vs vm f s w) := by
  have hbl : b < w.heap.size := (Array.getElem?_eq_some_iff.1 hR.row).1
  have hdy := readDay_five s er w hv.five
  have hat := atoi_all s w (by omega) hv.lib
  have hrd := readF_any s m er w hs hv.five hv.lib hv.tab hv.ml
  have hsk := readSkips_any s er w (by omega) hv.five
  have hmv := readMoves_any s er m w (by omega) hv
  obtain ⟨R, hRR⟩ : ∃ R, readS s = R := ⟨_, rfl⟩
  rw [hRR] at hrd
  have HRR := Lib.hid hRR
  have HR := Lib.hid hR
  have HV := Lib.hid hv
  have HDY := Lib.hid hdy
  have HAT := Lib.hid hat
  have HRD := Lib.hid hrd
  have HSK := Lib.hid hsk
  have HMV := Lib.hid hmv
  clear hdy hat hrd hsk hmv hv hRR
  obtain ⟨k0, k1, k2, k3, k4, k5, k6, k7, k8, k9, k10⟩ := cells11 hR.row
  obtain ⟨z0, z1, z2, z3, z4, z5, z6, z7, z8, z9, z10⟩ := frozen11 hR.row
  clear hR
  go_enter Tryz.func133, Tryz.ntmps133
  have hc : putC f s = 4 := by unfold putC; rw [if_neg h1, if_neg h2, if_neg h3, if_neg h4, if_neg h5, if_neg h6]
  have HC := Lib.hid hc
  have b1 : (f.toList == [116, 105, 116, 108, 101]) = false := by simpa using h1
  have b2 : (f.toList == [115, 116, 97, 114, 116]) = false := by simpa using h2
  have b3 : (f.toList == [108, 111, 110, 103]) = false := by simpa using h3
  have b4 : (f.toList == [114, 117, 108, 101]) = false := by simpa using h4
  have b5 : (f.toList == [115, 107, 105, 112, 115]) = false := by simpa using h5
  have b6 : (f.toList == [109, 111, 118, 101, 115]) = false := by simpa using h6
  have hcE := HV.out.errs.s3.cell
  clear h1 h2 h3 h4 h5 h6 hc
  go_wp2
  go_ret
  refine ⟨by rw [HC.out]; rfl, Far.refl _ w, fun h => by rw [HC.out] at h; cases h⟩
theorem put_any (e : Ev) (vd vs vm : Value) (b : Nat) (f s : ByteArray) (er : Nat → Addr) (m : Int) (w : World) (hv : Env w er m) (hR : Row w b e vd vs vm) (hs : s.size ≤ 30000) :
    Calls Tryz.prog 133 #[.pointer (some ⟨b, 0, none⟩), .string f, .string s] w (PutPost er b e vd vs vm f s w) := by
  by_cases h1 : f.toList = [116, 105, 116, 108, 101]
  · exact put_title e vd vs vm b f s er m w hv hR hs h1
  by_cases h2 : f.toList = [115, 116, 97, 114, 116]
  · exact put_start e vd vs vm b f s er m w hv hR hs h1 h2
  by_cases h3 : f.toList = [108, 111, 110, 103]
  · exact put_long e vd vs vm b f s er m w hv hR hs h1 h2 h3
  by_cases h4 : f.toList = [114, 117, 108, 101]
  · exact put_rule e vd vs vm b f s er m w hv hR hs h1 h2 h3 h4
  by_cases h5 : f.toList = [115, 107, 105, 112, 115]
  · exact put_skips e vd vs vm b f s er m w hv hR hs h1 h2 h3 h4 h5
  by_cases h6 : f.toList = [109, 111, 118, 101, 115]
  · exact put_moves e vd vs vm b f s er m w hv hR hs h1 h2 h3 h4 h5 h6
  exact put_none e vd vs vm b f s er m w hv hR hs h1 h2 h3 h4 h5 h6
end Evt
end Go.Proofs.YtghkalamlcfnnaaGreatDoor
end

section
/- package event: copied. -/
namespace Go.Proofs.YtghkalamlcfnnaaGreatDoor
open Go Go.RowKit Go.Shelf Lmd
attribute [local go_sem] Oper.semAt_some
namespace Evt
open Rul Day Cand Er

end Evt
end Go.Proofs.YtghkalamlcfnnaaGreatDoor
end
