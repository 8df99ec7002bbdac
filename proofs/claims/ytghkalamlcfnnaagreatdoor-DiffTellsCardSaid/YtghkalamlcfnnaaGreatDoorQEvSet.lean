/- package event: Set, Read. -/
import Derived.Test.YtghkalamlcfnnaaGreatDoorQB5
namespace Go.Proofs.YtghkalamlcfnnaaGreatDoor
open Go Go.RowKit Go.Shelf Lmd
attribute [local go_sem] Oper.semAt_some
namespace Evt
open Rul Day Cand Er Tp
theorem mid_len2 (t : List ByteArray) (n : Nat) (h : ∀ x ∈ t, x.size ≤ n) : (midOf t).1.length ≤ n + 1 := by
  cases t with
  | nil => simp [midOf]
  | cons d t =>
    simp only [midOf]
    split
    · have h3 := pieces_len 44 d
      have h4 := h d (by simp)
      simp only [daysV, List.length_map]; omega
    · simp
theorem readS_len2 (s : ByteArray) : (readS s).2.ds.length ≤ s.size + 1 := by
  unfold readS
  split
  · simp
  · have hp : ∀ x ∈ pieces 32 s, x.size ≤ s.size := fun x hx => pieces_le hx
    generalize pieces 32 s = L at hp
    rcases L with _ | ⟨f, _ | ⟨n, t⟩⟩
    · simp [readCR, zeroRu]
    · simp [readCR, zeroRu]
    · simp only [readCR]
      split
      · split
        · simp [zeroRu]
        · split
          · simp [zeroRu]
          · split
            · simp [zeroRu]
            · exact mid_len2 t _ (fun x hx => hp x (by simp [hx]))
      · simp [zeroRu]
theorem ev_put_size {e : Ev} (hz : Size e) (f : ByteArray) {s : ByteArray} (hs : s.size ≤ 30000) : Size (putE e f s) := by
  have h1 := readS_len2 s
  have h2 := listP_len s
  have h3 : (skV (listP s)).length = (listP s).length := by unfold skV; rw [List.length_map]
  have h4 : (mvV (listP s)).length = (listP s).length := by unfold mvV; rw [List.length_map]
  obtain ⟨a, b, c, d, g⟩ := hz
  unfold putE
  split
  · exact ⟨a, (by show s.size ≤ _; omega), c, d, g⟩
  split
  · exact ⟨a, b, c, d, g⟩
  split
  · exact ⟨a, b, c, d, g⟩
  split
  · exact ⟨a, b, (by show (readS s).2.ds.length < _; omega), d, g⟩
  split
  · exact ⟨a, b, c, (by show (skV (listP s)).length ≤ _; omega), g⟩
  split
  · exact ⟨a, b, c, d, (by show (mvV (listP s)).length ≤ _; omega)⟩
  · exact ⟨a, b, c, d, g⟩
theorem zero_rv (w : World) : Rv w zeroEv (.slice none 0 0) (.slice none 0 0) (.slice none 0 0) := ⟨.inl ⟨rfl, _, _, rfl⟩, .inl ⟨rfl, _, _, rfl⟩, .inl ⟨rfl, _, _, rfl⟩⟩
theorem zero_size : Size zeroEv := ⟨by decide, by decide, by decide, by decide, by decide⟩
theorem res_set {W : World} {b : Nat} {a0 a1 a2 a3 a4 a5 a6 a7 a8 a9 a10 er : Value} {tmps : Array Value} (h : W.heap[b]? = some (.cells #[a0, a1, a2, a3, a4, a5, a6, a7, a8, a9, a10] 40 (0, 0))) (h2 : tmps.getD 6 undef = .pointer (some ⟨b, 0, none⟩)) (h3 : tmps.getD 7 undef = er) :
    (results Tryz.f101 tmps).run Tryz.prog W = .ok (.tuple #[.agg #[a0, a1, a2, a3, a4, a5, a6, a7, a8, a9, a10], er]) W := by
  obtain ⟨q0, q1, q2, q3, q4, q5, q6, q7, q8, q9, q10⟩ := cells11 h
  have h2' : tmps[6]?.getD undef = .pointer (some ⟨b, 0, none⟩) := by simpa using h2
  have h3' : tmps[7]?.getD undef = er := by simpa using h3
  simp [results, Tryz.f101, go_sem, h2', h3', q0, q1, q2, q3, q4, q5, q6, q7, q8, q9, q10]
theorem res_read_ev {W : World} {b : Nat} {a0 a1 a2 a3 a4 a5 a6 a7 a8 a9 a10 er : Value} {tmps : Array Value} (h : W.heap[b]? = some (.cells #[a0, a1, a2, a3, a4, a5, a6, a7, a8, a9, a10] 40 (0, 0))) (h2 : tmps.getD 2 undef = .pointer (some ⟨b, 0, none⟩)) (h3 : tmps.getD 3 undef = er) :
    (results Tryz.f81 tmps).run Tryz.prog W = .ok (.tuple #[.agg #[a0, a1, a2, a3, a4, a5, a6, a7, a8, a9, a10], er]) W := by
  obtain ⟨q0, q1, q2, q3, q4, q5, q6, q7, q8, q9, q10⟩ := cells11 h
  have h2' : tmps[2]?.getD undef = .pointer (some ⟨b, 0, none⟩) := by simpa using h2
  have h3' : tmps[3]?.getD undef = er := by simpa using h3
  simp [results, Tryz.f81, go_sem, h2', h3', q0, q1, q2, q3, q4, q5, q6, q7, q8, q9, q10]
def SetPost (er : Nat → Addr) (e : Ev) (f s : ByteArray) (w : World) (r : Ending) (w' : World) : Prop :=
  ∃ vd vs vm, r = .returned (.tuple #[.agg ((setE e f s).cells vd vs vm), errV er (setC e f s)]) ∧ Rv w' (setE e f s) vd vs vm ∧ (∀ c, c < w.heap.size → Off c vd ∧ Off c vs ∧ Off c vm) ∧ Below w.heap.size w w'
theorem set_bad (er : Nat → Addr) {e : Ev} {f s : ByteArray} {w W : World} {c : Nat} (hc : setC e f s = c + 1) (hb : Below w.heap.size w W) : SetPost er e f s w (.returned (.tuple #[.agg #[.string ⟨#[]⟩, .string ⟨#[]⟩, .int .i64 0, .int .i64 0, .string ⟨#[]⟩, .int .i64 0, .slice none 0 0, .int .i64 0, .int .i64 0, .slice none 0 0, .slice none 0 0], ev (er c)])) W := by
  have he : setE e f s = zeroEv := by unfold setE; rw [if_neg (by omega)]
  refine ⟨.slice none 0 0, .slice none 0 0, .slice none 0 0, ?_, ?_, fun c _ => ⟨off_nil _, off_nil _, off_nil _⟩, hb⟩
  · rw [he, hc]; rfl
  · rw [he]; exact zero_rv W
set_option maxRecDepth 100000 in
set_option maxHeartbeats 8000000 in
theorem set_any (e : Ev) (vd vs vm : Value) (f s : ByteArray) (er : Nat → Addr) (m : Int) (w : World) (hv : Env w er m) (hr : Rv w e vd vs vm) (hz : Size e) (hs : s.size ≤ 30000) :
    Calls Tryz.prog 101 #[.agg (e.cells vd vs vm), .string f, .string s] w (SetPost er e f s w) := by
  obtain ⟨W, hW⟩ : ∃ W, (w.alloc (.cells (e.cells vd vs vm) 40)).alloc (.cells zeroV 40) = W := ⟨_, rfl⟩
  have h2 : Two w W e vd vs vm := by
    rw [← hW]
    refine ⟨((Below.refl _ w).alloc (Nat.le_refl _) _).alloc (by simp) _, by simp, (Below.heap_alloc _ _ _ (by simp)).trans (heap_new w _), ?_⟩
    have h := heap_new (w.alloc (.cells (e.cells vd vs vm) 40)) (.cells zeroV 40)
    rwa [World.size_alloc] at h
  have hcp := copied_any e vd vs vm W (hr.below h2.low) hz
  have HCP := Lib.hid hcp
  have HW := Lib.hid hW
  have H2 := Lib.hid h2
  have HV := Lib.hid hv
  have HZ2 := Lib.hid (ev_put_size hz f hs)
  obtain ⟨pc, hpc⟩ : ∃ pc, putC f s = pc := ⟨_, rfl⟩
  have HPC := Lib.hid hpc
  clear hcp hW h2 hv hr hz hpc
  go_enter Tryz.func101, Tryz.ntmps101
  obtain ⟨k0, k1, k2, k3, k4, k5, k6, k7, k8, k9, k10⟩ := cells11 H2.out.ev
  go_upto_region 1 with fail
  rw [HW.out]
  go_wp2_with fail
  (with_reducible refine HCP.out.mono ?_)
  rintro e1 w1 ⟨vd1, vs1, vm1, rfl, hr1, f1, f2, f3, hb1⟩
  obtain ⟨a1, c1, rfl⟩ := hr1.d.shape
  obtain ⟨a2, c2, rfl⟩ := hr1.s.shape
  obtain ⟨a3, c3, rfl⟩ := hr1.m.shape
  have H3 := Lib.hid (H2.out.below hb1)
  have HR1 := Lib.hid hr1
  have HF := Lib.hid (And.intro f1 (And.intro f2 f3))
  clear hr1 f1 f2 f3 hb1 k0 k1 k2 k3 k4 k5 k6 k7 k8 k9 k10
  obtain ⟨k0, k1, k2, k3, k4, k5, k6, k7, k8, k9, k10⟩ := cells11 H3.out.ev
  obtain ⟨z0, z1, z2, z3, z4, z5, z6, z7, z8, z9, z10⟩ := frozen11 H3.out.ev
  go_upto_region 2 with fail
  obtain ⟨W2, hW2⟩ : ∃ W2, put11 w1 w.heap.size (.string e.id) (.string e.ti) (.int .i64 e.st) (.int .i64 e.lg) (.string e.ru.fq) (.int .i64 e.ru.ev) (.slice a1 e.ru.ds.length c1) (.int .i64 e.ru.ct) (.int .i64 e.ru.un) (.slice a2 e.sk.length c2) (.slice a3 e.mv.length c3) = W2 := ⟨_, rfl⟩
  have on2 : Only w.heap.size w1 W2 := by rw [← hW2]; exact put11_only ..
  have htop := H2.out.top
  obtain ⟨f1, f2, f3⟩ := HF.out
  have o1 : Off w.heap.size (.slice a1 e.ru.ds.length c1) ∧ Off w.heap.size (.slice a2 e.sk.length c2) ∧ Off w.heap.size (.slice a3 e.mv.length c3) := ⟨off_from f1 (by omega), off_from f2 (by omega), off_from f3 (by omega)⟩
  have hrow : Row W2 w.heap.size e (.slice a1 e.ru.ds.length c1) (.slice a2 e.sk.length c2) (.slice a3 e.mv.length c3) := ⟨by rw [← hW2]; exact put11_row H3.out.ev, on2.rv HR1.out o1.1 o1.2.1 o1.2.2, o1.1, o1.2.1, o1.2.2⟩
  have hres : W2.heap[w.heap.size + 1]? = some (.cells zeroV 40) := by rw [on2.block _ (by omega)]; exact H3.out.res
  have hlow : Below w.heap.size w W2 := H3.out.low.trans (on2.below (Nat.le_refl _))
  have hsz2 : w.heap.size + 1 < W2.heap.size := by rw [on2.size]; exact H3.out.top
  dsimp only [put11] at hW2
  rw [hW2]
  have hp := put_any e (.slice a1 e.ru.ds.length c1) (.slice a2 e.sk.length c2) (.slice a3 e.mv.length c3) w.heap.size f s er m W2 (HV.out.below hlow) hrow hs
  unfold PutPost at hp
  rw [HPC.out] at hp
  have HP := Lib.hid hp
  have HLOW := Lib.hid hlow
  have HRES := Lib.hid hres
  have HSZ2 := Lib.hid hsz2
  have HOF := Lib.hid (show Off (w.heap.size + 1) (.slice a1 e.ru.ds.length c1) ∧ Off (w.heap.size + 1) (.slice a2 e.sk.length c2) ∧ Off (w.heap.size + 1) (.slice a3 e.mv.length c3) from ⟨off_from f1 (by omega), off_from f2 (by omega), off_from f3 (by omega)⟩)
  clear hW2 on2 htop f1 f2 f3 o1 hrow hres hlow hp hsz2 k0 k1 k2 k3 k4 k5 k6 k7 k8 k9 k10 z0 z1 z2 z3 z4 z5 z6 z7 z8 z9 z10
  go_wp2_with fail
  (with_reducible refine HP.out.mono ?_)
  rintro e3 w3 ⟨rfl, hfar, hok⟩
  have hlow3 : Below w.heap.size w w3 := HLOW.out.trans (hfar.below (fun k hk => by omega) HLOW.out.size)
  have hres3 : w3.heap[w.heap.size + 1]? = some (.cells zeroV 40) := by rw [hfar.block _ HSZ2.out (by omega)]; exact HRES.out
  have HLOW3 := Lib.hid hlow3
  have HRES3 := Lib.hid hres3
  have HOK := Lib.hid hok
  clear hfar hok hlow3 hres3 HLOW HRES HP
  obtain ⟨yy0, yy1, yy2, yy3, yy4, yy5, yy6, yy7, yy8, yy9, yy10⟩ := cells11 HRES3.out
  obtain ⟨y0, y1, y2, y3, y4, y5, y6, y7, y8, y9, y10⟩ := frozen11 HRES3.out
  cases pc with
  | succ c =>
    have HSC := Lib.hid (show setC e f s = c + 1 by unfold setC; rw [HPC.out, if_pos (by omega)])
    simp only [errV]
    go_wp2
    refine bodyPost_ret (res_set (put11_row HRES3.out) rfl rfl) rfl ?_
    exact set_bad er HSC.out (HLOW3.out.trans ((put11_only ..).below (Nat.le_succ _)))
  | zero =>
    obtain ⟨vd3, vs3, vm3, hrow3, hoff3⟩ := HOK.out rfl
    obtain ⟨E, hE⟩ : ∃ E, putE e f s = E := ⟨_, rfl⟩
    rw [hE] at hrow3
    obtain ⟨a4, c4, rfl⟩ := hrow3.rv.d.shape
    obtain ⟨a5, c5, rfl⟩ := hrow3.rv.s.shape
    obtain ⟨a6, c6, rfl⟩ := hrow3.rv.m.shape
    have HO := Lib.hid (hoff3 (w.heap.size + 1) HSZ2.out HOF.out)
    have HOFF3 := Lib.hid hoff3
    have hzE := HZ2.out
    rw [hE] at hzE
    have hck := check_any E _ _ _ er w3 (HV.out.below HLOW3.out).errs hrow3.rv hzE
    obtain ⟨q, hq⟩ : ∃ q, badE E = q := ⟨_, rfl⟩
    rw [hq] at hck
    have HCK := Lib.hid hck
    have HROW3 := Lib.hid hrow3
    have HEE := Lib.hid hE
    have HQ := Lib.hid hq
    simp only [errV]
    obtain ⟨k0, k1, k2, k3, k4, k5, k6, k7, k8, k9, k10⟩ := cells11 hrow3.row
    clear hck hrow3 hE hq hzE hoff3
    go_wp2_with fail
    (with_reducible refine HCK.out.mono ?_)
    rintro e4 w4 ⟨rfl, hb4⟩
    have HROW4 := Lib.hid (HROW3.out.below hb4)
    have HRES4 := Lib.hid (row_below HRES3.out hb4)
    have HLOW4 := Lib.hid (HLOW3.out.trans (hb4.mono HLOW3.out.size))
    clear hb4 k0 k1 k2 k3 k4 k5 k6 k7 k8 k9 k10 y0 y1 y2 y3 y4 y5 y6 y7 y8 y9 y10 yy0 yy1 yy2 yy3 yy4 yy5 yy6 yy7 yy8 yy9 yy10
    obtain ⟨k0, k1, k2, k3, k4, k5, k6, k7, k8, k9, k10⟩ := cells11 HROW4.out.row
    obtain ⟨yy0, yy1, yy2, yy3, yy4, yy5, yy6, yy7, yy8, yy9, yy10⟩ := cells11 HRES4.out
    obtain ⟨y0, y1, y2, y3, y4, y5, y6, y7, y8, y9, y10⟩ := frozen11 HRES4.out
    cases q with
    | succ c =>
      have HSC := Lib.hid (show setC e f s = c + 1 by unfold setC; rw [HPC.out, if_neg (by omega), HEE.out, HQ.out])
      simp only [errV]
      go_wp2
      refine bodyPost_ret (res_set (put11_row HRES4.out) rfl rfl) rfl ?_
      exact set_bad er HSC.out (HLOW4.out.trans ((put11_only ..).below (Nat.le_succ _)))
    | zero =>
      have HSC := Lib.hid (show setC e f s = 0 by unfold setC; rw [HPC.out, if_neg (by omega), HEE.out, HQ.out])
      simp only [errV]
      go_wp2
      refine bodyPost_ret (res_set (put11_row HRES4.out) rfl rfl) rfl ?_
      have hSE : setE e f s = E := by unfold setE; rw [if_pos HSC.out, HEE.out]
      refine ⟨.slice a4 E.ru.ds.length c4, .slice a5 E.sk.length c5, .slice a6 E.mv.length c6, ?_, ?_, fun c hc => HOFF3.out c (by have := HSZ2.out; omega) ⟨off_from HF.out.1 (by have := H2.out.top; omega), off_from HF.out.2.1 (by have := H2.out.top; omega), off_from HF.out.2.2 (by have := H2.out.top; omega)⟩, HLOW4.out.trans ((put11_only ..).below (Nat.le_succ _))⟩
      · rw [hSE, HSC.out]; rfl
      · rw [hSE]; exact (put11_only ..).rv HROW4.out.rv HO.out.1 HO.out.2.1 HO.out.2.2
def ReadPost (er : Nat → Addr) (s : ByteArray) (w : World) (r : Ending) (w' : World) : Prop :=
  ∃ vd vs vm, r = .returned (.tuple #[.agg ((readE s).cells vd vs vm), errV er (readC s)]) ∧ Rv w' (readE s) vd vs vm ∧ Below w.heap.size w w'
theorem read_bad (er : Nat → Addr) {s : ByteArray} {w W : World} {c : Nat} (hc : readC s = c + 1) (hb : Below w.heap.size w W) : ReadPost er s w (.returned (.tuple #[.agg #[.string ⟨#[]⟩, .string ⟨#[]⟩, .int .i64 0, .int .i64 0, .string ⟨#[]⟩, .int .i64 0, .slice none 0 0, .int .i64 0, .int .i64 0, .slice none 0 0, .slice none 0 0], ev (er c)])) W := by
  have he : readE s = zeroEv := by unfold readE readLE; rw [if_neg (by unfold readC at hc; omega)]
  refine ⟨.slice none 0 0, .slice none 0 0, .slice none 0 0, ?_, ?_, hb⟩
  · rw [he, hc]; rfl
  · rw [he]; exact zero_rv W
theorem split_byte (s : ByteArray) (c : UInt8) (m : Int) (w : World) (hs : s.size < 4294967281) (hm : w.cell? ⟨12, 0, none⟩ = some (.int .i64 m)) :
    Calls Tryz.prog 132 #[.string s, .string ⟨#[c]⟩] w fun e w' => e = .returned (.slice (some ⟨w.heap.size, 0, none⟩) (pieces c s).length (pieces c s).length) ∧ w' = w.alloc (.cells ((pieces c s).map Value.string).toArray 9) := by
  have hl : (pieces c s).length = Lib.countB s ⟨#[c]⟩ + 1 := Lib.splitB_all ⟨#[c]⟩ (Nat.le_refl 1) _ _ _ rfl
  rw [hl]
  exact Tryz.strings_Split s ⟨#[c]⟩ m w hs hm (Nat.le_refl 1)
theorem fAt_size {k : Nat} (hk : k < 6) : (fAt k).size ≤ 5 := by
  have : k = 0 ∨ k = 1 ∨ k = 2 ∨ k = 3 ∨ k = 4 ∨ k = 5 := by omega
  rcases this with rfl | rfl | rfl | rfl | rfl | rfl <;> decide
theorem evK_size {L : List ByteArray} (h : ∀ x ∈ L, x.size ≤ 30000) (hL : L.length = 7) : ∀ k, k ≤ 6 → Size (evK L k)
  | 0, _ => by
    obtain ⟨a, b, c, d, g⟩ := zero_size
    refine ⟨?_, b, c, d, g⟩
    show (lAt L 0).size ≤ _
    have := h (lAt L 0) (by unfold lAt; rw [List.getD_eq_getElem?_getD, List.getElem?_eq_getElem (by omega)]; exact List.getElem_mem _)
    omega
  | k + 1, hk => ev_put_size (evK_size h hL k (by omega)) _ (h _ (by unfold lAt; rw [List.getD_eq_getElem?_getD, List.getElem?_eq_getElem (by omega)]; exact List.getElem_mem _))
set_option maxRecDepth 100000 in
set_option maxHeartbeats 8000000 in
theorem read_ev (s : ByteArray) (er : Nat → Addr) (m : Int) (w : World) (hv : Env w er m) (hs : s.size ≤ 30000) :
    Calls Tryz.prog 81 #[.string s] w (ReadPost er s w) := by
  obtain ⟨W, hW⟩ : ∃ W, w.alloc (.cells zeroV 40) = W := ⟨_, rfl⟩
  have hb0 : Below w.heap.size w W := by rw [← hW]; exact (Below.refl _ w).alloc (Nat.le_refl _) _
  have hres : W.heap[w.heap.size]? = some (.cells zeroV 40) := by rw [← hW]; exact heap_new w _
  have hz0 : W.heap.size = w.heap.size + 1 := by rw [← hW]; simp
  have hsp := split_byte s 124 m W (by omega) (cell_later hb0 hv.ml)
  obtain ⟨L, hL⟩ : ∃ L, pieces 124 s = L := ⟨_, rfl⟩
  have hLs : ∀ x ∈ L, x.size ≤ 30000 := fun x hx => by rw [← hL] at hx; exact Nat.le_trans (pieces_le hx) hs
  rw [hL] at hsp
  have hrc : readC s = readLC L := by unfold readC; rw [hL]
  have hre : readE s = readLE L := by unfold readE; rw [hL]
  have hl1 : L.length ≤ s.size + 1 := by rw [← hL]; exact pieces_len 124 s
  obtain ⟨N, hN⟩ : ∃ N, L.length = N := ⟨_, rfl⟩
  rw [hN] at hsp hl1
  have hgl : 1 < w.heap.size := cell_lt hv.errs.s0.cell
  have HV := Lib.hid hv
  have HW := Lib.hid hW
  have HB0 := Lib.hid hb0
  have HRES := Lib.hid hres
  have HZ0 := Lib.hid hz0
  have HSP := Lib.hid hsp
  have HLS := Lib.hid hLs
  have HRC := Lib.hid hrc
  have HRE := Lib.hid hre
  have HN := Lib.hid hN
  clear hv hW hb0 hres hz0 hsp hL hLs hrc hre hN
  go_enter Tryz.func81, Tryz.ntmps81
  go_upto_region 1 with fail
  rw [HW.out]
  go_wp2_with fail
  (with_reducible refine HSP.out.mono ?_)
  rintro e1 w1 ⟨rfl, hw1⟩
  have hb1 : Below W.heap.size W w1 := by rw [hw1]; exact (Below.refl _ W).alloc (Nat.le_refl _) _
  have x1 : w1.heap[W.heap.size]? = some (.cells (L.map Value.string).toArray 9) := by rw [hw1]; exact heap_new W _
  have hc1 : ∀ (j : Nat) x, L[j]? = some x → w1.cell? ⟨W.heap.size, j, none⟩ = some (.string x) := fun j x hx => cell_of x1 (by simp [hx])
  have hz1 : W.heap.size < w1.heap.size := by rw [hw1]; simp
  have HB1 := Lib.hid hb1
  have HC1 := Lib.hid hc1
  have HZ1 := Lib.hid hz1
  clear hw1 hb1 x1 hc1 hz1
  go_wp2_with fail
  (with_reducible refine (fields_new w1).mono ?_)
  rintro e2 w2 ⟨rfl, hw2⟩
  have hb2 : Below w1.heap.size w1 w2 := by rw [hw2]; exact (Below.refl _ w1).alloc (Nat.le_refl _) _
  have hz2 : w1.heap.size < w2.heap.size := by rw [hw2]; simp
  have HB2 := Lib.hid (HB1.out.trans (hb2.mono HB1.out.size))
  have HR2 := Lib.hid (row_below HRES.out (HB1.out.trans (hb2.mono HB1.out.size)))
  have HC2 := Lib.hid (fun j x h => cell_later hb2 (HC1.out j x h))
  clear hb2 hw2 HC1 HB1 HRES
  by_cases h7 : N = 7
  case neg =>
    have h7b : ((N : Int) != 7) = true := by rw [bne_iff_ne]; omega
    have h7c : ((N : Int) != 6 + 1) = true := by rw [bne_iff_ne]; omega
    have HSC := Lib.hid (show readC s = 0 + 1 by rw [HRC.out]; unfold readLC; rw [if_neg (by rw [HN.out]; exact h7)])
    have cE := (HV.out.below (HB0.out.trans (HB2.out.mono HB0.out.size))).errs.s0.cell
    obtain ⟨yy0, yy1, yy2, yy3, yy4, yy5, yy6, yy7, yy8, yy9, yy10⟩ := cells11 HR2.out
    obtain ⟨y0, y1, y2, y3, y4, y5, y6, y7, y8, y9, y10⟩ := frozen11 HR2.out
    clear h7
    go_wp2_with fail
    go_region_with (fail)
    all_goals go_wp2
    all_goals (
      refine bodyPost_ret (res_read_ev (put11_rowD HR2.out) rfl rfl) rfl ?_
      exact read_bad er HSC.out (Rul.below_drew ((HB0.out.trans (HB2.out.mono HB0.out.size)).trans ((put11_only ..).below (Nat.le_refl _)))))
  case pos =>
    subst h7
    have hl0 : (0 : Int) < 7 := by omega
    obtain ⟨f0, hf0⟩ : ∃ x, L[0]? = some x := ⟨_, List.getElem?_eq_getElem (by rw [HN.out]; omega)⟩
    have q0 := HC2.out 0 f0 hf0
    have hf0' : lAt L 0 = f0 := by unfold lAt; rw [List.getD_eq_getElem?_getD, hf0]; rfl
    have HF0 := Lib.hid hf0'
    clear hf0 hf0'
    go_upto_region 5 with fail
    obtain ⟨W3, hW3⟩ : ∃ W3, w2.alloc (.cells #[.string f0, .string ⟨#[]⟩, .int .i64 0, .int .i64 0, .string ⟨#[]⟩, .int .i64 0, .slice none 0 0, .int .i64 0, .int .i64 0, .slice none 0 0, .slice none 0 0] 40) = W3 := ⟨_, rfl⟩
    have hrow3 : Row W3 w2.heap.size (evK L 0) (.slice none 0 0) (.slice none 0 0) (.slice none 0 0) := by
      refine ⟨?_, ?_, off_nil _, off_nil _, off_nil _⟩
      · rw [← hW3]
        have := heap_new w2 (.cells #[.string f0, .string ⟨#[]⟩, .int .i64 0, .int .i64 0, .string ⟨#[]⟩, .int .i64 0, .slice none 0 0, .int .i64 0, .int .i64 0, .slice none 0 0, .slice none 0 0] 40)
        rw [← HF0.out] at this ⊢
        exact this
      · exact ⟨.inl ⟨rfl, _, _, rfl⟩, .inl ⟨rfl, _, _, rfl⟩, .inl ⟨rfl, _, _, rfl⟩⟩
    have hb23 : Below w2.heap.size w2 W3 := by rw [← hW3]; exact (Below.refl _ w2).alloc (Nat.le_refl _) _
    have hs3 : W3.heap.size = w2.heap.size + 1 := by rw [← hW3]; simp
    rw [hW3]
    have HROW3 := Lib.hid hrow3
    have HB23 := Lib.hid hb23
    have HS3 := Lib.hid hs3
    clear hW3 hrow3 hb23 hs3 q0
    go_wp2_with fail
    (with_reducible refine (fields_new W3).mono ?_)
    rintro e4 w4 ⟨rfl, hw4⟩
    have hb4 : Below W3.heap.size W3 w4 := by rw [hw4]; exact (Below.refl _ W3).alloc (Nat.le_refl _) _
    have hf4 : w4.heap[W3.heap.size]? = some (.cells fieldsV 9) := by rw [hw4]; exact heap_new W3 _
    have HROW4 := Lib.hid (HROW3.out.below hb4)
    have HF4 := Lib.hid hf4
    have HB24 := Lib.hid (HB23.out.trans (hb4.mono HB23.out.size))
    have HC4 := Lib.hid (fun j x h => cell_later (HB23.out.trans (hb4.mono HB23.out.size)) (HC2.out j x h))
    have HR4 := Lib.hid (row_below HR2.out (HB23.out.trans (hb4.mono HB23.out.size)))
    have HLOW4 := Lib.hid ((HB0.out.trans (HB2.out.mono HB0.out.size)).trans ((HB23.out.trans (hb4.mono HB23.out.size)).mono (by have := HB0.out.size; have := HB2.out.size; omega)))
    have hz4 : W3.heap.size < w4.heap.size := by rw [hw4]; simp
    have HZ4 := Lib.hid hz4
    have hbb : w.heap.size < w2.heap.size := by have := HB2.out.size; have := HZ0.out; omega
    have HBB := Lib.hid hbb
    have hwb : W.heap.size < w2.heap.size := by have := HZ1.out; omega
    clear hw4 hb4 hf4 hz4 hbb
    go_wp2_with fail
    go_loopw [26] (fun p wr => ∃ (k : Nat) (vd vs vm : Value), k ≤ 6 ∧ p = .int .i64 (k : Int) ∧ Row wr w2.heap.size (evK L k) vd vs vm ∧ (∀ j, j < k → putC (fAt j) (lAt L (j + 1)) = 0) ∧ Far (fun q => q = w2.heap.size) w4 wr ∧ (Off w.heap.size vd ∧ Off w.heap.size vs ∧ Off w.heap.size vm)) (fun p _ => 6 - (intOf p).toNat)
    case atStart => exact ⟨0, _, _, _, Nat.zero_le _, rfl, HROW4.out, fun j h => absurd h (Nat.not_lt_zero j), Far.refl _ _, off_nil _, off_nil _, off_nil _⟩
    case round =>
      obtain ⟨k, vd, vs, vm, hk, rfl, hrow, hall, hfar, hoff⟩ := hrel
      have HROW := Lib.hid hrow
      have HALL := Lib.hid hall
      have HFAR := Lib.hid hfar
      have HOFF := Lib.hid hoff
      have hlow : Below w.heap.size w wr := HLOW4.out.trans (hfar.below (fun q h => by have := HBB.out; omega) HLOW4.out.size)
      have HLOW := Lib.hid hlow
      have hres : wr.heap[w.heap.size]? = some (.cells zeroV 40) := by
        rw [hfar.block _ (by have := HBB.out; have := HB24.out.size; omega) (by have := HBB.out; omega)]; exact HR4.out
      have HRES := Lib.hid hres
      clear hrow hall hoff hlow hres
      by_cases hlt : k < 6
      · have hc6 := field_cell (hfar.block _ HZ4.out (by have := HS3.out; omega) ▸ HF4.out : wr.heap[W3.heap.size]? = _) hlt
        obtain ⟨x, hx⟩ : ∃ x, L[k + 1]? = some x := ⟨_, List.getElem?_eq_getElem (by rw [HN.out]; omega)⟩
        have hxl : lAt L (k + 1) = x := by unfold lAt; rw [List.getD_eq_getElem?_getD, hx]; rfl
        have hcx : wr.cell? ⟨W.heap.size, k + 1, none⟩ = some (.string x) := far_cell hfar (HC4.out (k + 1) x hx) (by show W.heap.size ≠ w2.heap.size; omega)
        have hxs := HLS.out x (List.mem_of_getElem? hx)
        have hfs := fAt_size hlt
        obtain ⟨F, hF⟩ : ∃ F, fieldL.getD k ByteArray.empty = F := ⟨_, rfl⟩
        have hfF : fAt k = F := hF
        rw [hF] at hc6
        have hp := put_any (evK L k) vd vs vm w2.heap.size F x er m wr (HV.out.below HLOW.out) HROW.out hxs
        obtain ⟨pc, hpc⟩ : ∃ pc, putC F x = pc := ⟨_, rfl⟩
        unfold PutPost at hp
        rw [hpc] at hp
        have HP := Lib.hid hp
        have HPC := Lib.hid (show putC (fAt k) (lAt L (k + 1)) = pc by rw [hxl, hfF]; exact hpc)
        have HK := Lib.hid (show evK L (k + 1) = putE (evK L k) F x by show putE _ (fAt k) (lAt L (k + 1)) = _; rw [hxl, hfF])
        have hi1 : (k : Int) < 6 := by omega
        have hi2 : (k : Int) + 1 < 7 := by omega
        clear hx hxl hxs hfs hF hfF hp hpc hfar
        go_wp2_with fail
        (with_reducible refine HP.out.mono ?_)
        rintro e5 w5 ⟨rfl, hfar5, hok5⟩
        have HOK := Lib.hid hok5
        have HFAR5 := Lib.hid hfar5
        clear hfar5 hok5 hc6 hcx
        cases pc with
        | succ c =>
          have hlow5 : Below w.heap.size w w5 := HLOW.out.trans (HFAR5.out.below (fun q h => by have := HBB.out; omega) HLOW.out.size)
          have hres5 : w5.heap[w.heap.size]? = some (.cells zeroV 40) := by
            rw [HFAR5.out.block _ (by have := (Array.getElem?_eq_some_iff.1 HRES.out).1; exact this) (by have := HBB.out; omega)]; exact HRES.out
          have HLOW5 := Lib.hid hlow5
          have HRES5 := Lib.hid hres5
          have HSC := Lib.hid (show readC s = c + 1 by
            rw [HRC.out]; unfold readLC
            rw [if_pos HN.out, badK_miss (j := k) (by rw [HPC.out]; omega) (Nat.zero_le _) (by omega) (fun i _ h => HALL.out i h), HPC.out])
          obtain ⟨yy0, yy1, yy2, yy3, yy4, yy5, yy6, yy7, yy8, yy9, yy10⟩ := cells11 hres5
          obtain ⟨y0, y1, y2, y3, y4, y5, y6, y7, y8, y9, y10⟩ := frozen11 hres5
          clear hlow5 hres5
          simp only [errV]
          go_wp2
          refine bodyPost_ret (res_read_ev (put11_row HRES5.out) rfl rfl) rfl ?_
          exact read_bad er HSC.out (HLOW5.out.trans ((put11_only ..).below (Nat.le_refl _)))
        | zero =>
          obtain ⟨vd5, vs5, vm5, hrow5, hoff5⟩ := HOK.out rfl
          have HROW5 := Lib.hid hrow5
          have HOFF5 := Lib.hid (hoff5 w.heap.size (by have := (Array.getElem?_eq_some_iff.1 HRES.out).1; exact this) HOFF.out)
          clear hrow5 hoff5
          simp only [errV]
          go_wp2_with fail
          go_roundw
          case rel =>
            refine ⟨k + 1, vd5, vs5, vm5, by omega, by go_num, by rw [HK.out]; exact HROW5.out, fun j hj => ?_, HFAR.out.trans HFAR5.out, HOFF5.out⟩
            by_cases e : j = k
            · subst e; exact HPC.out
            · exact HALL.out j (by omega)
          case measure => simp [intOf]; omega
      · obtain rfl : k = 6 := by omega
        have hzE := evK_size HLS.out HN.out 6 (Nat.le_refl _)
        obtain ⟨E, hE⟩ : ∃ E, evK L 6 = E := ⟨_, rfl⟩
        rw [hE] at HROW hzE
        obtain ⟨a4, c4, rfl⟩ := HROW.out.rv.d.shape
        obtain ⟨a5, c5, rfl⟩ := HROW.out.rv.s.shape
        obtain ⟨a6, c6, rfl⟩ := HROW.out.rv.m.shape
        have hck := check_any E _ _ _ er wr (HV.out.below HLOW.out).errs HROW.out.rv hzE
        obtain ⟨q, hq⟩ : ∃ q, badE E = q := ⟨_, rfl⟩
        rw [hq] at hck
        have hrq : readC s = q := by
          rw [HRC.out]; unfold readLC
          rw [if_pos HN.out, badK_hit (fun j _ h => HALL.out j (by omega)), hE, hq]
        have HCK := Lib.hid hck
        have HEE := Lib.hid hE
        have HRQ := Lib.hid hrq
        obtain ⟨k0, k1, k2, k3, k4, k5, k6, k7, k8, k9, k10⟩ := cells11 HROW.out.row
        clear hck hE hq hzE hrq hfar
        go_wp2_with fail
        (with_reducible refine HCK.out.mono ?_)
        rintro e6 w6 ⟨rfl, hb6⟩
        have HROW6 := Lib.hid (HROW.out.below hb6)
        have HRES6 := Lib.hid (row_below HRES.out hb6)
        have HLOW6 := Lib.hid (HLOW.out.trans (hb6.mono HLOW.out.size))
        clear hb6 k0 k1 k2 k3 k4 k5 k6 k7 k8 k9 k10
        obtain ⟨k0, k1, k2, k3, k4, k5, k6, k7, k8, k9, k10⟩ := cells11 HROW6.out.row
        obtain ⟨yy0, yy1, yy2, yy3, yy4, yy5, yy6, yy7, yy8, yy9, yy10⟩ := cells11 HRES6.out
        obtain ⟨y0, y1, y2, y3, y4, y5, y6, y7, y8, y9, y10⟩ := frozen11 HRES6.out
        cases q with
        | succ c =>
          simp only [errV]
          go_wp2
          refine bodyPost_ret (res_read_ev (put11_row HRES6.out) rfl rfl) rfl ?_
          exact read_bad er HRQ.out (HLOW6.out.trans ((put11_only ..).below (Nat.le_refl _)))
        | zero =>
          simp only [errV]
          go_wp2
          refine bodyPost_ret (res_read_ev (put11_row HRES6.out) rfl rfl) rfl ?_
          have hRE : readE s = E := by
            rw [HRE.out]; unfold readLE
            rw [if_pos (by rw [← HRC.out]; exact HRQ.out), HEE.out]
          refine ⟨.slice a4 E.ru.ds.length c4, .slice a5 E.sk.length c5, .slice a6 E.mv.length c6, ?_, ?_, HLOW6.out.trans ((put11_only ..).below (Nat.le_refl _))⟩
          · rw [hRE, HRQ.out]; rfl
          · rw [hRE]; exact (put11_only ..).rv HROW6.out.rv HOFF.out.1 HOFF.out.2.1 HOFF.out.2.2
end Evt
end Go.Proofs.YtghkalamlcfnnaaGreatDoor
