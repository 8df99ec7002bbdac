/- package book: On. -/
import Derived.Test.YtkhkhbeolhhomaaGreatDoorBkIds
import Derived.Test.YtkhkhbeolhhomaaGreatDoorBkBook
import Derived.Test.YtkhkhbeolhhomaaGreatDoorBkDel
import Derived.Test.YtkhkhbeolhhomaaGreatDoorEvCov
namespace Go.Proofs.YtkhkhbeolhhomaaGreatDoor
open Go Go.RowKit Go.Shelf Lmd
attribute [local go_sem] Oper.semAt_some
namespace Bk
open Evt Tp Rul Day Cand Er

/-- the date of an event's start -/
noncomputable def dt (e : Ev) : Int × Int × Int := open Classical in if h : ∃ p : Int × Int × Int, Cal.At e.st p.1 p.2.1 p.2.2 then h.choose else (0, 0, 0)
theorem dt_at {e : Ev} (h : badE e = 0) : Cal.At e.st (dt e).1 (dt e).2.1 (dt e).2.2 := by
  have hr := (badE_zero h).2.2.1
  have hex : ∃ p : Int × Int × Int, Cal.At e.st p.1 p.2.1 p.2.2 := by
    obtain ⟨y, m, d, ha⟩ := Cal.at_exists e.st hr.1 hr.2
    exact ⟨(y, m, d), ha⟩
  unfold dt
  rw [dif_pos hex]
  exact hex.choose_spec
/-- does an event cover a day -/
noncomputable def covD (e : Ev) (n : Int) : Bool := coversB e (dt e).1 (dt e).2.1 (dt e).2.2 n
theorem covers_e (e : Ev) (vd vs vm : Value) (dd : Int) (er : Nat → Addr) (w : World) (he : E7 w er) (hr : Rv w e vd vs vm) (hz : Size e) :
    Calls Tryz.prog 18 #[.agg (e.cells vd vs vm), .int .i64 dd] w fun r w' => r = .returned (.bool (covD e dd)) ∧ Below w.heap.size w w' :=
  covers_any e vd vs vm _ _ _ dd er w he hr hz dt_at
set_option maxRecDepth 100000 in
set_option maxHeartbeats 4000000 in
theorem on1_any (w : World) (B b m : Nat) (L : List Ev) (er : Nat → Addr) (p : Nat) (dd : Int) (x : ByteArray) (he : E7 w er) (h : Book w B b m L) (k0 : w.cell? ⟨p, 0, none⟩ = some (.pointer (some ⟨b, 0, none⟩))) (k1 : w.cell? ⟨p + 1, 0, none⟩ = some (.int .i64 dd)) (hx : x.size ≤ 9223372036854775807) :
    Calls Tryz.prog 78 #[.string x, .pointer (some ⟨p, 0, none⟩), .pointer (some ⟨p + 1, 0, none⟩)] w fun r w' => r = .returned (.bool (!covD (foundE x.data.toList L) dd)) ∧ Below w.heap.size w w' := by
  obtain ⟨D, hown, hT⟩ := h.map
  obtain ⟨ud, us, um, hl, hru⟩ := hT.look (m := m) x.data.toList
  have hz := foundE_fit h x.data.toList
  obtain ⟨f, hf⟩ : ∃ f, foundE x.data.toList L = f := ⟨_, rfl⟩
  rw [hf] at hl hru hz ⊢
  have hq0 := hl.one w _ x hown rfl hx
  have hq1 := hl.one w.drew _ x hown rfl hx
  have hb := cell1 h.box
  have hc := covers_e f ud us um dd er w.drew (he.below (below_drew (Below.refl _ w))) (hru.below (below_drew (Below.refl _ w))) hz
  obtain ⟨b1, d1, rfl⟩ := hru.d.shape
  obtain ⟨b2, d2, rfl⟩ := hru.s.shape
  obtain ⟨b3, d3, rfl⟩ := hru.m.shape
  have HC := Lib.hid hc
  clear hc he h hown hT hl hf hz hru
  go_enter Tryz.func78, Tryz.ntmps78
  go_upto_region 1 with fail
  go_region_with (first
    | ((with_reducible refine HC.out.mono ?_); rintro e1 w1 ⟨rfl, hb1⟩))
  all_goals (
    go_wp2
    go_ret
    exact ⟨rfl, (below_drew (Below.refl _ w)).trans hb1⟩)
theorem ids_found {L : List Ev} (ha : Asc L) (c : Ev → Bool) : (idsB L).filter (fun x => !(!c (foundE x.data.toList L))) = onB L c := by
  unfold idsB onB
  rw [List.filter_map]
  congr 1
  refine List.filter_congr fun e he => ?_
  show (!(!c (foundE (key e) L))) = c e
  rw [foundE_of ha he, Bool.not_not]
set_option maxRecDepth 100000 in
set_option maxHeartbeats 4000000 in
theorem on_any (w : World) (B b m : Nat) (L : List Ev) (er : Nat → Addr) (dd : Int) (he : E7 w er) (h : Book w B b m L) :
    Calls Tryz.prog 15 #[.pointer (some ⟨b, 0, none⟩), .int .i64 dd] w fun r w' => ∃ v, r = .returned v ∧ Tx.Rd w' v (onB L (covD · dd)) ∧ Below w.heap.size w w' := by
  obtain ⟨W, hW⟩ : ∃ W, (w.alloc (.cells #[.pointer (some ⟨b, 0, none⟩)] 25)).alloc (.cells #[.int .i64 dd] 3) = W := ⟨_, rfl⟩
  have hB : Below w.heap.size w W := by rw [← hW]; exact ((Below.refl _ w).alloc (Nat.le_refl _) _).alloc (by simp) _
  have hx0 : W.heap[w.heap.size]? = some (.cells #[.pointer (some ⟨b, 0, none⟩)] 25) := by rw [← hW]; exact (Below.heap_alloc _ _ _ (by simp)).trans (heap_new w _)
  have hx1 : W.heap[w.heap.size + 1]? = some (.cells #[.int .i64 dd] 3) := by
    rw [← hW]
    have h := heap_new (w.alloc (.cells #[.pointer (some ⟨b, 0, none⟩)] 25)) (.cells #[.int .i64 dd] 3)
    rwa [World.size_alloc] at h
  have hi := ids_any W B b m L (h.below hB)
  have hp : PredB 78 #[.pointer (some ⟨w.heap.size, 0, none⟩), .pointer (some ⟨w.heap.size + 1, 0, none⟩)] (fun x => !covD (foundE x.data.toList L) dd) W.heap.size W :=
    fun W' x hb hx => on1_any W' B b m L er w.heap.size dd x ((he.below hB).below hb) ((h.below hB).below hb) (cell_later hb (cell1 hx0)) (cell_later hb (cell1 hx1)) hx
  have hfew := h.few
  have hfit := h.fit
  have hasc := h.asc
  have k0 := cell1 hx0
  have HP := Lib.hid hp
  have HI := Lib.hid hi
  have HW := Lib.hid hW
  have HB := Lib.hid hB
  have HF := Lib.hid (And.intro hfit hasc)
  clear hp hi hW hB hx0 hx1 hfit hasc he h
  go_enter Tryz.func15, Tryz.ntmps15
  go_upto_region 1 with fail
  rw [HW.out]
  go_wp2_with fail
  (with_reducible refine HI.out.mono ?_)
  rintro e1 w1 ⟨v, rfl, hown, hb1⟩
  have HB1 := Lib.hid hb1
  rcases hown.2 with ⟨rfl, h0⟩ | ⟨g, cap, cur, rfl, hg, hh, hcap, hcm, hcs, ht⟩
  · have hL : L = [] := List.length_eq_zero_iff.1 h0
    subst hL
    have hdn := deleteFunc_nil 78 #[.pointer (some ⟨w.heap.size, 0, none⟩), .pointer (some ⟨w.heap.size + 1, 0, none⟩)] (enters_of Tryz.func78 (by kernel_rfl) rfl) _ W.heap.size W HP.out w1 hb1 hb1.size
    have HDN := Lib.hid hdn
    have k1 := cell_later hb1 k0
    clear hown hb1 h0 hdn k0
    go_wp2_with fail
    (with_reducible refine HDN.out.mono ?_)
    rintro e2 w2 ⟨rfl, hb2⟩
    go_wp2
    go_ret
    exact ⟨_, rfl, .inl ⟨rfl, _, _, rfl⟩, (HB.out.trans (HB1.out.mono HB.out.size)).trans (hb2.mono (Nat.le_trans HB.out.size HB1.out.size))⟩
  · have hlt : g < w1.heap.size := (Array.getElem?_eq_some_iff.1 hh).1
    have hidl : (idsB L).length = L.length := by simp [idsB]
    have hrow : TRow w1 g (idsB L).length (tel (idsB L)) := fun j hj => by
      have h1 : (cellsS (idsB L))[j]? = some (.string (tel (idsB L) j)) := by
        rw [tel_lt hj]; simp only [cellsS, List.getElem?_map, List.getElem?_eq_getElem hj]; rfl
      rw [← ht, List.getElem?_take_of_lt (by rw [hidl] at hj; omega)] at h1
      refine ⟨?_, by simp [World.frozen?, hh]⟩
      simp only [World.cell?, hh]
      simpa using h1
    have hdl := deleteFunc_row 78 #[.pointer (some ⟨w.heap.size, 0, none⟩), .pointer (some ⟨w.heap.size + 1, 0, none⟩)] (enters_of Tryz.func78 (by kernel_rfl) rfl) _ W.heap.size W HP.out g cap (idsB L) w1 hrow (by rw [hidl]; exact hcap) (fun x hx => by
      obtain ⟨e, he, rfl⟩ := List.mem_map.1 hx
      exact (HF.out.1 e he).id) hb1 hg hlt (by rw [hidl]; omega)
    rw [hidl, ids_found HF.out.2 (covD · dd)] at hdl
    unfold Deleted at hdl
    have HDL := Lib.hid hdl
    have HG := Lib.hid hg
    have k1 := cell_later hb1 k0
    clear hown hb1 hdl k0 hrow hh hcap hcm hcs ht hg hlt hidl
    go_wp2_with fail
    (with_reducible refine HDL.out.mono ?_)
    rintro e2 w2 ⟨v2, rfl, hr2, hb2⟩
    go_wp2
    go_ret
    have hs := HB.out.size
    have hg2 := HG.out
    exact ⟨_, rfl, hr2, (HB.out.trans (HB1.out.mono HB.out.size)).trans (hb2.mono (by omega))⟩
end Bk
end Go.Proofs.YtkhkhbeolhhomaaGreatDoor
