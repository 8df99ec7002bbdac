/- The document's ApplyOf, of any changes. -/
import Derived.Test.YtghkalamlcfnnaaGreatDoorQRAp
import Derived.Test.YtghkalamlcfnnaaGreatDoorQRefFault
namespace Go.Proofs.YtghkalamlcfnnaaGreatDoor
open Go Go.RowKit Go.Shelf Lmd
attribute [local go_sem] Oper.semAt_some
namespace Rd
open Evt Bk Df Tp Rul Day Cand Er
theorem res_ap {W : World} {b c : Nat} {v n1 n2 : Value} {tmps : Array Value} (h : W.heap[b]? = some (.cells #[v] 27 (0, 0))) (hc : W.heap[c]? = some (.cells #[n1, n2] 64 (0, 0))) (h2 : tmps.getD 4 undef = .pointer (some ⟨b, 0, none⟩)) (h3 : tmps.getD 5 undef = .pointer (some ⟨c, 0, none⟩)) :
    (results Tryz.f24 tmps).run Tryz.prog W = .ok (.tuple #[.agg #[v], .agg #[n1, n2]]) W := by
  obtain ⟨q0, -⟩ := cell1r h
  obtain ⟨q1, q2, -⟩ := Rp.cells2 hc
  have h2' : tmps[4]?.getD undef = .pointer (some ⟨b, 0, none⟩) := by simpa using h2
  have h3' : tmps[5]?.getD undef = .pointer (some ⟨c, 0, none⟩) := by simpa using h3
  simp [results, Tryz.f24, go_sem, h2', h3', q0, q1, q2]
def RApP (w : World) (L : List Ev) (cs : List Chg) (r : Ending) (w' : World) : Prop :=
  Below w.heap.size w w' ∧ (if (apL 0 L cs).1 = 0 then ∃ v' ys', r = .returned (.tuple #[.agg #[v'], .agg #[.int .i64 0, .int .i64 (-1)]]) ∧ RM w' v' ys' (apL 0 L cs).2.2
    else r = .returned (.tuple #[.agg #[.slice none 0 0], .agg #[.int .i64 ((apL 0 L cs).1 : Nat), .int .i64 ((apL 0 L cs).2.1 : Nat)]]))
theorem apo_bad {w W : World} {L0 L : List Ev} {cs : List Chg} {q k : Nat} {n m : Int} (h : apL 0 L0 cs = (q + 1, k, L)) (hn : ((q + 1 : Nat) : Int) = n) (hm : (k : Int) = m) (hb : Below w.heap.size w W) :
    RApP w L0 cs (.returned (.tuple #[.agg #[.slice none 0 0], .agg #[.int .i64 n, .int .i64 m]])) W := by
  refine ⟨hb, ?_⟩
  rw [h, if_neg (by simp), ← hn, ← hm]
theorem apo_good {w W : World} {L0 L : List Ev} {cs : List Chg} {k : Nat} {v : Value} {ys : List EvV} (h : apL 0 L0 cs = (0, k, L)) (hr : RM W v ys L) (hb : Below w.heap.size w W) :
    RApP w L0 cs (.returned (.tuple #[.agg #[v], .agg #[.int .i64 0, .int .i64 (-1)]])) W := by
  refine ⟨hb, ?_⟩
  rw [h, if_pos rfl]
  exact ⟨v, ys, rfl, hr⟩
theorem ereads_fault {W : World} {v : Value} {ys : List EvV} {k : Nat} {t : TypeId} {c0 c1 : Int} (h : EReads W v ys) (hk : W.heap[k]? = some (.cells #[.int .i64 c0, .int .i64 c1] t)) (ho : ∀ y ∈ ys, OffE k y) (i : Nat) (u : Value) : EReads (W.setCell ⟨k, i, none⟩ u) v ys := by
  rcases h with h | ⟨b, off, c, rfl, hc⟩
  · exact .inl h
  · refine .inr ⟨b, off, c, rfl, fun j hj => ?_⟩
    obtain ⟨h1, h2⟩ := hc j hj
    have hne : b ≠ k := by
      rintro rfl
      have h3 := h1.k0
      simp only [World.cell?, hk] at h3
      match hx : off + j * 11, h3 with
      | 0, h3 => simp at h3
      | 1, h3 => simp at h3
      | q + 2, h3 => simp at h3
    have hcell : ∀ o x, W.cell? ⟨b, o, none⟩ = some x → (W.setCell ⟨k, i, none⟩ u).cell? ⟨b, o, none⟩ = some x := fun o x hx => by
      rw [← hx]
      simp only [World.cell?, Below.heap_setCell _ _ _ _ (show b ≠ (⟨k, i, none⟩ : Addr).block from hne)]
    obtain ⟨o1, o2, o3⟩ := ho _ (el_mem hj)
    refine ⟨⟨hcell _ _ h1.k0, hcell _ _ h1.k1, hcell _ _ h1.k2, hcell _ _ h1.k3, hcell _ _ h1.k4, hcell _ _ h1.k5, hcell _ _ h1.k6, hcell _ _ h1.k7, hcell _ _ h1.k8, hcell _ _ h1.k9, hcell _ _ h1.k10⟩, ?_⟩
    exact off_far ((Far.refl (fun j => j = k) W).set (p := ⟨k, i, none⟩) rfl u) h2 o1 o2 o3
theorem RM.fault {W : World} {v : Value} {ys : List EvV} {L : List Ev} {k : Nat} {t : TypeId} {c0 c1 : Int} (h : RM W v ys L) (hk : W.heap[k]? = some (.cells #[.int .i64 c0, .int .i64 c1] t)) (ho : ∀ y ∈ ys, OffE k y) (i : Nat) (u : Value) : RM (W.setCell ⟨k, i, none⟩ u) v ys L :=
  ⟨ereads_fault h.model hk ho i u, h.same, h.good, h.fit⟩
theorem rows3 {W : World} {A : Nat} {v0 x0 x1 : Value} (h1 : W.heap[A]? = some (.cells #[v0] 27 (0, 0))) (h2 : W.heap[A + 1]? = some (.cells #[x0, x1] 64 (0, 0))) (v c0 c1 : Value) {B : Nat} {w : World} (hb : Below B w W) (hB : B ≤ A) :
    (((W.setCell ⟨A, 0, none⟩ v).setCell ⟨A + 1, 0, none⟩ c0).setCell ⟨A + 1, 1, none⟩ c1).heap[A]? = some (.cells #[v] 27 (0, 0)) ∧
    (((W.setCell ⟨A, 0, none⟩ v).setCell ⟨A + 1, 0, none⟩ c0).setCell ⟨A + 1, 1, none⟩ c1).heap[A + 1]? = some (.cells #[c0, c1] 64 (0, 0)) ∧
    Below B w (((W.setCell ⟨A, 0, none⟩ v).setCell ⟨A + 1, 0, none⟩ c0).setCell ⟨A + 1, 1, none⟩ c1) := by
  refine ⟨?_, ?_, ?_⟩
  · rw [Below.heap_setCell _ _ _ _ (by show A ≠ A + 1; omega), Below.heap_setCell _ _ _ _ (by show A ≠ A + 1; omega)]
    exact row_set h1 0 v
  · have e : (W.setCell ⟨A, 0, none⟩ v).heap[A + 1]? = some (.cells #[x0, x1] 64 (0, 0)) := by
      rw [Below.heap_setCell _ _ _ _ (by show A + 1 ≠ A; omega)]; exact h2
    exact row_set (row_set e 0 c0) 1 c1
  · exact ((hb.setCell (p := ⟨A, 0, none⟩) hB v).setCell (p := ⟨A + 1, 0, none⟩) (by show B ≤ A + 1; omega) c0).setCell (p := ⟨A + 1, 1, none⟩) (by show B ≤ A + 1; omega) c1
theorem rows3b {W : World} {A : Nat} {v0 x0 x1 : Value} (h1 : W.heap[A]? = some (.cells #[v0] 27 (0, 0))) (h2 : W.heap[A + 1]? = some (.cells #[x0, x1] 64 (0, 0))) (v c0 c1 : Value) {B : Nat} {w : World} (hb : Below B w W) (hB : B ≤ A) :
    (((W.setCell ⟨A + 1, 0, none⟩ c0).setCell ⟨A + 1, 1, none⟩ c1).setCell ⟨A, 0, none⟩ v).heap[A]? = some (.cells #[v] 27 (0, 0)) ∧
    (((W.setCell ⟨A + 1, 0, none⟩ c0).setCell ⟨A + 1, 1, none⟩ c1).setCell ⟨A, 0, none⟩ v).heap[A + 1]? = some (.cells #[c0, c1] 64 (0, 0)) ∧
    Below B w (((W.setCell ⟨A + 1, 0, none⟩ c0).setCell ⟨A + 1, 1, none⟩ c1).setCell ⟨A, 0, none⟩ v) := by
  refine ⟨?_, ?_, ?_⟩
  · have e : ((W.setCell ⟨A + 1, 0, none⟩ c0).setCell ⟨A + 1, 1, none⟩ c1).heap[A]? = some (.cells #[v0] 27 (0, 0)) := by
      rw [Below.heap_setCell _ _ _ _ (by show A ≠ A + 1; omega), Below.heap_setCell _ _ _ _ (by show A ≠ A + 1; omega)]; exact h1
    exact row_set e 0 v
  · rw [Below.heap_setCell _ _ _ _ (by show A + 1 ≠ A; omega)]
    exact row_set (row_set h2 0 c0) 1 c1
  · exact ((hb.setCell (p := ⟨A + 1, 0, none⟩) (by show B ≤ A + 1; omega) c0).setCell (p := ⟨A + 1, 1, none⟩) (by show B ≤ A + 1; omega) c1).setCell (p := ⟨A, 0, none⟩) hB v
theorem RM.fault2 {W : World} {v : Value} {ys : List EvV} {L : List Ev} {k : Nat} {t : TypeId} {c0 c1 : Int} (h : RM W v ys L) (hk : W.heap[k]? = some (.cells #[.int .i64 c0, .int .i64 c1] t)) (ho : ∀ y ∈ ys, OffE k y) (d0 d1 : Int) : RM ((W.setCell ⟨k, 0, none⟩ (.int .i64 d0)).setCell ⟨k, 1, none⟩ (.int .i64 d1)) v ys L :=
  (h.fault hk ho 0 _).fault (c0 := d0) (c1 := c1) (row_set hk 0 _) ho 1 _
theorem fin_a {W : World} {A : Nat} {v x : Value} {ys : List EvV} {L : List Ev} {t : TypeId} (h : RM W v ys L) (h1 : W.heap[A]? = some (.cells #[.slice none 0 0] 27 (0, 0))) (h2 : W.heap[A + 1]? = some (.cells #[.int .i64 0, .int .i64 0] t)) (ho : ∀ y ∈ ys, OffE (A + 1) y) (d0 d1 : Int) :
    RM (((W.setCell ⟨A, 0, none⟩ x).setCell ⟨A + 1, 0, none⟩ (.int .i64 d0)).setCell ⟨A + 1, 1, none⟩ (.int .i64 d1)) v ys L :=
  (h.boxS ⟨_, _, _, _, h1⟩ (far_set _ _ _)).fault2 ((Below.heap_setCell _ _ _ _ (by show A + 1 ≠ A; omega)).trans h2) ho d0 d1
theorem fin_b {W : World} {A : Nat} {v x : Value} {ys : List EvV} {L : List Ev} {t : TypeId} (h : RM W v ys L) (h1 : W.heap[A]? = some (.cells #[.slice none 0 0] 27 (0, 0))) (h2 : W.heap[A + 1]? = some (.cells #[.int .i64 0, .int .i64 0] t)) (ho : ∀ y ∈ ys, OffE (A + 1) y) (d0 d1 : Int) :
    RM (((W.setCell ⟨A + 1, 0, none⟩ (.int .i64 d0)).setCell ⟨A + 1, 1, none⟩ (.int .i64 d1)).setCell ⟨A, 0, none⟩ x) v ys L :=
  (h.fault2 h2 ho d0 d1).boxS ⟨_, _, _, _, (Below.heap_setCell _ _ _ _ (by show A ≠ A + 1; omega)).trans ((Below.heap_setCell _ _ _ _ (by show A ≠ A + 1; omega)).trans h1)⟩ (far_set _ _ _)
structure AoAt (w : World) (p k : Nat) (L0 : List Ev) (cs : List Chg) (v : Value) (ys : List EvV) (L : List Ev) (W : World) : Prop where
  rel : apL 0 L0 cs = apL k L (cs.drop k)
  low : Below w.heap.size w W
  rm : RM W v ys L
  off : ∀ y ∈ ys, OffE (p + 2) y
  x1 : W.heap[p + 1]? = some (.cells #[.slice none 0 0] 27 (0, 0))
  x2 : W.heap[p + 2]? = some (.cells #[.int .i64 0, .int .i64 0] 64 (0, 0))
  x3 : W.heap[p + 3]? = some (.cells #[v] 27 (0, 0))
def AoB (w0 : World) (p : Nat) (ys : List EvV) (L : List Ev) (q : Nat) (s8 s9 : Value) (W : World) : Prop :=
  ∃ (b : Nat) (a : Option Addr) (c : Nat) (ys' : List EvV), s8 = .pointer (some ⟨b, 0, none⟩) ∧ s9 = .int .i64 (q : Int) ∧ W.heap[b]? = some (.cells #[.slice a ys'.length c] 27 (0, 0)) ∧ RM W (.slice a ys'.length c) ys' L ∧ Below w0.heap.size w0 W ∧ ((∀ y ∈ ys, OffE (p + 2) y) → ∀ y ∈ ys', OffE (p + 2) y)
set_option maxRecDepth 100000 in
set_option maxHeartbeats 16000000 in
theorem applyOf_any (w : World) (v : Value) (ys : List EvV) (L0 : List Ev) (cs : List Chg) (vc : Value) (h : RM w v ys L0) (hc : CReads w vc cs) (hcl : cs.length ≤ 100000) (hcs : ∀ c ∈ cs, c.new.size ≤ 30000) :
    Calls Tryz.prog 24 #[.agg #[v], vc] w (RApP w L0 cs) := by
  obtain ⟨a, cp, rfl⟩ := h.model.shape
  obtain ⟨ca, cc, rfl⟩ := hc.shape
  obtain ⟨n, hn⟩ : ∃ n, cs.length = n := ⟨_, rfl⟩
  obtain ⟨m, hm⟩ : ∃ m, ys.length = m := ⟨_, rfl⟩
  obtain ⟨p, hp⟩ : ∃ p, w.heap.size = p := ⟨_, rfl⟩
  rw [hn] at hc hcl ⊢
  rw [hm] at h ⊢
  have hoff0 : ∀ y ∈ ys, OffE (p + 2) y := by
    intro y hy
    obtain ⟨j, hj, rfl⟩ := mem_elV.1 hy
    obtain ⟨-, b, o, -, hcc⟩ := h.model.at (by intro h; rw [h] at hj; exact absurd hj (Nat.not_lt_zero _))
    have hr := (hcc j hj).2
    exact ⟨off_reads hr.d (by omega), off_reads hr.s (by omega), off_mreads hr.m (by omega)⟩
  obtain ⟨W, hW⟩ : ∃ W, ((w.alloc (.cells #[.slice a m cp] 27)).alloc (.cells #[.slice none 0 0] 27)).alloc (.cells #[.int .i64 0, .int .i64 0] 64) = W := ⟨_, rfl⟩
  have hB : Below w.heap.size w W := by rw [← hW]; exact (((Below.refl _ w).alloc (Nat.le_refl _) _).alloc (by simp) _).alloc (by simp; omega) _
  have hx0 : W.heap[p]? = some (.cells #[.slice a m cp] 27) := by rw [← hW, ← hp]; exact (Below.heap_alloc _ _ _ (by simp; omega)).trans ((Below.heap_alloc _ _ _ (by simp)).trans (heap_new w _))
  have hx1 : W.heap[p + 1]? = some (.cells #[.slice none 0 0] 27) := by
    rw [← hW, ← hp]
    refine (Below.heap_alloc _ _ _ (by simp)).trans ?_
    have h := heap_new (w.alloc (.cells #[.slice a m cp] 27)) (.cells #[.slice none 0 0] 27)
    rwa [World.size_alloc] at h
  have hx2 : W.heap[p + 2]? = some (.cells #[.int .i64 0, .int .i64 0] 64) := by
    rw [← hW, ← hp]
    have h := heap_new ((w.alloc (.cells #[.slice a m cp] 27)).alloc (.cells #[.slice none 0 0] 27)) (.cells #[.int .i64 0, .int .i64 0] 64)
    rwa [World.size_alloc, World.size_alloc] at h
  have hz : W.heap.size = p + 3 := by rw [← hW, ← hp]; simp
  obtain ⟨W2, hW2⟩ : ∃ W2, W.alloc (.cells #[.slice a m cp] 27) = W2 := ⟨_, rfl⟩
  have hb2 : Below W.heap.size W W2 := by rw [← hW2]; exact (Below.refl _ W).alloc (Nat.le_refl _) _
  have hx3 : W2.heap[p + 3]? = some (.cells #[.slice a m cp] 27) := by rw [← hW2, ← hz]; exact heap_new W _
  have HAT := Lib.hid (show AoAt w p 0 L0 cs (.slice a m cp) ys L0 W2 from ⟨rfl, hB.trans (hb2.mono hB.size), (h.below hB).below hb2, hoff0, row_below hx1 hb2, row_below hx2 hb2, hx3⟩)
  have HW := Lib.hid hW
  have HW2 := Lib.hid hW2
  have HZ := Lib.hid hz
  have HP := Lib.hid hp
  have HN := Lib.hid hn
  have HM := Lib.hid hm
  have HC := Lib.hid hc
  have HCS := Lib.hid hcs
  obtain ⟨y0, -⟩ := cell1r hx0
  clear hW hB hx0 hx1 hx2 hx3 hz hW2 hb2 h hc hcs hn hp hm hoff0
  go_enter Tryz.func24, Tryz.ntmps24
  go_upto_region 1 with fail
  rw [HW.out, HP.out]
  go_upto_region 2 with fail
  rw [HW2.out, HZ.out]
  clear y0
  go_wp2_with fail
  go_loopw [7, 8, 9] (fun i _ _ wr => ∃ (k m2 : Nat) (a2 : Option Addr) (c2 : Nat) (ys2 : List EvV) (L : List Ev), k ≤ n ∧ i = .int .i64 (k : Int) ∧ ys2.length = m2 ∧ AoAt w p k L0 cs (.slice a2 m2 c2) ys2 L wr) (fun i _ _ _ => n - (intOf i).toNat)
  case atStart => exact ⟨0, m, a, cp, ys, L0, Nat.zero_le _, rfl, HM.out, HAT.out⟩
  case round =>
    obtain ⟨k, m2, a2, c2, ys2, L, hk, rfl, hm2, hat⟩ := hrel
    have HAT2 := Lib.hid hat
    have HM2 := Lib.hid hm2
    clear hat hm2 HAT
    by_cases hlt : k < n
    · have hlc : k < cs.length := by rw [HN.out]; exact hlt
      have hdr := elc_drop hlc
      have hrel := HAT2.out.rel
      rw [hdr] at hrel
      have hns := HCS.out _ (elc_mem hlc)
      obtain ⟨-, b0, off, ea, hcc⟩ := (HC.out.below HAT2.out.low).at (by intro h; rw [h] at hlc; exact absurd hlc (Nat.not_lt_zero _))
      subst ea
      obtain ⟨c, hcx⟩ : ∃ c, elc cs k = c := ⟨_, rfl⟩
      have hch := fun W (hw : Below wr.heap.size wr W) => changeOf_any W _ ys2 L c (HAT2.out.rm.below hw) (hcx ▸ hns)
      unfold RChP at hch
      obtain ⟨q, hq⟩ : ∃ q, chK c L = q := ⟨_, rfl⟩
      simp only [hq] at hch
      rw [hcx] at hrel
      obtain ⟨id, fi, old, nw⟩ := c
      have hs := fun W (hw : Below wr.heap.size wr W) => (show W.cell? ⟨p + 3, 0, none⟩ = some (.slice a2 m2 c2) ∧ W.cell? ⟨b0, off + k * 4, none⟩ = some (.string id) ∧ W.cell? ⟨b0, off + k * 4 + 1, none⟩ = some (.string fi) ∧ W.cell? ⟨b0, off + k * 4 + 2, none⟩ = some (.string old) ∧ W.cell? ⟨b0, off + k * 4 + 3, none⟩ = some (.string nw) from by
        have h4 := (hcc k hlc).below hw
        rw [hcx] at h4
        exact ⟨(cell1r (row_below HAT2.out.x3 hw)).1, h4.k0, h4.k1, h4.k2, h4.k3⟩)
      have HS := Lib.hid hs
      have HREL := Lib.hid hrel
      have HQ := Lib.hid hq
      have HCH := Lib.hid hch
      have hk1 : k ≤ 100000 := by omega
      have hps : p + 2 < wr.heap.size := Nat.lt_of_succ_lt (Array.getElem?_eq_some_iff.1 HAT2.out.x3).1
      have HPS := Lib.hid hps
      have hda : Below wr.heap.size wr (wr.alloc (.cells #[.slice none 0 0] 27)) := (Below.refl _ _).alloc (Nat.le_refl _) _
      have HACC0 := Lib.hid hda
      have HACC := Lib.hid (show Below wr.heap.size wr (wr.alloc (.cells #[.slice none 0 0] 27)).drew from below_draw hda 1)
      have HZN := Lib.hid (show (wr.alloc (.cells #[.slice none 0 0] 27)).drew.heap[wr.heap.size]? = some (.cells #[.slice none 0 0] 27) from heap_new wr _)
      have hacc : Below wr.heap.size wr wr.drew := below_draw (Below.refl _ _) 1
      clear hdr hrel hcc hcx hch hq hns hs hda hps hlc
      go_upto_region 5 with fail
      go_cut [8, 9] from 11 to 32 (fun s8 s9 wc => AoB wr p ys2 (chL ⟨id, fi, old, nw⟩ L) q s8 s9 wc)
      case first =>
        go_region_held3 (fun W => W.cell? ⟨p + 3, 0, none⟩ = some (.slice a2 m2 c2) ∧ W.cell? ⟨b0, off + k * 4, none⟩ = some (.string id) ∧ W.cell? ⟨b0, off + k * 4 + 1, none⟩ = some (.string fi) ∧ W.cell? ⟨b0, off + k * 4 + 2, none⟩ = some (.string old) ∧ W.cell? ⟨b0, off + k * 4 + 3, none⟩ = some (.string nw))
          (first
            | with_reducible exact HS.out _ hacc
            | with_reducible exact HS.out _ HACC.out
            | with_reducible exact HS.out _ HACC0.out
            | with_reducible exact HS.out _ (hacc.alloc hacc.size _)
            | with_reducible exact HS.out _ (hacc.setCell (p := ⟨wr.heap.size, 0, none⟩) (Nat.le_refl _) _)
            | with_reducible exact HS.out _ ((hacc.alloc hacc.size _).setCell (p := ⟨w5.heap.size, 0, none⟩) hacc.size _))
          (first
            | ((with_reducible refine (HCH.out _ hacc).mono ?_)
               rintro e5 w5 ⟨hb5, v5, ys5, rfl, hr5, ho5⟩
               obtain ⟨a5, c5, rfl⟩ := hr5.model.shape
               replace hacc := hacc.trans (hb5.mono hacc.size))
            | ((with_reducible refine (HCH.out _ HACC.out).mono ?_)
               rintro e5 w5 ⟨hb5, v5, ys5, rfl, hr5, ho5⟩
               obtain ⟨a5, c5, rfl⟩ := hr5.model.shape
               have hz5 := row_below HZN.out hb5
               replace hacc := HACC.out.trans (hb5.mono HACC.out.size)
               obtain ⟨kz0, kz1⟩ := cell1r hz5))
        all_goals go_wp2_with fail
        all_goals go_meet
        all_goals (first
          | (have hzz5 := hz5
             exact ⟨wr.heap.size, _, _, ys5, rfl, rfl, row_set hz5 0 _, hr5.boxS ⟨_, _, _, _, hz5⟩ (far_set _ _ _), hacc.setCell (p := ⟨wr.heap.size, 0, none⟩) (Nat.le_refl _) _, fun h => ho5 (p + 2) (by have := HPS.out; simp; omega) h⟩)
          | (exact ⟨w5.heap.size, _, _, ys5, rfl, rfl, heap_new w5 _, hr5.below ((Below.refl _ _).alloc (Nat.le_refl _) _), hacc.alloc hacc.size _, fun h => ho5 (p + 2) HPS.out h⟩)
          | (exact ⟨w5.heap.size, _, _, ys5, rfl, rfl, row_set (heap_new w5 _) 0 _, (hr5.below ((Below.refl _ _).alloc (Nat.le_refl _) _)).boxS ⟨_, _, _, _, heap_new w5 _⟩ (far_set _ _ _), (hacc.alloc hacc.size _).setCell (p := ⟨w5.heap.size, 0, none⟩) hacc.size _, fun h => ho5 (p + 2) HPS.out h⟩))
      case rest =>
        obtain ⟨b8, a8, c8, ys8, rfl, rfl, hrow8, hrm8, hb8, hof8⟩ := hcut
        have HROW8 := Lib.hid hrow8
        have HRM8 := Lib.hid hrm8
        have HB8 := Lib.hid hb8
        have HOF8 := Lib.hid hof8
        obtain ⟨m8, hm8⟩ : ∃ m, ys8.length = m := ⟨_, rfl⟩
        have HM8 := Lib.hid hm8
        rw [hm8] at hrow8 HROW8 HRM8
        obtain ⟨t0, -⟩ := cell1r hrow8
        obtain ⟨u0, u1⟩ := cell1r (row_below HAT2.out.x1 hb8)
        obtain ⟨f0, f1, f2, f3⟩ := Rp.cells2 (row_below HAT2.out.x2 hb8)
        obtain ⟨s0, s1⟩ := cell1r (row_below HAT2.out.x3 hb8)
        clear hacc HS HCH HACC HACC0 HZN hrow8 hrm8 hb8 hof8 hm8
        cases q with
        | succ q =>
          have hr : apL 0 L0 cs = (q + 1, k, L) := by
            rw [HREL.out]; unfold apL; rw [HQ.out, if_pos (by simp)]
          obtain ⟨nn, hnn⟩ : ∃ n : Int, ((q + 1 : Nat) : Int) = n := ⟨_, rfl⟩
          have hn0 : 0 < nn := by omega
          have HNN := Lib.hid hnn
          have HR := Lib.hid hr
          rw [hnn]
          clear hnn hr
          go_wp2
          obtain ⟨r1, r2, r3⟩ := rows3 (row_below HAT2.out.x1 HB8.out) (row_below HAT2.out.x2 HB8.out) (.slice none 0 0) (.int .i64 nn) (.int .i64 (k : Int)) (HAT2.out.low.trans (HB8.out.mono HAT2.out.low.size)) (by rw [HP.out]; omega)
          refine bodyPost_ret (res_ap r1 r2 rfl rfl) rfl ?_
          exact apo_bad HR.out HNN.out rfl r3
        | zero =>
          go_wp2_with fail
          go_roundw
          case rel =>
            refine ⟨k + 1, m8, a8, c8, ys8, chL ⟨id, fi, old, nw⟩ L, by omega, by go_num, HM8.out, ?_, ?_, ?_, HOF8.out HAT2.out.off, ?_, ?_, ?_⟩
            · rw [HREL.out]
              show (if chK _ L ≠ 0 then _ else _) = _
              rw [HQ.out, if_neg (by simp)]
            · exact (HAT2.out.low.trans (HB8.out.mono HAT2.out.low.size)).setCell (p := ⟨p + 3, 0, none⟩) (by show w.heap.size ≤ p + 3; rw [HP.out]; omega) _
            · exact HRM8.out.boxS ⟨_, _, _, _, row_below HAT2.out.x3 HB8.out⟩ (far_set _ _ _)
            · rw [Below.heap_setCell _ _ _ _ (by show p + 1 ≠ p + 3; omega)]; exact row_below HAT2.out.x1 HB8.out
            · rw [Below.heap_setCell _ _ _ _ (by show p + 2 ≠ p + 3; omega)]; exact row_below HAT2.out.x2 HB8.out
            · exact row_set (row_below HAT2.out.x3 HB8.out) 0 _
          case measure => simp [intOf]; omega
    · obtain rfl : k = n := by omega
      have hfin : apL 0 L0 cs = (0, k, L) := by
        rw [HAT2.out.rel, List.drop_eq_nil_of_le (by rw [HN.out]; exact Nat.le_refl _)]; rfl
      have HFIN := Lib.hid hfin
      have HFINE := Lib.hid (fun W => Rp.fine_any W)
      have hd0 : Below wr.heap.size wr wr.drew := Tp.below_drew (Below.refl _ wr)
      have HX1 := Lib.hid (row_below HAT2.out.x1 hd0)
      have HX2 := Lib.hid (row_below HAT2.out.x2 hd0)
      have HRMD := Lib.hid (HAT2.out.rm.below hd0)
      have HLD := Lib.hid (HAT2.out.low.trans (hd0.mono HAT2.out.low.size))
      obtain ⟨s0, s1⟩ := cell1r HAT2.out.x3
      obtain ⟨u0, u1⟩ := cell1r HX1.out
      obtain ⟨f0, f1, f2, f3⟩ := Rp.cells2 HX2.out
      have HX3 := Lib.hid (row_below HAT2.out.x3 hd0)
      clear hfin hd0
      go_upto_region 9 with fail
      go_region_with (first
        | ((with_reducible refine (HFINE.out wr.drew).mono ?_)
           rintro e3 w3 ⟨rfl, hb3⟩
           obtain ⟨t0, -⟩ := cell1r (row_below HX3.out hb3)
           obtain ⟨v0, v1⟩ := cell1r (row_below HX1.out hb3)
           obtain ⟨g0, g1, g2, g3⟩ := Rp.cells2 (row_below HX2.out hb3)
           have HB3 := Lib.hid hb3
           clear hb3)
        | ((with_reducible refine (HFINE.out (wr.drew.setCell ⟨p + 1, 0, none⟩ (.slice a2 m2 c2))).mono ?_)
           rintro e3 w3 ⟨rfl, hb3⟩
           obtain ⟨g0, g1, g2, g3⟩ := Rp.cells2 (row_below ((Below.heap_setCell _ _ _ _ (by show p + 2 ≠ p + 1; omega)).trans HX2.out) hb3)
           have HB3 := Lib.hid hb3
           clear hb3))
      all_goals (
        go_wp2
        have hBA : w.heap.size ≤ p + 1 := by rw [HP.out]; omega
        first
          | (obtain ⟨r1, r2, r3⟩ := rows3 (row_below HX1.out HB3.out) (row_below HX2.out HB3.out) (.slice a2 m2 c2) (.int .i64 0) (.int .i64 (-1)) (HLD.out.trans (HB3.out.mono HLD.out.size)) hBA
             refine bodyPost_ret (res_ap r1 r2 rfl rfl) rfl ?_
             exact apo_good HFIN.out (fin_a (HRMD.out.below HB3.out) (row_below HX1.out HB3.out) (row_below HX2.out HB3.out) HAT2.out.off 0 (-1)) r3)
          | (obtain ⟨r1, r2, r3⟩ := rows3b (row_below HX1.out HB3.out) (row_below HX2.out HB3.out) (.slice a2 m2 c2) (.int .i64 0) (.int .i64 (-1)) (HLD.out.trans (HB3.out.mono HLD.out.size)) hBA
             refine bodyPost_ret (res_ap r1 r2 rfl rfl) rfl ?_
             exact apo_good HFIN.out (fin_b (HRMD.out.below HB3.out) (row_below HX1.out HB3.out) (row_below HX2.out HB3.out) HAT2.out.off 0 (-1)) r3))
end Rd
end Go.Proofs.YtghkalamlcfnnaaGreatDoor
