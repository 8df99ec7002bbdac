/- The law's AsBook: a book has what its model has. -/
import Derived.Test.YtenmeaoagepfnaaGreatDoorA16
import Derived.Test.YtenmeaoagepfnaaGreatDoorBkRIds
namespace Go.Proofs.YtenmeaoagepfnaaGreatDoor
open Go Go.RowKit Go.Shelf Lmd
attribute [local go_sem] Oper.semAt_some
namespace Bk
open Evt Tp Rul Day Cand Er

theorem textB_len : ∀ {L : List Ev}, (∀ e ∈ L, badE e = 0) → (textB L).length ≤ L.length * 8001
  | [], _ => Nat.zero_le _
  | e :: t, h => by
    have h1 := text_short (h e (List.mem_cons_self ..))
    have h2 := textB_len (L := t) fun x hx => h x (List.mem_cons_of_mem _ hx)
    show (textE e ++ [10] ++ textB t).length ≤ _
    rw [List.length_append, List.length_append, List.length_cons]
    simp only [List.length_cons, List.length_nil]; omega
theorem Book.textLe {w : World} {B b m : Nat} {L : List Ev} (h : Book w B b m L) (k : Nat) : (textB (L.take k)).length ≤ 100000000 := by
  have h1 := textB_len (L := L.take k) fun e he => h.good e (List.mem_of_mem_take he)
  have h2 := h.few
  have h3 : (L.take k).length ≤ L.length := by rw [List.length_take]; omega
  omega
set_option maxRecDepth 100000 in
set_option maxHeartbeats 8000000 in
theorem asBook_any (w : World) (B b m : Nat) (L : List Ev) (v : Value) (ys : List EvV) (er : Nat → Addr) (hT : Tb w er) (h : Book w B b m L) (hr : EReads w v ys) (hs : ys.map (·.e) = L) :
    Calls Tryz.prog 24 #[.pointer (some ⟨b, 0, none⟩), .agg #[v]] w fun r w' => r = .returned (.int .i64 1) ∧ Below w.heap.size w w' := by
  obtain ⟨va, vc, rfl⟩ := hr.shape
  obtain ⟨W, hW⟩ : ∃ W, w.alloc (.cells #[.slice va ys.length vc] 29) = W := ⟨_, rfl⟩
  have hB : Below w.heap.size w W := by rw [← hW]; exact (Below.refl _ w).alloc (Nat.le_refl _) _
  have hx : W.heap[w.heap.size]? = some (.cells #[.slice va ys.length vc] 29) := by rw [← hW]; exact heap_new w _
  have hyl : ys.length ≤ 1000 := by
    have := h.few
    rw [← hs, List.length_map] at this; omega
  have hyg : ∀ x ∈ ys, badE x.e = 0 := fun x hx => h.good x.e (by rw [← hs]; exact List.mem_map.2 ⟨x, hx, rfl⟩)
  have hyz : ∀ x ∈ ys, Size x.e := fun x hx => h.fit x.e (by rw [← hs]; exact List.mem_map.2 ⟨x, hx, rfl⟩)
  have hyt : ∀ k, (textB ((ys.take k).map (·.e))).length ≤ 100000000 := fun k => by rw [List.map_take, hs]; exact h.textLe k
  have hids : idsV ys = idsB L := by unfold idsV; rw [hs]
  have hi := fun W' (hw : Below W.heap.size W W') => ids_any W' B b m L ((h.below hB).below hw)
  have hri := fun W' (hw : Below W.heap.size W W') => rids_any ys (.slice va ys.length vc) W' ((hr.below hB).below hw) hyl
  have htx := fun W' (hw : Below W.heap.size W W') => text_any W' B b m L er ((hT.below hB).below hw) ((h.below hB).below hw) h.textLe
  have hrt := fun W' (hw : Below W.heap.size W W') => rtext_any ys (.slice va ys.length vc) W' ((hr.below hB).below hw) hyl hyg hyz hyt
  simp only [hids] at hri
  simp only [hs] at hrt
  have hfew := h.few
  have hS := fun W' (hw : Below W.heap.size W W') => cell1 (row_below hx hw)
  have HI := Lib.hid hi
  have HRI := Lib.hid hri
  have HTX := Lib.hid htx
  have HRT := Lib.hid hrt
  have HW := Lib.hid hW
  have HB := Lib.hid hB
  have HS := Lib.hid hS
  have k0 := cell1 hx
  obtain ⟨T, hTT⟩ : ∃ T, textB L = T := ⟨_, rfl⟩
  rw [hTT] at HTX HRT
  clear hT h hr hs hW hB hx hyg hyz hyt hids hi hri htx hrt hS hTT hyl
  go_enter Tryz.func24, Tryz.ntmps24
  go_upto_region 1 with fail
  rw [HW.out]
  have hacc : Below W.heap.size W W.drew := Tp.below_drew (Below.refl _ W)
  go_upto_region 3 with fail
  go_region_with (first
    | ((with_reducible refine (HI.out _ hacc).mono ?_)
       rintro e1 w1 ⟨v1, rfl, ho1, hb1⟩
       obtain ⟨a1, c1, rfl⟩ := Evt.own_at ho1
       have hr1 : Tx.Rd w1 (.slice a1 L.length c1) (idsB L) := Tx.rd_own ho1 (ids_len L).symm
       replace hacc := hacc.trans (hb1.mono hacc.size)
       have k1 := HS.out _ hacc
       clear ho1 hb1)
    | ((with_reducible refine (HRI.out _ hacc).mono ?_)
       rintro e2 w2 ⟨v2, rfl, hr2, hb2⟩
       obtain ⟨a2, c2, rfl⟩ := hr2.shape
       have hst := Tx.sameTexts_any w2 _ _ _ _ (hr1.below hb2) hr2 (by rw [ids_len]; omega) (by rw [ids_len]; omega)
       rw [decide_eq_true rfl] at hst
       have HST := Lib.hid hst
       replace hacc := hacc.trans (hb2.mono hacc.size)
       have k2 := HS.out _ hacc
       clear hr1 hr2 hb2 hst)
    | ((with_reducible refine HST.out.mono ?_)
       rintro e3 w3 ⟨rfl, q3, rfl⟩
       replace hacc := below_draw hacc q3
       have k3 := HS.out _ hacc)
    | ((with_reducible refine (HTX.out _ hacc).mono ?_)
       rintro e4 w4 ⟨rfl, hb4⟩
       replace hacc := hacc.trans (hb4.mono hacc.size)
       have k4 := HS.out _ hacc
       clear hb4)
    | ((with_reducible refine (HRT.out _ hacc).mono ?_)
       rintro e5 w5 ⟨rfl, hb5⟩
       replace hacc := hacc.trans (hb5.mono hacc.size)
       clear hb5))
  all_goals (
    have HACC := Lib.hid (HB.out.trans (hacc.mono HB.out.size))
    clear hacc
    go_wp2
    go_ret
    exact ⟨rfl, HACC.out⟩)
end Bk
end Go.Proofs.YtenmeaoagepfnaaGreatDoor
