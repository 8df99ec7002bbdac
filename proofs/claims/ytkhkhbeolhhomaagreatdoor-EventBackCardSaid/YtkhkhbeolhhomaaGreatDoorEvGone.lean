/- package event: gone. -/
import Derived.Test.YtkhkhbeolhhomaaGreatDoorEvLists
import Derived.Test.YtkhkhbeolhhomaaGreatDoorEvDays
namespace Go.Proofs.YtkhkhbeolhhomaaGreatDoor
open Go Go.RowKit Go.Shelf Lmd
attribute [local go_sem] Oper.semAt_some
namespace Evt
open Rul Day Cand Er

set_option maxRecDepth 100000 in
set_option maxHeartbeats 2000000 in
theorem gone_any (e : Ev) (vd vs vm : Value) (d : Int) (w : World) (hr : Rv w e vd vs vm) (hl1 : e.sk.length ≤ 1000000) (hl2 : e.mv.length ≤ 1000000) :
    Calls Tryz.prog 90 #[.agg (e.cells vd vs vm), .int .i64 d] w fun r w' => r = .returned (.bool (goneB e d)) ∧ Below w.heap.size w w' := by
  obtain ⟨a9, c9, rfl⟩ := hr.s.shape
  obtain ⟨W, hW⟩ : ∃ W, w.alloc (.cells (e.cells vd (.slice a9 e.sk.length c9) vm) 38) = W := ⟨_, rfl⟩
  have hB : Below w.heap.size w W := by rw [← hW]; exact (Below.refl _ w).alloc (Nat.le_refl _) _
  have hx : W.heap[w.heap.size]? = some (.cells (e.cells vd (.slice a9 e.sk.length c9) vm) 38) := by rw [← hW]; exact heap_new w _
  have h1 := hasInt_any e.sk _ d W (hr.s.below hB) hl1
  have h2 := froms_any e vd (.slice a9 e.sk.length c9) vm W (hr.m.below hB) hl2
  have h3 := fun v W' (h : Ints.Reads W' v (froms e.mv)) => hasInt_any (froms e.mv) v d W' h (by rw [froms_len]; exact hl2)
  obtain ⟨q1, hq1⟩ : ∃ q, e.sk.contains d = q := ⟨_, rfl⟩
  obtain ⟨q2, hq2⟩ : ∃ q, (froms e.mv).contains d = q := ⟨_, rfl⟩
  obtain ⟨q, hq⟩ : ∃ q, goneB e d = q := ⟨_, rfl⟩
  have hq' : (q1 || q2) = q := by rw [← hq, ← hq1, ← hq2]; rfl
  rw [hq1] at h1
  rw [hq2] at h3
  rw [hq]
  obtain ⟨n9, hn9⟩ : ∃ n, e.sk.length = n := ⟨_, rfl⟩
  rw [hn9] at h1 h2 hx hW ⊢
  have H1 := Lib.hid h1
  have H2 := Lib.hid h2
  have H3 := Lib.hid h3
  have HQ := Lib.hid hq'
  have HB := Lib.hid hB
  have HW := Lib.hid hW
  have HX := Lib.hid hx
  clear hr hl1 hl2 hW hB hx h1 h2 h3 hq1 hq2 hq hq' hn9
  go_enter Tryz.func90, Tryz.ntmps90
  obtain ⟨k0, k1, k2, k3, k4, k5, k6, k7, k8, k9, k10⟩ := cells11 HX.out
  go_upto_region 1 with fail
  rw [HW.out]
  go_wp2_with fail
  (with_reducible refine H1.out.mono ?_)
  rintro e1 w1 ⟨rfl, rfl⟩
  cases q1 with
  | true =>
    go_wp2
    go_ret
    exact ⟨by rw [← HQ.out]; rfl, HB.out⟩
  | false =>
    go_wp2_with fail
    (with_reducible refine H2.out.mono ?_)
    rintro e2 w2 ⟨v2, rfl, hr2, hb2⟩
    have HR2 := Lib.hid hr2
    have HB2 := Lib.hid hb2
    clear hr2 hb2 k0 k1 k2 k3 k4 k5 k6 k7 k8 k9 k10
    go_wp2_with fail
    (with_reducible refine (H3.out _ _ HR2.out).mono ?_)
    rintro e3 w3 ⟨rfl, rfl⟩
    go_wp2
    go_ret
    exact ⟨by rw [← HQ.out]; cases q2 <;> rfl, HB.out.trans (HB2.out.mono HB.out.size)⟩
end Evt
end Go.Proofs.YtkhkhbeolhhomaaGreatDoor
