/- The document's calendars: TextOf, AllIDs. -/
import Derived.Test.YtghkalamlcfnnaaGreatDoorQD5
import Derived.Test.YtghkalamlcfnnaaGreatDoorQC3
import Derived.Test.YtghkalamlcfnnaaGreatDoorQMgL
import Derived.Deep.CutRange
namespace Go.Proofs.YtghkalamlcfnnaaGreatDoor
open Go Go.RowKit Go.Shelf Lmd
attribute [local go_sem] Oper.semAt_some
namespace Rd
open Evt Bk Df Tp Rul Day Cand Er
open Txs (kids)
structure RM (w : World) (v : Value) (ys : List EvV) (L : List Ev) : Prop where
  model : EReads w v ys
  same : ys.map (·.e) = L
  good : Df.Good L
  fit : ∀ e ∈ L, Size e
theorem RM.below {w w' : World} {v : Value} {ys : List EvV} {L : List Ev} (h : RM w v ys L) (hb : Below w.heap.size w w') : RM w' v ys L := ⟨h.model.below hb, h.same, h.good, h.fit⟩
theorem RM.len {w : World} {v : Value} {ys : List EvV} {L : List Ev} (h : RM w v ys L) : ys.length = L.length := by rw [← h.same, List.length_map]
theorem RM.few {w : World} {v : Value} {ys : List EvV} {L : List Ev} (h : RM w v ys L) : ys.length ≤ 60 := by rw [h.len]; exact h.good.few
theorem RM.el {w : World} {v : Value} {ys : List EvV} {L : List Ev} (h : RM w v ys L) {j : Nat} (hj : j < ys.length) : (el ys j).e ∈ L := by
  rw [← h.same]; exact List.mem_map.2 ⟨_, el_mem hj, rfl⟩
theorem found_asc {L : List Ev} (ha : Asc L) {e : Ev} (he : e ∈ L) : foundE (key e) L = e := by
  have h : evAt (key e) L = some e := (at_mem ha).2 ⟨he, rfl⟩
  exact (found_at h).1
theorem FoundAt.at {w : World} {v : Value} {ys : List EvV} {L : List Ev} (h : RM w v ys L) {k : List UInt8} {n : Int} (hf : FoundAt ys k n) :
    (n = -1 ∧ hasK k L = false) ∨ ∃ j : Nat, j < ys.length ∧ n = (j : Int) ∧ hasK k L = true ∧ (el ys j).e = foundE k L := by
  have h1 := hf.has
  rw [h.same] at h1
  rcases hf with ⟨rfl, _⟩ | ⟨j, hj, rfl, hk⟩
  · exact .inl ⟨rfl, by rw [h1]; exact decide_eq_false (by omega)⟩
  · refine .inr ⟨j, hj, rfl, by rw [h1]; exact decide_eq_true (by omega), ?_⟩
    rw [← hk]
    exact (found_asc h.good.asc (h.el hj)).symm
set_option maxRecDepth 100000 in
set_option maxHeartbeats 4000000 in
theorem textOf_any (w : World) (v : Value) (ys : List EvV) (L : List Ev) (id : ByteArray) (h : RM w v ys L) :
    Calls Tryz.prog 48 #[.agg #[v], .string id] w fun r w' => r = .returned (.string (Mg.txt id.data.toList L)) ∧ Below w.heap.size w w' := by
  have hfew := h.few
  obtain ⟨a, c, rfl⟩ := h.model.shape
  obtain ⟨W, hW⟩ : ∃ W, w.alloc (.cells #[.slice a ys.length c] 27) = W := ⟨_, rfl⟩
  have hB : Below w.heap.size w W := by rw [← hW]; exact (Below.refl _ w).alloc (Nat.le_refl _) _
  have hx : W.heap[w.heap.size]? = some (.cells #[.slice a ys.length c] 27) := by rw [← hW]; exact heap_new w _
  obtain ⟨n, hn⟩ : ∃ n, ys.length = n := ⟨_, rfl⟩
  rw [hn] at hx hW ⊢
  have hrm := h.below hB
  rw [hn] at hrm
  have HF := Lib.hid (rfind_any ys _ id W hrm.model (by omega))
  obtain ⟨k0, -⟩ := cell1r hx
  have HW := Lib.hid hW
  have HB := Lib.hid hB
  have HX := Lib.hid hx
  have HM := Lib.hid hrm
  have HN := Lib.hid hn
  clear hW hB hx hrm h hn
  go_enter Tryz.func48, Tryz.ntmps48
  go_upto_region 1 with fail
  rw [HW.out]
  go_wp2_with fail
  (with_reducible refine HF.out.mono ?_)
  rintro e1 w1 ⟨q, rfl, hf, hb1⟩
  have HB1 := Lib.hid (HB.out.trans (hb1.mono HB.out.size))
  have hm1 := HM.out.below hb1
  have hx1 := row_below HX.out hb1
  obtain ⟨y0, -⟩ := cell1r hx1
  rcases FoundAt.at hm1 hf with ⟨rfl, hh⟩ | ⟨j, hj, rfl, hh, he⟩
  · have HH := Lib.hid hh
    clear hf hb1 hm1 hx1 hh k0
    go_wp2
    go_ret
    refine ⟨?_, HB1.out⟩
    unfold Mg.txt
    rw [if_neg (by rw [HH.out]; simp)]; rfl
  · obtain ⟨-, b, o, rfl, hc⟩ := hm1.model.at (by intro h; rw [h] at hj; exact absurd hj (Nat.not_lt_zero _))
    obtain ⟨⟨c0, c1, c2, c3, c4, c5, c6, c7, c8, c9, c10⟩, hrv⟩ := hc j hj
    have hfit := hm1.fit _ (hm1.el hj)
    have hbad := hm1.good.good _ (hm1.el hj)
    have hjn : j < n := by rw [← HN.out]; exact hj
    obtain ⟨x, hx0⟩ : ∃ x, el ys j = x := ⟨_, rfl⟩
    rw [hx0] at c0 c1 c2 c3 c4 c5 c6 c7 c8 c9 c10 hrv hfit hbad he
    obtain ⟨e, ud, us, um⟩ := x
    dsimp only at c0 c1 c2 c3 c4 c5 c6 c7 c8 c9 c10 hfit hbad he
    change Rv w1 e ud us um at hrv
    obtain ⟨a6, c6', rfl⟩ := hrv.d.shape
    obtain ⟨a9, c9', rfl⟩ := hrv.s.shape
    obtain ⟨a10, c10', rfl⟩ := hrv.m.shape
    have het := reventText_any e _ _ _ w1 hrv hfit
    rw [if_pos hbad] at het
    have htx : Mg.txt id.data.toList L = mk (textE e) := by unfold Mg.txt; rw [if_pos hh, ← he]
    have HTX := Lib.hid htx
    have HET := Lib.hid het
    clear hf hb1 hm1 hx1 hh k0 hc hrv hfit hbad he het htx hx0 hj
    go_wp2_with fail
    (with_reducible refine HET.out.mono ?_)
    rintro e2 w2 ⟨rfl, hb2⟩
    have HB2 := Lib.hid (HB1.out.trans (hb2.mono HB1.out.size))
    clear hb2
    go_wp2
    go_ret
    exact ⟨by rw [HTX.out]; rfl, HB2.out⟩
def withs (L M : List Ev) : List Ev := M.foldl (fun L e => withE e L) L
theorem withs_snoc (L M : List Ev) (e : Ev) : withs L (M ++ [e]) = withE e (withs L M) := by simp [withs, List.foldl_append]
theorem withs_asc {L : List Ev} (ha : Asc L) : ∀ M : List Ev, Asc (withs L M) := by
  intro M
  induction M generalizing L with
  | nil => exact ha
  | cons e t ih => exact ih (asc_withE ha)
theorem withs_has {k : List UInt8} : ∀ (M L : List Ev), hasK k (withs L M) = true ↔ hasK k L = true ∨ hasK k M = true
  | [], L => by simp [withs, hasK]
  | e :: t, L => by
    show hasK k (withs (withE e L) t) = true ↔ _
    rw [withs_has t (withE e L), hasK_withE]
    have : hasK k (e :: t) = (decide (key e = k) || hasK k t) := by simp [hasK]
    rw [this]
    simp only [Bool.or_eq_true, decide_eq_true_eq]
    constructor
    · rintro ((h | h) | h)
      · exact .inl h
      · exact .inr (.inl h.symm)
      · exact .inr (.inr h)
    · rintro (h | h | h)
      · exact .inl (.inl h)
      · exact .inl (.inr h.symm)
      · exact .inr h
theorem withs_len : ∀ (M L : List Ev), (withs L M).length ≤ L.length + M.length
  | [], L => Nat.le_refl _
  | e :: t, L => by
    have h1 := withs_len t (withE e L)
    have h2 : (withE e L).length ≤ L.length + 1 := by
      unfold withE
      have h3 : (without (key e) L).length ≤ L.length := List.length_filter_le _ _
      have h4 : ∀ (e : Ev) (L : List Ev), (put1 e L).length = L.length + 1 := by
        intro e L
        induction L with
        | nil => rfl
        | cons x t ih =>
          unfold put1
          split
          · rfl
          · simp only [List.length_cons, ih]
      rw [h4]; omega
    show (withs (withE e L) t).length ≤ _
    rw [List.length_cons]; omega
theorem kids_rise {L : List Ev} (ha : Asc L) : (kids L).Pairwise (· < ·) := by
  unfold kids
  exact List.pairwise_map.2 ha
theorem texts_ext {a b : List (List UInt8)} (ha : a.Pairwise (· < ·)) (hb : b.Pairwise (· < ·)) (h : ∀ x, x ∈ a ↔ x ∈ b) : a = b := by
  have n1 : a.Nodup := ha.imp fun {a b} (h : a < b) (e : a = b) => lt_irrefl _ (e ▸ h)
  have n2 : b.Nodup := hb.imp fun {a b} (h : a < b) (e : a = b) => lt_irrefl _ (e ▸ h)
  exact List.Perm.eq_of_pairwise (le := fun x y : List UInt8 => x < y) (fun _ _ _ _ h1 h2 => absurd (List.lt_trans h1 h2) (lt_irrefl _)) ha hb ((List.perm_ext_iff_of_nodup n1 n2).2 h)
theorem uniq_rise (l : List (List UInt8)) : (Lmd.Cps.uniq l).Pairwise (· < ·) := (Lmd.Cps.compact_rise (Lmd.Cps.sort_rise l)).1
theorem ids_withs {L M : List Ev} (ha : Asc L) : idsB (withs L M) = uniI L M := by
  have h1 : kids (withs L M) = uniK L M := texts_ext (kids_rise (withs_asc ha M)) (uniq_rise _) fun k => by rw [mem_kids, mem_uniK, withs_has]
  unfold uniI
  rw [← h1]
  unfold kids idsB
  rw [List.map_map]
  refine List.map_congr_left fun e _ => ?_
  show e.id = mk (Bk.key e)
  exact str_mk _
set_option maxRecDepth 100000 in
set_option maxHeartbeats 8000000 in
theorem allIDs_any (w : World) (v1 v2 : Value) (ys1 ys2 : List EvV) (L1 L2 : List Ev) (h1 : EReads w v1 ys1) (hs1 : ys1.map (·.e) = L1) (ha1 : Asc L1) (hl1 : L1.length ≤ 200) (h2 : EReads w v2 ys2) (hs2 : ys2.map (·.e) = L2) (hl2 : L2.length ≤ 200) :
    Calls Tryz.prog 46 #[.agg #[v1], .agg #[v2]] w fun r w' => ∃ v', r = .returned v' ∧ Tx.Rd w' v' (uniI L1 L2) ∧ Below w.heap.size w w' := by
  have hy1 : ys1.length = L1.length := by rw [← hs1, List.length_map]
  have hy2 : ys2.length = L2.length := by rw [← hs2, List.length_map]
  obtain ⟨a1, c1, rfl⟩ := h1.shape
  obtain ⟨a2, c2, rfl⟩ := h2.shape
  obtain ⟨n, hn⟩ : ∃ n, ys2.length = n := ⟨_, rfl⟩
  have HN := Lib.hid hn
  rw [hn] at h2 hy2 ⊢
  obtain ⟨p, hp⟩ : ∃ p, w.heap.size = p := ⟨_, rfl⟩
  obtain ⟨W, hW⟩ : ∃ W, (w.alloc (.cells #[.slice a1 ys1.length c1] 27)).alloc (.cells #[.slice a2 n c2] 27) = W := ⟨_, rfl⟩
  have hB : Below w.heap.size w W := by rw [← hW]; exact ((Below.refl _ w).alloc (Nat.le_refl _) _).alloc (by simp) _
  have hx0 : W.heap[p]? = some (.cells #[.slice a1 ys1.length c1] 27) := by rw [← hW, ← hp]; exact (Below.heap_alloc _ _ _ (by simp)).trans (heap_new w _)
  have hx1 : W.heap[p + 1]? = some (.cells #[.slice a2 n c2] 27) := by
    rw [← hW, ← hp]
    have h := heap_new (w.alloc (.cells #[.slice a1 ys1.length c1] 27)) (.cells #[.slice a2 n c2] 27)
    rwa [World.size_alloc] at h
  have hz : W.heap.size = p + 2 := by rw [← hW, ← hp]; simp
  obtain ⟨W2, hW2⟩ : ∃ W2, W.alloc (.cells #[.slice a1 ys1.length c1] 27) = W2 := ⟨_, rfl⟩
  have hb2 : Below W.heap.size W W2 := by rw [← hW2]; exact (Below.refl _ W).alloc (Nat.le_refl _) _
  have hx2 : W2.heap[p + 2]? = some (.cells #[.slice a1 ys1.length c1] 27) := by rw [← hW2, ← hz]; exact heap_new W _
  have HX2 := Lib.hid hx2
  have HY2 := Lib.hid (row_below hx1 hb2)
  have HB2 := Lib.hid (hB.trans (hb2.mono hB.size))
  have HE1 := Lib.hid ((h1.below hB).below hb2)
  have HE2 := Lib.hid ((h2.below hB).below hb2)
  have HS1 := Lib.hid hs1
  have HS2 := Lib.hid hs2
  have HP := Lib.hid hp
  have HZ := Lib.hid hz
  have HW := Lib.hid hW
  have HW2 := Lib.hid hW2
  have HA1 := Lib.hid ha1
  have HLL := Lib.hid (And.intro hl1 (And.intro hl2 (And.intro hy1 hy2)))
  obtain ⟨k0, -⟩ := cell1r hx0
  clear hW hB hx0 hx1 hW2 hb2 hx2 h1 h2 hs1 hs2 ha1 hl1 hl2 hy1 hy2 hn hp hz
  go_enter Tryz.func46, Tryz.ntmps46
  go_upto_region 1 with fail
  rw [HW.out, HP.out]
  go_upto_region 2 with fail
  rw [HW2.out, HZ.out]
  clear k0
  go_wp2_with fail
  go_loopw [6] (fun i wr => ∃ (k : Nat) (vz : Value) (zs : List EvV), k ≤ n ∧ i = .int .i64 (k : Int) ∧ EReads wr vz zs ∧ zs.map (·.e) = withs L1 (L2.take k) ∧ wr.heap[p + 2]? = some (.cells #[vz] 27) ∧ wr.heap[p + 1]? = some (.cells #[.slice a2 n c2] 27) ∧ Below w.heap.size w wr ∧ EReads wr (.slice a2 n c2) ys2) (fun i _ => n - (intOf i).toNat)
  case atStart => exact ⟨0, _, ys1, Nat.zero_le _, rfl, HE1.out, HS1.out, HX2.out, HY2.out, HB2.out, HE2.out⟩
  case round =>
    obtain ⟨k, vz, zs, hk, rfl, her, hsz, hbx, hby, hlow, he2⟩ := hrel
    obtain ⟨za, zc, rfl⟩ := her.shape
    obtain ⟨hl1, hl2, hy1, hy2⟩ := HLL.out
    have hzl : zs.length ≤ 400 := by
      have h1 := congrArg List.length hsz
      rw [List.length_map] at h1
      have h2 := withs_len (L2.take k) L1
      rw [List.length_take] at h2; omega
    have hn200 : n ≤ 200 := by omega
    obtain ⟨m, hm⟩ : ∃ m, zs.length = m := ⟨_, rfl⟩
    rw [hm] at hzl
    have HM := Lib.hid hm
    rw [hm] at her hbx
    obtain ⟨x0, x1⟩ := cell1r hbx
    obtain ⟨y0, -⟩ := cell1r hby
    have HER := Lib.hid her
    have HSZ := Lib.hid hsz
    have HBX := Lib.hid hbx
    have HBY := Lib.hid hby
    have HLOW := Lib.hid hlow
    have HE2' := Lib.hid he2
    clear hbx hby hlow her hsz hm hl1 hl2 hy1 hy2
    by_cases hlt : k < n
    · have hkl : k < ys2.length := by rw [HN.out]; exact hlt
      obtain ⟨-, b, o, rfl, hc⟩ := he2.at (by intro h; rw [h] at hkl; exact absurd hkl (Nat.not_lt_zero _))
      obtain ⟨⟨d0, d1, d2, d3, d4, d5, d6, d7, d8, d9, d10⟩, hrv⟩ := hc k hkl
      have htk : L2.take (k + 1) = L2.take k ++ [(el ys2 k).e] := by
        rw [← HS2.out, ← List.map_take, el_take_succ hkl, List.map_append, List.map_take]; rfl
      obtain ⟨x, hx0⟩ : ∃ x, el ys2 k = x := ⟨_, rfl⟩
      rw [hx0] at d0 d1 d2 d3 d4 d5 d6 d7 d8 d9 d10 hrv htk
      obtain ⟨e, ud, us, um⟩ := x
      dsimp only at d0 d1 d2 d3 d4 d5 d6 d7 d8 d9 d10 htk
      have hacc : Below wr.heap.size wr wr.drew := Tp.below_drew (Below.refl _ wr)
      have hwi := rwith_any zs (.slice za m zc) ⟨e, ud, us, um⟩ wr.drew (HER.out.below hacc) (hrv.below hacc) (by rw [HM.out]; omega)
      have HWI := Lib.hid hwi
      have HTK := Lib.hid htk
      change Rv wr e ud us um at hrv
      obtain ⟨a6, c6', rfl⟩ := hrv.d.shape
      obtain ⟨a9, c9', rfl⟩ := hrv.s.shape
      obtain ⟨a10, c10', rfl⟩ := hrv.m.shape
      clear he2 hc hrv htk hx0 hwi hkl
      go_upto_region 5 with fail
      go_region_with (
        (with_reducible refine HWI.out.mono ?_)
        rintro e4 w4 ⟨v4, rfl, her4, hb4⟩
        obtain ⟨a4, c4, rfl⟩ := her4.shape
        have HB4 := Lib.hid (hacc.trans (hb4.mono hacc.size))
        have HE4 := Lib.hid her4
        have hbx4 := row_below HBX.out HB4.out
        have HX4 := Lib.hid hbx4
        obtain ⟨z0, z1⟩ := cell1r hbx4
        clear hbx4 her4 hb4)
      all_goals (
        go_wp2_with fail
        go_roundw
        case rel =>
          have hkb : BoxS w4 (p + 2) := ⟨_, _, _, _, HX4.out⟩
          have hpp : w.heap.size ≤ p + 2 := by rw [HP.out]; omega
          refine ⟨k + 1, _, _, by omega, by go_num, HE4.out.boxS hkb (far_set _ _ _), ?_, row_set HX4.out 0 _, ?_, (HLOW.out.trans (HB4.out.mono HLOW.out.size)).setCell (p := ⟨p + 2, 0, none⟩) hpp _, (HE2'.out.below HB4.out).boxS hkb (far_set _ _ _)⟩
          · rw [gput1_map keyV (fun x : EvV => x.e) (fun _ => rfl), gwithout_map keyV (fun x : EvV => x.e) (fun _ => rfl), HSZ.out, HTK.out, withs_snoc]
            rfl
          · rw [Below.heap_setCell _ _ _ _ (by show p + 1 ≠ p + 2; omega)]; exact row_below HBY.out HB4.out
        case measure => simp [intOf]; omega)
    · obtain rfl : k = n := by omega
      have hall : L2.take k = L2 := List.take_of_length_le (by have := HLL.out; omega)
      have hid : idsV zs = uniI L1 L2 := by
        unfold idsV
        rw [HSZ.out, hall]
        exact ids_withs HA1.out
      have hri := rids_any zs _ wr HER.out (by rw [HM.out]; omega)
      rw [hid] at hri
      have HRI := Lib.hid hri
      clear hri hid hall he2
      go_wp2_with fail
      (with_reducible refine HRI.out.mono ?_)
      rintro e5 w5 ⟨v5, rfl, hrd5, hb5⟩
      have HR5 := Lib.hid hrd5
      have HB5 := Lib.hid (HLOW.out.trans (hb5.mono HLOW.out.size))
      clear hrd5 hb5
      go_wp2
      go_ret
      exact ⟨_, rfl, HR5.out, HB5.out⟩
end Rd
end Go.Proofs.YtghkalamlcfnnaaGreatDoor
