/- The document's changeOf, of any change. -/
import Derived.Test.YtghkalamlcfnnaaGreatDoorQRDfO
import Derived.Test.YtghkalamlcfnnaaGreatDoorQC4
import Derived.Test.YtghkalamlcfnnaaGreatDoorQRefSet
import Derived.BigQuiet
import Derived.Deep.RegionHeld3
import Derived.Deep.CutRange
import Derived.Deep.DeepCutAuto
namespace Go.Proofs.YtghkalamlcfnnaaGreatDoor
open Go Go.RowKit Go.Shelf Lmd
attribute [local go_sem] Oper.semAt_some
namespace Rd
open Evt Bk Df Tp Rul Day Cand Er
theorem res_ch {W : World} {b : Nat} {v n : Value} {tmps : Array Value} (h : W.heap[b]? = some (.cells #[v] 27 (0, 0))) (h2 : tmps.getD 4 undef = .pointer (some ⟨b, 0, none⟩)) (h3 : tmps.getD 5 undef = n) :
    (results Tryz.f61 tmps).run Tryz.prog W = .ok (.tuple #[.agg #[v], n]) W := by
  obtain ⟨q0, -⟩ := cell1r h
  have h2' : tmps[4]?.getD undef = .pointer (some ⟨b, 0, none⟩) := by simpa using h2
  have h3' : tmps[5]?.getD undef = n := by simpa using h3
  simp [results, Tryz.f61, go_sem, h2', h3', q0]
def OffE (k : Nat) (y : EvV) : Prop := Off k y.vd ∧ Off k y.vs ∧ Off k y.vm
def RChP (w : World) (ys : List EvV) (L : List Ev) (c : Chg) (r : Ending) (w' : World) : Prop :=
  Below w.heap.size w w' ∧ ∃ v' ys', r = .returned (.tuple #[.agg #[v'], .int .i64 (chK c L : Nat)]) ∧ RM w' v' ys' (chL c L) ∧ ∀ k, k < w.heap.size → (∀ y ∈ ys, OffE k y) → ∀ y ∈ ys', OffE k y
theorem RM.boxS {w w' : World} {k : Nat} {v : Value} {ys : List EvV} {L : List Ev} (h : RM w v ys L) (hk : BoxS w k) (hf : Far (fun j => j = k) w w') : RM w' v ys L := ⟨h.model.boxS hk hf, h.same, h.good, h.fit⟩
theorem RM.box {w : World} {k : Nat} {v : Value} {ys : List EvV} {L : List Ev} {u : Value} {t : TypeId} (h : RM w v ys L) (hk : w.heap[k]? = some (.cells #[.slice none 0 0] t (0, 0))) : RM (w.setCell ⟨k, 0, none⟩ u) v ys L :=
  h.boxS ⟨_, _, _, _, hk⟩ (far_set _ _ _)
theorem rch_bad {w W : World} {L : List Ev} {c : Chg} {v : Value} {ys : List EvV} {q : Nat} {n : Int} (h : RM W v ys L) (hk : chK c L = q + 1) (hn : ((q + 1 : Nat) : Int) = n) (hb : Below w.heap.size w W) :
    RChP w ys L c (.returned (.tuple #[.agg #[v], .int .i64 n])) W := by
  refine ⟨hb, v, ys, by rw [hk, hn], ?_, fun _ _ h => h⟩
  rw [chL_bad hk]; exact h
theorem rch_good {w W : World} {L : List Ev} {c : Chg} {v : Value} {ys0 ys : List EvV} (ho : ∀ k, k < w.heap.size → (∀ y ∈ ys0, OffE k y) → ∀ y ∈ ys, OffE k y) (h : EReads W v ys) (hg : Df.Good L) (hk : chK c L = 0) (hs : ys.map (·.e) = chL c L) (hf : ∀ e ∈ chL c L, Size e) (hb : Below w.heap.size w W) :
    RChP w ys0 L c (.returned (.tuple #[.agg #[v], .int .i64 0])) W :=
  ⟨hb, v, ys, by rw [hk]; rfl, ⟨h, hs, (ch_good hg hk).1, hf⟩, ho⟩
theorem off_with {ys : List EvV} {y : EvV} {k : Nat} {id : List UInt8} (hy : OffE k y) (h : ∀ z ∈ ys, OffE k z) : ∀ z ∈ gput1 keyV y (gwithout keyV id ys), OffE k z := by
  intro z hz
  rcases mem_gput1 hz with rfl | hz
  · exact hy
  · exact h z (List.mem_filter.1 hz).1
theorem off_put {ys : List EvV} {y : EvV} {k : Nat} (hy : OffE k y) (h : ∀ z ∈ ys, OffE k z) : ∀ z ∈ putV y ys, OffE k z := by
  unfold putV
  split
  · exact off_with hy h
  · exact h
theorem chL_drop {id o : ByteArray} {L : List Ev} (h : chK ⟨id, allB, o, nilB⟩ L = 0) : chL ⟨id, allB, o, nilB⟩ L = without id.data.toList L := by
  unfold chL
  rw [if_neg (by rw [h]; simp), if_pos rfl, if_pos rfl]
theorem chL_put {id o n : ByteArray} {L : List Ev} (h : chK ⟨id, allB, o, n⟩ L = 0) (hn : n ≠ nilB) : chL ⟨id, allB, o, n⟩ L = withE (readE n) L := by
  unfold chL
  rw [if_neg (by rw [h]; simp), if_pos rfl, if_neg hn]
theorem chL_set {c : Chg} {L : List Ev} (h : chK c L = 0) (hf : c.fi ≠ allB) : chL c L = withE (setE (foundE c.k L) c.fi c.new) L := by
  unfold chL
  rw [if_neg (by rw [h]; simp), if_neg hf]
theorem mem_withE2 {e x : Ev} {L : List Ev} (h : x ∈ withE e L) : x = e ∨ x ∈ L := by
  unfold withE at h
  have h1 : ∀ (e x : Ev) (L : List Ev), x ∈ put1 e L → x = e ∨ x ∈ L := by
    intro e x L
    induction L with
    | nil => intro h; exact .inl (by simpa [put1] using h)
    | cons y t ih =>
      intro h
      unfold put1 at h
      split at h
      · rcases List.mem_cons.1 h with h | h
        · exact .inl h
        · exact .inr h
      · rcases List.mem_cons.1 h with h | h
        · exact .inr (h ▸ List.mem_cons_self ..)
        · exact (ih h).imp id (List.mem_cons_of_mem _)
  exact (h1 e x _ h).imp id fun h => (mem_without.1 h).1
structure CAt (w : World) (p : Nat) (v : Value) (ys : List EvV) (L : List Ev) (c : Chg) (W : World) : Prop where
  low : Below w.heap.size w W
  rm : RM W v ys L
  x0 : W.heap[p]? = some (.cells #[v] 27 (0, 0))
  x1 : W.heap[p + 1]? = some (.cells c.cells 55 (0, 0))
  x2 : W.heap[p + 2]? = some (.cells #[.slice none 0 0] 27 (0, 0))
theorem CAt.below {w : World} {p : Nat} {v : Value} {ys : List EvV} {L : List Ev} {c : Chg} {A B : World} (h : CAt w p v ys L c A) (hb : Below A.heap.size A B) : CAt w p v ys L c B :=
  ⟨h.low.trans (hb.mono h.low.size), h.rm.below hb, row_below h.x0 hb, row_below h.x1 hb, row_below h.x2 hb⟩
theorem CAt.bad {w : World} {p : Nat} {v : Value} {ys : List EvV} {L : List Ev} {c : Chg} {W : World} (h : CAt w p v ys L c W) (hp : w.heap.size = p) {q : Nat} {n : Int} (hk : chK c L = q + 1) (hn : ((q + 1 : Nat) : Int) = n) :
    RChP w ys L c (.returned (.tuple #[.agg #[v], .int .i64 n])) (W.setCell ⟨p + 2, 0, none⟩ v) :=
  rch_bad (h.rm.box h.x2) hk hn (h.low.setCell (p := ⟨p + 2, 0, none⟩) (by show w.heap.size ≤ p + 2; omega) _)
def SetB (w0 : World) (Y : Ev) (sc : Nat) (u1 u2 u3 : Value) (s12 s13 : Value) (W : World) : Prop :=
  ∃ (b : Nat) (a6 : Option Addr) (c6 : Nat) (a9 : Option Addr) (c9 : Nat) (a10 : Option Addr) (c10 : Nat), s12 = .pointer (some ⟨b, 0, none⟩) ∧ s13 = .int .i64 (sc : Int) ∧ W.heap[b]? = some (.cells (Y.cells (.slice a6 Y.ru.ds.length c6) (.slice a9 Y.sk.length c9) (.slice a10 Y.mv.length c10)) 40) ∧
    Rv W Y (.slice a6 Y.ru.ds.length c6) (.slice a9 Y.sk.length c9) (.slice a10 Y.mv.length c10) ∧ Below w0.heap.size w0 W ∧
    ∀ k, k < w0.heap.size → (Off k u1 ∧ Off k u2 ∧ Off k u3) → Off k (.slice a6 Y.ru.ds.length c6) ∧ Off k (.slice a9 Y.sk.length c9) ∧ Off k (.slice a10 Y.mv.length c10)
set_option maxRecDepth 100000 in
set_option maxHeartbeats 16000000 in
theorem changeOf_any (w : World) (v : Value) (ys : List EvV) (L : List Ev) (c : Chg) (h : RM w v ys L) (hns : c.new.size ≤ 30000) :
    Calls Tryz.prog 61 #[.agg #[v], .agg c.cells] w (RChP w ys L c) := by
  have hfew := h.few
  obtain ⟨a, cp, rfl⟩ := h.model.shape
  obtain ⟨n, hn⟩ : ∃ n, ys.length = n := ⟨_, rfl⟩
  obtain ⟨p, hp⟩ : ∃ p, w.heap.size = p := ⟨_, rfl⟩
  rw [hn] at h hfew ⊢
  obtain ⟨W, hW⟩ : ∃ W, ((w.alloc (.cells #[.slice a n cp] 27)).alloc (.cells c.cells 55)).alloc (.cells #[.slice none 0 0] 27) = W := ⟨_, rfl⟩
  have hB : Below w.heap.size w W := by rw [← hW]; exact (((Below.refl _ w).alloc (Nat.le_refl _) _).alloc (by simp) _).alloc (by simp; omega) _
  have hx0 : W.heap[p]? = some (.cells #[.slice a n cp] 27) := by rw [← hW, ← hp]; exact (Below.heap_alloc _ _ _ (by simp; omega)).trans ((Below.heap_alloc _ _ _ (by simp)).trans (heap_new w _))
  have hx1 : W.heap[p + 1]? = some (.cells c.cells 55) := by
    rw [← hW, ← hp]
    refine (Below.heap_alloc _ _ _ (by simp)).trans ?_
    have h := heap_new (w.alloc (.cells #[.slice a n cp] 27)) (.cells c.cells 55)
    rwa [World.size_alloc] at h
  have hx2 : W.heap[p + 2]? = some (.cells #[.slice none 0 0] 27) := by
    rw [← hW, ← hp]
    have h := heap_new ((w.alloc (.cells #[.slice a n cp] 27)).alloc (.cells c.cells 55)) (.cells #[.slice none 0 0] 27)
    rwa [World.size_alloc, World.size_alloc] at h
  have hat : CAt w p (.slice a n cp) ys L c W := ⟨hB, h.below hB, hx0, hx1, hx2⟩
  have HAT := Lib.hid hat
  have HFI := Lib.hid (rfind_any ys _ c.id W hat.rm.model (by omega))
  obtain ⟨id, fi, old, nw⟩ := c
  obtain ⟨y0, -⟩ := cell1r hx0
  obtain ⟨c0, c1, c2, c3⟩ := cells4 hx1
  dsimp only at HFI hns
  have HW := Lib.hid hW
  have HN := Lib.hid hn
  have HP := Lib.hid hp
  clear hW hB hx0 hx1 hx2 hat h hn hp
  go_enter Tryz.func61, Tryz.ntmps61
  go_upto_region 1 with fail
  rw [HW.out, HP.out]
  go_wp2_with fail
  (with_reducible refine HFI.out.mono ?_)
  rintro e1 w1 ⟨q, rfl, hf, hb1⟩
  have HA1 := Lib.hid (HAT.out.below hb1)
  have HFO := Lib.hid (FoundAt.at HA1.out.rm hf)
  clear hf hb1 y0 c0 c1 c2 c3 HFI HAT
  obtain ⟨y0, -⟩ := cell1r HA1.out.x0
  obtain ⟨c0, c1, c2, c3⟩ := cells4 HA1.out.x1
  obtain ⟨u0, u1⟩ := cell1r HA1.out.x2
  by_cases hfi : fi = allB
  · have hfl : fi = ⟨#[97, 108, 108]⟩ := hfi
    subst hfl
    clear hfi
    by_cases hsh : decide (old = nilB) = decide (nw = nilB)
    · -- neither, or both
      have HSH := Lib.hid (chK_shape (id := id) (L := L) hsh)
      by_cases ho : old = nilB
      · have ho' : old = ⟨#[]⟩ := ho
        have hn' : nw = ⟨#[]⟩ := by rw [decide_eq_true ho] at hsh; exact of_decide_eq_true hsh.symm
        subst ho' hn'
        clear ho hsh
        go_wp2
        exact bodyPost_ret (res_ch (row_set HA1.out.x2 0 _) rfl rfl) rfl (HA1.out.bad HP.out HSH.out rfl)
      · have hn' : nw ≠ nilB := fun e => by rw [decide_eq_false ho, decide_eq_true e] at hsh; cases hsh
        obtain ⟨m1, m2⟩ := nil_no ho
        obtain ⟨m3, m4⟩ := nil_no hn'
        clear ho hn' hsh
        go_wp2
        exact bodyPost_ret (res_ch (row_set HA1.out.x2 0 _) rfl rfl) rfl (HA1.out.bad HP.out HSH.out rfl)
    · by_cases ho : old = nilB
      · -- it comes
        have ho' : old = ⟨#[]⟩ := ho
        have hn' : nw ≠ nilB := fun e => hsh (by rw [decide_eq_true ho, decide_eq_true e])
        subst ho'
        obtain ⟨m3, m4⟩ := nil_no hn'
        have hk := chK_put (id := id) (L := L) hn'
        have hcl : ∀ h0, chL ⟨id, allB, nilB, nw⟩ L = withE (readE nw) L := fun h0 => chL_put h0 hn'
        clear ho hsh hn'
        rcases HFO.out with ⟨rfl, hh⟩ | ⟨j, hj, rfl, hh, -⟩
        · rw [if_neg (by rw [hh]; simp)] at hk
          have hre := readEvent_off nw w1 hns
          unfold RReadOff at hre
          have hsz := readE_fit hns
          have hgd : readC nw = 0 → badE (readE nw) = 0 := readE_good
          obtain ⟨e, he⟩ : ∃ e, readE nw = e := ⟨_, rfl⟩
          obtain ⟨q, hq⟩ : ∃ q, readC nw = q := ⟨_, rfl⟩
          rw [he, hq] at hre hgd hk
          rw [he] at hsz hcl
          have HK := Lib.hid hk
          have HCL := Lib.hid hcl
          have HRE := Lib.hid hre
          have HSZ := Lib.hid hsz
          have HGD := Lib.hid hgd
          clear hk hre hsz hgd he hq hh hcl
          go_wp2_with fail
          (with_reducible refine HRE.out.mono ?_)
          rintro e2 w2 ⟨vd, vs, vm, rfl, hr2, hof2, hb2⟩
          obtain ⟨a6, c6, rfl⟩ := hr2.d.shape
          obtain ⟨a9, c9, rfl⟩ := hr2.s.shape
          obtain ⟨a10, c10, rfl⟩ := hr2.m.shape
          have HOF2 := Lib.hid hof2
          clear hof2
          go_upto_region 14 with fail
          generalize hW3 : w2.alloc _ = W3
          have hb3 : Below w2.heap.size w2 W3 := by rw [← hW3]; exact (Below.refl _ w2).alloc (Nat.le_refl _) _
          have hy3 : W3.heap[w2.heap.size]? = some (.cells (e.cells (.slice a6 e.ru.ds.length c6) (.slice a9 e.sk.length c9) (.slice a10 e.mv.length c10)) 40 (0, 0)) := by rw [← hW3]; exact heap_new w2 _
          have HA3 := Lib.hid ((HA1.out.below hb2).below hb3)
          have HR3 := Lib.hid (hr2.below hb3)
          have HY3 := Lib.hid hy3
          clear hW3 hb3 hy3 hb2 hr2 y0 c0 c1 c2 c3 u0 u1
          obtain ⟨y0, -⟩ := cell1r HA3.out.x0
          obtain ⟨c0, c1, c2, c3⟩ := cells4 HA3.out.x1
          obtain ⟨u0, u1⟩ := cell1r HA3.out.x2
          obtain ⟨d0, d1, d2, d3, d4, d5, d6, d7, d8, d9, d10⟩ := cells11 HY3.out
          cases q with
          | succ q =>
            obtain ⟨nn, hnn⟩ : ∃ n : Int, ((q + 1 : Nat) : Int) = n := ⟨_, rfl⟩
            have hn0 : 0 < nn := by omega
            have HNN := Lib.hid hnn
            rw [hnn]
            clear hnn
            go_wp2
            exact bodyPost_ret (res_ch (row_set HA3.out.x2 0 _) rfl rfl) rfl (HA3.out.bad HP.out (HK.out.trans (by rw [if_pos (by simp)])) HNN.out)
          | zero =>
            by_cases hid : e.id = id
            · have h2 : (e.id.toList == id.toList) = true := by rw [hid]; exact beq_self_eq_true _
              have HID := Lib.hid hid
              have hpu := rput_any ys (.slice a n cp) ⟨e, .slice a6 e.ru.ds.length c6, .slice a9 e.sk.length c9, .slice a10 e.mv.length c10⟩ W3 HA3.out.rm.model HR3.out HSZ.out (by rw [HN.out]; omega)
              unfold RPut at hpu
              obtain ⟨K, hK⟩ : ∃ K, putK e L = K := ⟨_, rfl⟩
              have hkk : putK (EvV.mk e (.slice a6 e.ru.ds.length c6) (.slice a9 e.sk.length c9) (.slice a10 e.mv.length c10)).e (ys.map (·.e)) = K := by rw [HA3.out.rm.same]; exact hK
              rw [hkk] at hpu
              have HPU := Lib.hid hpu
              have HKK := Lib.hid hK
              clear hpu hkk hK hid
              go_wp2_with fail
              (with_reducible refine HPU.out.mono ?_)
              rintro e4 w4 ⟨v4, rfl, hr4, hb4⟩
              obtain ⟨a4, c4, rfl⟩ := hr4.shape
              have HA4 := Lib.hid (HA3.out.below hb4)
              have HR4 := Lib.hid hr4
              clear hb4 hr4 y0 c0 c1 c2 c3 u0 u1 d0 d1 d2 d3 d4 d5 d6 d7 d8 d9 d10
              obtain ⟨u0, u1⟩ := cell1r HA4.out.x2
              go_wp2
              refine bodyPost_ret (res_ch (row_set HA4.out.x2 0 _) rfl rfl) rfl ?_
              have hkc : chK ⟨id, allB, nilB, nw⟩ L = K := by rw [HK.out, if_neg (by simp), if_neg (by rw [HID.out]; simp)]; exact HKK.out
              have hcc : chL ⟨id, allB, nilB, nw⟩ L = putL e L := by
                unfold putL
                rw [HKK.out]
                by_cases h0 : K = 0
                · rw [if_pos h0]; exact HCL.out (hkc.trans h0)
                · rw [if_neg h0]
                  unfold chL
                  rw [if_pos (by rw [hkc]; exact h0)]
              refine ⟨HA4.out.low.setCell (p := ⟨p + 2, 0, none⟩) (by show w.heap.size ≤ p + 2; rw [HP.out]; omega) _, _, putV ⟨e, .slice a6 e.ru.ds.length c6, .slice a9 e.sk.length c9, .slice a10 e.mv.length c10⟩ ys, by rw [show chK (⟨id, ⟨#[97, 108, 108]⟩, ⟨#[]⟩, nw⟩ : Chg) L = K from hkc]; rfl, ?_, fun k hk hz => off_put (HOF2.out k (Nat.lt_of_lt_of_le hk HA1.out.low.size)) hz⟩
              show RM _ _ _ (chL ⟨id, allB, nilB, nw⟩ L)
              rw [hcc]
              refine ⟨HR4.out.boxS ⟨_, _, _, _, HA4.out.x2⟩ (far_set _ _ _), ?_, ?_, ?_⟩
              · rw [putV_map, HA4.out.rm.same]
              · by_cases h0 : putK e L = 0
                · unfold putL; rw [if_pos h0]; exact HA4.out.rm.good.with h0
                · unfold putL; rw [if_neg h0]; exact HA4.out.rm.good
              · intro x hx
                unfold putL at hx
                by_cases h0 : putK e L = 0
                · rw [if_pos h0] at hx
                  rcases mem_withE2 hx with h | h
                  · rw [h]; exact HSZ.out
                  · exact HA4.out.rm.fit x h
                · rw [if_neg h0] at hx; exact HA4.out.rm.fit x hx
            · have h2 : (e.id.toList == id.toList) = false := Tx.ba_ne hid
              have HID := Lib.hid hid
              clear hid
              go_wp2
              exact bodyPost_ret (res_ch (row_set HA3.out.x2 0 _) rfl rfl) rfl (HA3.out.bad HP.out (q := 3) (HK.out.trans (by rw [if_neg (by simp), if_pos HID.out])) rfl)
        · rw [if_pos hh] at hk
          have HK := Lib.hid hk
          have hj0 : ¬ (j : Int) < 0 := by omega
          have hj1 : (0 : Int) ≤ j := by omega
          clear hk hh hcl
          go_wp2
          exact bodyPost_ret (res_ch (row_set HA1.out.x2 0 _) rfl rfl) rfl (HA1.out.bad HP.out (q := 5) HK.out rfl)
      · -- it goes
        have hn' : nw = ⟨#[]⟩ := by
          by_cases e : nw = nilB
          · exact e
          · exact absurd (by rw [decide_eq_false ho, decide_eq_false e]) hsh
        subst hn'
        have hk := chK_drop (id := id) (L := L) ho
        have hcl0 : ∀ h0, chL ⟨id, allB, old, nilB⟩ L = without id.data.toList L := fun h0 => chL_drop h0
        obtain ⟨m1, m2⟩ := nil_no ho
        clear ho hsh
        rcases HFO.out with ⟨rfl, hh⟩ | ⟨j, hj, rfl, hh, he⟩
        · rw [if_pos hh] at hk
          have HK := Lib.hid hk
          clear hk hh hcl0
          go_wp2
          exact bodyPost_ret (res_ch (row_set HA1.out.x2 0 _) rfl rfl) rfl (HA1.out.bad HP.out (q := 4) HK.out rfl)
        · rw [if_neg (by rw [hh]; simp)] at hk
          obtain ⟨-, b, o, rfl, hcc⟩ := HA1.out.rm.model.at (by intro h; rw [h] at hj; exact absurd hj (Nat.not_lt_zero _))
          have hrv0 := (hcc j hj).2
          have hjn : j < n := by rw [← HN.out]; exact hj
          have hj0 : ¬ (j : Int) < 0 := by omega
          have hj1 : (0 : Int) ≤ j := by omega
          have hcl : ∀ W, Below w1.heap.size w1 W → At11 W b (o + j * 11) (Bk.el ys j) := fun W hw => (hcc j hj).1.below hw
          have hgd : badE (foundE id.data.toList L) = 0 := HA1.out.rm.good.good _ (foundE_has hh).1
          have hsz : Size (foundE id.data.toList L) := HA1.out.rm.fit _ (foundE_has hh).1
          obtain ⟨x, hx0⟩ : ∃ x, Bk.el ys j = x := ⟨_, rfl⟩
          rw [hx0] at hrv0 hcl he
          obtain ⟨ev, ud, us, um⟩ := x
          change Rv w1 ev ud us um at hrv0
          change ev = _ at he
          obtain ⟨a6, c6, rfl⟩ := hrv0.d.shape
          obtain ⟨a9, c9, rfl⟩ := hrv0.s.shape
          obtain ⟨a10, c10, rfl⟩ := hrv0.m.shape
          rw [← he] at hgd hsz hk
          have het := fun W (hw : Below w1.heap.size w1 W) => reventText_any ev _ _ _ W (hrv0.below hw) hsz
          simp only [if_pos hgd] at het
          obtain ⟨T, hT⟩ : ∃ T, mk (textE ev) = T := ⟨_, rfl⟩
          simp only [hT] at het hk
          have HET := Lib.hid het
          have HK := Lib.hid hk
          have HCL0 := Lib.hid hcl0
          have hs := fun W (hw : Below w1.heap.size w1 W) => (show W.cell? ⟨p, 0, none⟩ = some (.slice (some ⟨b, o, none⟩) n cp) ∧ W.cell? ⟨p + 1, 2, none⟩ = some (.string old) ∧ W.cell? ⟨b, o + j * 11, none⟩ = some (.string ev.id) ∧ W.cell? ⟨b, o + j * 11 + 1, none⟩ = some (.string ev.ti) ∧ W.cell? ⟨b, o + j * 11 + 2, none⟩ = some (.int .i64 ev.st) ∧ W.cell? ⟨b, o + j * 11 + 3, none⟩ = some (.int .i64 ev.lg) ∧ W.cell? ⟨b, o + j * 11 + 4, none⟩ = some (.string ev.ru.fq) ∧ W.cell? ⟨b, o + j * 11 + 5, none⟩ = some (.int .i64 ev.ru.ev) ∧ W.cell? ⟨b, o + j * 11 + 6, none⟩ = some (.slice a6 ev.ru.ds.length c6) ∧ W.cell? ⟨b, o + j * 11 + 7, none⟩ = some (.int .i64 ev.ru.ct) ∧ W.cell? ⟨b, o + j * 11 + 8, none⟩ = some (.int .i64 ev.ru.un) ∧ W.cell? ⟨b, o + j * 11 + 9, none⟩ = some (.slice a9 ev.sk.length c9) ∧ W.cell? ⟨b, o + j * 11 + 10, none⟩ = some (.slice a10 ev.mv.length c10) from by
            obtain ⟨d0, d1, d2, d3, d4, d5, d6, d7, d8, d9, d10⟩ := hcl W hw
            obtain ⟨e0, e1, e2, e3⟩ := cells4 (HA1.out.below hw).x1
            exact ⟨(cell1r (HA1.out.below hw).x0).1, e2, d0, d1, d2, d3, d4, d5, d6, d7, d8, d9, d10⟩)
          have HS := Lib.hid hs
          have hacc : Below w1.heap.size w1 w1.drew := below_draw (Below.refl _ _) 1
          clear hj hh he hcc hrv0 hcl hgd hsz hx0 het hT hk hcl0 hs
          have hcut1 : ∀ q : Bool, (T.toList == old.toList) = q → True := fun _ _ => trivial
          obtain ⟨q, hq⟩ : ∃ q, (T.toList == old.toList) = q := ⟨_, rfl⟩
          go_upto_region 8 with fail
          go_cut [43] from 35 (fun s wc => s = .bool (!q) ∧ Below w1.heap.size w1 wc)
          case first =>
            go_region_held3 (fun W => W.cell? ⟨p, 0, none⟩ = some (.slice (some ⟨b, o, none⟩) n cp) ∧ W.cell? ⟨p + 1, 2, none⟩ = some (.string old) ∧ W.cell? ⟨b, o + j * 11, none⟩ = some (.string ev.id) ∧ W.cell? ⟨b, o + j * 11 + 1, none⟩ = some (.string ev.ti) ∧ W.cell? ⟨b, o + j * 11 + 2, none⟩ = some (.int .i64 ev.st) ∧ W.cell? ⟨b, o + j * 11 + 3, none⟩ = some (.int .i64 ev.lg) ∧ W.cell? ⟨b, o + j * 11 + 4, none⟩ = some (.string ev.ru.fq) ∧ W.cell? ⟨b, o + j * 11 + 5, none⟩ = some (.int .i64 ev.ru.ev) ∧ W.cell? ⟨b, o + j * 11 + 6, none⟩ = some (.slice a6 ev.ru.ds.length c6) ∧ W.cell? ⟨b, o + j * 11 + 7, none⟩ = some (.int .i64 ev.ru.ct) ∧ W.cell? ⟨b, o + j * 11 + 8, none⟩ = some (.int .i64 ev.ru.un) ∧ W.cell? ⟨b, o + j * 11 + 9, none⟩ = some (.slice a9 ev.sk.length c9) ∧ W.cell? ⟨b, o + j * 11 + 10, none⟩ = some (.slice a10 ev.mv.length c10))
              (with_reducible exact HS.out _ hacc)
              (first
                | ((with_reducible refine (HET.out _ hacc).mono ?_)
                   rintro e5 w5 ⟨rfl, hb5⟩
                   replace hacc := hacc.trans (hb5.mono hacc.size)))
            all_goals go_wp2_with fail
            all_goals go_meet
            all_goals exact ⟨rfl, hacc⟩
          case rest =>
            obtain ⟨rfl, hbc⟩ := hcut
            have HA2 := Lib.hid (HA1.out.below hbc)
            clear hbc hacc HS y0 c0 c1 c2 c3 u0 u1 hcut1
            obtain ⟨y0, -⟩ := cell1r HA2.out.x0
            obtain ⟨c0, c1, c2, c3⟩ := cells4 HA2.out.x1
            obtain ⟨u0, u1⟩ := cell1r HA2.out.x2
            by_cases hto : T = old
            · obtain rfl : q = true := by rw [← hq, hto]; exact beq_self_eq_true _
              have HTO := Lib.hid hto
              have HWO := Lib.hid (rwithout_any ys _ id wc HA2.out.rm.model (by rw [HN.out]; omega))
              clear hto hq
              go_wp2_with fail
              (with_reducible refine HWO.out.mono ?_)
              rintro e4 w4 ⟨v4, rfl, hr4, hb4⟩
              obtain ⟨a4, c4, rfl⟩ := hr4.shape
              have HA4 := Lib.hid (HA2.out.below hb4)
              have HR4 := Lib.hid hr4
              clear hb4 hr4 y0 c0 c1 c2 c3 u0 u1
              obtain ⟨u0, u1⟩ := cell1r HA4.out.x2
              go_wp2
              refine bodyPost_ret (res_ch (row_set HA4.out.x2 0 _) rfl rfl) rfl ?_
              have hk0 : chK ⟨id, allB, old, nilB⟩ L = 0 := by rw [HK.out, if_neg (by rw [HTO.out]; simp)]
              have hc0 := HCL0.out hk0
              refine rch_good (c := ⟨id, allB, old, nilB⟩) (ys := gwithout keyV id.data.toList ys) (fun k hk hz y hy => hz y (List.mem_filter.1 hy).1) (HR4.out.boxS ⟨_, _, _, _, HA4.out.x2⟩ (far_set _ _ _)) HA4.out.rm.good hk0 ?_ (fun x hx => ?_) (HA4.out.low.setCell (p := ⟨p + 2, 0, none⟩) (by show w.heap.size ≤ p + 2; rw [HP.out]; omega) _)
              · rw [hc0, gwithout_map keyV (fun x : EvV => x.e) (fun _ => rfl), HA4.out.rm.same]
              · rw [hc0] at hx; exact HA4.out.rm.fit x (mem_without.1 hx).1
            · obtain rfl : q = false := by rw [← hq]; exact Tx.ba_ne hto
              have HTO := Lib.hid hto
              clear hto hq
              go_wp2
              exact bodyPost_ret (res_ch (row_set HA2.out.x2 0 _) rfl rfl) rfl (HA2.out.bad HP.out (q := 8) (HK.out.trans (by rw [if_pos HTO.out])) rfl)
  · -- a field
    have hal : (fi.toList == [97, 108, 108]) = false := by
      rw [beq_eq_false_iff_ne, ByteArray.toList_eq]
      intro e
      exact hfi (by rw [str_mk fi, e]; rfl)
    have HK1 := Lib.hid (fun h2 => chK_unknown (c := ⟨id, fi, old, nw⟩) (L := L) hfi h2)
    have HK2 := Lib.hid (fun h2 => chK_field (c := ⟨id, fi, old, nw⟩) (L := L) hfi h2)
    have HCL := Lib.hid (fun h0 => chL_set (c := ⟨id, fi, old, nw⟩) (L := L) h0 hfi)
    have HFL := Lib.hid (rfields_low w1)
    clear hfi
    go_wp2_with fail
    (with_reducible refine HFL.out.mono ?_)
    rintro e2 w2 ⟨rfl, hf2, hb2⟩
    have HA2 := Lib.hid (HA1.out.below hb2)
    have HF2 := Lib.hid hf2
    have HB12 := Lib.hid hb2
    clear hb2 hf2 y0 c0 c1 c2 c3 u0 u1
    go_wp2_with fail
    go_loopw [9, 11] (fun v9 i wr => ∃ k : Nat, k ≤ 6 ∧ i = .int .i64 (k : Int) ∧ v9 = .bool (decide (fi ∈ fieldL.take k)) ∧ Below w2.heap.size w2 wr) (fun _ i _ => 6 - (intOf i).toNat)
    case atStart => exact ⟨0, Nat.zero_le _, rfl, by simp, Below.refl _ _⟩
    case round =>
      obtain ⟨k, hk, rfl, rfl, hbr⟩ := hrel
      have HBR := Lib.hid hbr
      by_cases hlt : k < 6
      · have f1 := field_cell (row_below HF2.out hbr) hlt
        obtain ⟨k0, k1, k2, k3⟩ := cells4 (HA2.out.below hbr).x1
        have htk : fieldL.take (k + 1) = fieldL.take k ++ [fieldL.getD k ByteArray.empty] := by
          rw [List.take_succ_eq_append_getElem (show k < fieldL.length from hlt), List.getD_eq_getElem?_getD, List.getElem?_eq_getElem (show k < fieldL.length from hlt)]; rfl
        obtain ⟨f, hf⟩ : ∃ f, fieldL.getD k ByteArray.empty = f := ⟨_, rfl⟩
        rw [hf] at f1 htk
        obtain ⟨kn, hkn⟩ : ∃ z, decide (fi ∈ fieldL.take k) = z := ⟨_, rfl⟩
        rw [hkn]
        have hmem : decide (fi ∈ fieldL.take (k + 1)) = (kn || decide (f = fi)) := by
          rw [htk, ← hkn]
          by_cases h1 : fi ∈ fieldL.take k <;> by_cases h2 : f = fi <;> simp [h1, h2, Ne.symm]
        have HMEM := Lib.hid hmem
        clear hf htk hkn hmem hbr
        by_cases he : f = fi
        · have h2 : (f.toList == fi.toList) = true := by rw [he]; exact beq_self_eq_true _
          have HE := Lib.hid he
          clear he
          go_upto_region 24 with fail
          go_quiet (fail)
          go_wp2_with fail
          go_roundw
          case rel => exact ⟨k + 1, by omega, by go_num, by rw [HMEM.out, decide_eq_true HE.out, Bool.or_true], below_draw HBR.out nq⟩
          case measure => simp [intOf]; omega
        · have h2 : (f.toList == fi.toList) = false := Tx.ba_ne he
          have HE := Lib.hid he
          clear he
          go_upto_region 24 with fail
          go_quiet (fail)
          go_wp2_with fail
          go_roundw
          case rel => exact ⟨k + 1, by omega, by go_num, by rw [HMEM.out, decide_eq_false HE.out, Bool.or_false], below_draw HBR.out nq⟩
          case measure => simp [intOf]; omega
      · obtain rfl : k = 6 := by omega
        have hall : fieldL.take 6 = fieldL := rfl
        have HA3 := Lib.hid (HA2.out.below hbr)
        have HB13 := Lib.hid (HB12.out.trans (hbr.mono HB12.out.size))
        rw [hall]
        obtain ⟨u0, u1⟩ := cell1r HA3.out.x2
        obtain ⟨y0, -⟩ := cell1r HA3.out.x0
        clear hbr hall
        by_cases hin : fi ∈ fieldL
        · rw [decide_eq_true hin]
          have hk := HK2.out hin
          change chK ⟨id, fi, old, nw⟩ L = if hasK id.data.toList L = false then 5 else if getL (foundE id.data.toList L) fi ≠ old then 9 else if setC (foundE id.data.toList L) fi nw ≠ 0 then setC (foundE id.data.toList L) fi nw else putK (setE (foundE id.data.toList L) fi nw) L at hk
          have hcl0 : ∀ h0 : chK ⟨id, fi, old, nw⟩ L = 0, chL ⟨id, fi, old, nw⟩ L = withE (setE (foundE id.data.toList L) fi nw) L := fun h0 => HCL.out h0
          clear HK1 HK2 HCL
          rcases HFO.out with ⟨rfl, hh⟩ | ⟨j, hj, rfl, hh, he⟩
          · rw [if_pos hh] at hk
            have HK := Lib.hid hk
            clear hk hh hcl0
            go_wp2
            exact bodyPost_ret (res_ch (row_set HA3.out.x2 0 _) rfl rfl) rfl (HA3.out.bad HP.out (q := 4) HK.out rfl)
          · rw [if_neg (by rw [hh]; simp)] at hk
            obtain ⟨-, b, o, rfl, hcc⟩ := HA3.out.rm.model.at (by intro h; rw [h] at hj; exact absurd hj (Nat.not_lt_zero _))
            have hrv0 := (hcc j hj).2
            have hjn : j < n := by rw [← HN.out]; exact hj
            have hj0 : ¬ (j : Int) < 0 := by omega
            have hj1 : (0 : Int) ≤ j := by omega
            have hclw : ∀ W, Below wr.heap.size wr W → At11 W b (o + j * 11) (Bk.el ys j) := fun W hw => (hcc j hj).1.below hw
            have hgd : badE (foundE id.data.toList L) = 0 := HA1.out.rm.good.good _ (foundE_has hh).1
            have hsz : Size (foundE id.data.toList L) := HA1.out.rm.fit _ (foundE_has hh).1
            have hkey : hasK (key (foundE id.data.toList L)) L = true := by rw [(foundE_has hh).2]; exact hh
            obtain ⟨x, hx0⟩ : ∃ x, Bk.el ys j = x := ⟨_, rfl⟩
            rw [hx0] at hrv0 hclw he
            obtain ⟨ev, ud, us, um⟩ := x
            change Rv wr ev ud us um at hrv0
            change ev = _ at he
            have hofe : ∀ k, (∀ z ∈ ys, OffE k z) → Off k ud ∧ Off k us ∧ Off k um := fun k hz => by
              have h := hz _ (el_mem hj)
              rw [hx0] at h; exact h
            obtain ⟨a6, c6, rfl⟩ := hrv0.d.shape
            obtain ⟨a9, c9, rfl⟩ := hrv0.s.shape
            obtain ⟨a10, c10, rfl⟩ := hrv0.m.shape
            rw [← he] at hgd hsz hk hkey
            simp only [← he] at hcl0
            have hfo := fun W (hw : Below wr.heap.size wr W) => fieldOf_any ev _ _ _ fi W (hrv0.below hw) hgd hsz.ds
            obtain ⟨T, hT⟩ : ∃ T, getL ev fi = T := ⟨_, rfl⟩
            simp only [hT] at hfo hk
            have HFO2 := Lib.hid hfo
            have HK := Lib.hid hk
            have HCL0 := Lib.hid hcl0
            have HKEY := Lib.hid hkey
            have HGD := Lib.hid hgd
            have HSZ := Lib.hid hsz
            have HRV0 := Lib.hid hrv0
            have HOFE := Lib.hid hofe
            clear hofe
            have hs := fun W (hw : Below wr.heap.size wr W) => (show W.cell? ⟨p, 0, none⟩ = some (.slice (some ⟨b, o, none⟩) n cp) ∧ W.cell? ⟨p + 1, 1, none⟩ = some (.string fi) ∧ W.cell? ⟨p + 1, 2, none⟩ = some (.string old) ∧ W.cell? ⟨p + 1, 3, none⟩ = some (.string nw) ∧ W.cell? ⟨b, o + j * 11, none⟩ = some (.string ev.id) ∧ W.cell? ⟨b, o + j * 11 + 1, none⟩ = some (.string ev.ti) ∧ W.cell? ⟨b, o + j * 11 + 2, none⟩ = some (.int .i64 ev.st) ∧ W.cell? ⟨b, o + j * 11 + 3, none⟩ = some (.int .i64 ev.lg) ∧ W.cell? ⟨b, o + j * 11 + 4, none⟩ = some (.string ev.ru.fq) ∧ W.cell? ⟨b, o + j * 11 + 5, none⟩ = some (.int .i64 ev.ru.ev) ∧ W.cell? ⟨b, o + j * 11 + 6, none⟩ = some (.slice a6 ev.ru.ds.length c6) ∧ W.cell? ⟨b, o + j * 11 + 7, none⟩ = some (.int .i64 ev.ru.ct) ∧ W.cell? ⟨b, o + j * 11 + 8, none⟩ = some (.int .i64 ev.ru.un) ∧ W.cell? ⟨b, o + j * 11 + 9, none⟩ = some (.slice a9 ev.sk.length c9) ∧ W.cell? ⟨b, o + j * 11 + 10, none⟩ = some (.slice a10 ev.mv.length c10) from by
              obtain ⟨d0, d1, d2, d3, d4, d5, d6, d7, d8, d9, d10⟩ := hclw W hw
              obtain ⟨e0, e1, e2, e3⟩ := cells4 (HA3.out.below hw).x1
              exact ⟨(cell1r (HA3.out.below hw).x0).1, e1, e2, e3, d0, d1, d2, d3, d4, d5, d6, d7, d8, d9, d10⟩)
            have HS := Lib.hid hs
            have hacc : Below wr.heap.size wr wr.drew := below_draw (Below.refl _ _) 1
            clear hj hh he hcc hrv0 hclw hgd hsz hx0 hfo hT hk hcl0 hs hkey
            have hcut1 : ∀ q : Bool, (T.toList == old.toList) = q → True := fun _ _ => trivial
            obtain ⟨q, hq⟩ : ∃ q, (T.toList == old.toList) = q := ⟨_, rfl⟩
            go_upto_region 30 with fail
            go_cut [103] from 93 (fun s wc => s = .bool (!q) ∧ Below wr.heap.size wr wc)
            case first =>
              go_region_held3 (fun W => W.cell? ⟨p, 0, none⟩ = some (.slice (some ⟨b, o, none⟩) n cp) ∧ W.cell? ⟨p + 1, 1, none⟩ = some (.string fi) ∧ W.cell? ⟨p + 1, 2, none⟩ = some (.string old) ∧ W.cell? ⟨p + 1, 3, none⟩ = some (.string nw) ∧ W.cell? ⟨b, o + j * 11, none⟩ = some (.string ev.id) ∧ W.cell? ⟨b, o + j * 11 + 1, none⟩ = some (.string ev.ti) ∧ W.cell? ⟨b, o + j * 11 + 2, none⟩ = some (.int .i64 ev.st) ∧ W.cell? ⟨b, o + j * 11 + 3, none⟩ = some (.int .i64 ev.lg) ∧ W.cell? ⟨b, o + j * 11 + 4, none⟩ = some (.string ev.ru.fq) ∧ W.cell? ⟨b, o + j * 11 + 5, none⟩ = some (.int .i64 ev.ru.ev) ∧ W.cell? ⟨b, o + j * 11 + 6, none⟩ = some (.slice a6 ev.ru.ds.length c6) ∧ W.cell? ⟨b, o + j * 11 + 7, none⟩ = some (.int .i64 ev.ru.ct) ∧ W.cell? ⟨b, o + j * 11 + 8, none⟩ = some (.int .i64 ev.ru.un) ∧ W.cell? ⟨b, o + j * 11 + 9, none⟩ = some (.slice a9 ev.sk.length c9) ∧ W.cell? ⟨b, o + j * 11 + 10, none⟩ = some (.slice a10 ev.mv.length c10))
                (with_reducible exact HS.out _ hacc)
                (first
                  | ((with_reducible refine (HFO2.out _ hacc).mono ?_)
                     rintro e5 w5 ⟨rfl, hb5⟩
                     replace hacc := hacc.trans (hb5.mono hacc.size)))
              all_goals go_wp2_with fail
              all_goals go_meet
              all_goals exact ⟨rfl, hacc⟩
            case rest =>
              obtain ⟨wq, hwq⟩ : ∃ x, x = wc := ⟨_, rfl⟩
              subst hwq
              obtain ⟨rfl, hbc⟩ := hcut
              have HA4 := Lib.hid (HA3.out.below hbc)
              have HBC := Lib.hid hbc
              clear hacc hcut1 u0 u1 y0
              obtain ⟨y0, -⟩ := cell1r HA4.out.x0
              obtain ⟨u0, u1⟩ := cell1r HA4.out.x2
              by_cases hto : T = old
              · obtain rfl : q = true := by rw [← hq, hto]; exact beq_self_eq_true _
                have hk := HK.out
                rw [if_neg (fun h => h hto)] at hk
                have HKS := Lib.hid hk
                clear hto hq hk HK
                have hse := fun W (hw : Below wr.heap.size wr W) => setField_any ev _ _ _ fi nw W (HRV0.out.below hw) HSZ.out hns
                unfold RSetPost at hse
                have hfit2 := setE_size HSZ.out fi hns
                have hsid := set_id ev fi nw
                have hsgd := @setE_good ev fi nw
                obtain ⟨Y, hY⟩ : ∃ Y, setE ev fi nw = Y := ⟨_, rfl⟩
                obtain ⟨sc, hsc⟩ : ∃ sc, setC ev fi nw = sc := ⟨_, rfl⟩
                have hkp : setC ev fi nw = 0 → putK (setE ev fi nw) L = 0 := fun h0 => (putK_good (setE_good h0) (.inl (by
                  have h1 : key (setE ev fi nw) = key ev := congrArg (fun s : ByteArray => s.data.toList) (set_id ev fi nw h0)
                  rw [h1]; exact HKEY.out))).1
                have hks := HKS.out
                have hcl := HCL0.out
                simp only [hY, hsc] at hse
                rw [hY] at hfit2 hkp hks hcl
                rw [hsc] at hkp hks
                have HKP := Lib.hid hkp
                have HKS2 := Lib.hid hks
                have HCL2 := Lib.hid hcl
                have HFIT2 := Lib.hid hfit2
                have hoff : ∀ c, wr.heap.size ≤ c → Off c (.slice a6 ev.ru.ds.length c6) ∧ Off c (.slice a9 ev.sk.length c9) ∧ Off c (.slice a10 ev.mv.length c10) := fun c hc => ⟨off_reads HRV0.out.d hc, off_reads HRV0.out.s hc, off_mreads HRV0.out.m hc⟩
                have HOFF := Lib.hid hoff
                have HSE := Lib.hid (fun W (hw : Below wq.heap.size wq W) => hse W (hbc.trans (hw.mono hbc.size)))
                have HS4 := Lib.hid (fun W (hw : Below wq.heap.size wq W) => HS.out W (hbc.trans (hw.mono hbc.size)))
                have hbs := hbc.size
                have hda : Below wq.heap.size wq (wq.alloc (.cells zeroV 40)) := (Below.refl _ _).alloc (Nat.le_refl _) _
                have HACC0 := Lib.hid hda
                have HACC := Lib.hid (show Below wq.heap.size wq (wq.alloc (.cells zeroV 40)).drew from below_draw hda 1)
                have HZN := Lib.hid (show (wq.alloc (.cells zeroV 40)).drew.heap[wq.heap.size]? = some (.cells zeroV 40) from heap_new wq _)
                have hacc : Below wq.heap.size wq wq.drew := below_draw (Below.refl _ _) 1
                clear hse hfit2 hsid hsgd hkp hks hcl hoff hda hY hsc HKS HCL0 HS HFO2 HRV0 hbc
                go_upto_region 32 with fail
                go_cut [12, 13] from 105 (fun s12 s13 wc => SetB wq Y sc (.slice a6 ev.ru.ds.length c6) (.slice a9 ev.sk.length c9) (.slice a10 ev.mv.length c10) s12 s13 wc)
                case first =>
                  go_region_held3 (fun W => W.cell? ⟨p, 0, none⟩ = some (.slice (some ⟨b, o, none⟩) n cp) ∧ W.cell? ⟨p + 1, 1, none⟩ = some (.string fi) ∧ W.cell? ⟨p + 1, 2, none⟩ = some (.string old) ∧ W.cell? ⟨p + 1, 3, none⟩ = some (.string nw) ∧ W.cell? ⟨b, o + j * 11, none⟩ = some (.string ev.id) ∧ W.cell? ⟨b, o + j * 11 + 1, none⟩ = some (.string ev.ti) ∧ W.cell? ⟨b, o + j * 11 + 2, none⟩ = some (.int .i64 ev.st) ∧ W.cell? ⟨b, o + j * 11 + 3, none⟩ = some (.int .i64 ev.lg) ∧ W.cell? ⟨b, o + j * 11 + 4, none⟩ = some (.string ev.ru.fq) ∧ W.cell? ⟨b, o + j * 11 + 5, none⟩ = some (.int .i64 ev.ru.ev) ∧ W.cell? ⟨b, o + j * 11 + 6, none⟩ = some (.slice a6 ev.ru.ds.length c6) ∧ W.cell? ⟨b, o + j * 11 + 7, none⟩ = some (.int .i64 ev.ru.ct) ∧ W.cell? ⟨b, o + j * 11 + 8, none⟩ = some (.int .i64 ev.ru.un) ∧ W.cell? ⟨b, o + j * 11 + 9, none⟩ = some (.slice a9 ev.sk.length c9) ∧ W.cell? ⟨b, o + j * 11 + 10, none⟩ = some (.slice a10 ev.mv.length c10))
                    (first
                      | with_reducible exact HS4.out _ hacc
                      | with_reducible exact HS4.out _ HACC.out
                      | with_reducible exact HS4.out _ HACC0.out
                      | with_reducible exact HS4.out _ (hacc.alloc hacc.size _)
                      | ((with_reducible refine HS4.out _ (hacc.trans ((only11 ..).below ?_)))
                         (first | exact hpz | exact Nat.le_refl _)))
                    (first
                      | ((with_reducible refine (HSE.out _ hacc).mono ?_)
                         rintro e5 w5 ⟨vd, vs, vm, rfl, hr5, ho5, hb5⟩
                         obtain ⟨b6, g6, rfl⟩ := hr5.d.shape
                         obtain ⟨b9, g9, rfl⟩ := hr5.s.shape
                         obtain ⟨b10, g10, rfl⟩ := hr5.m.shape
                         replace hacc := hacc.trans (hb5.mono hacc.size))
                      | ((with_reducible refine (HSE.out _ HACC.out).mono ?_)
                         rintro e5 w5 ⟨vd, vs, vm, rfl, hr5, ho5, hb5⟩
                         obtain ⟨b6, g6, rfl⟩ := hr5.d.shape
                         obtain ⟨b9, g9, rfl⟩ := hr5.s.shape
                         obtain ⟨b10, g10, rfl⟩ := hr5.m.shape
                         have hz5 := row_below HZN.out hb5
                         have hpz := Nat.le_refl wq.heap.size
                         have hof5 := ho5 wq.heap.size (by simp) (HOFF.out _ hbs)
                         replace hacc := HACC.out.trans (hb5.mono HACC.out.size)
                         obtain ⟨kz0, kz1, kz2, kz3, kz4, kz5, kz6, kz7, kz8, kz9, kz10⟩ := cells11 hz5
                         obtain ⟨ky0, ky1, ky2, ky3, ky4, ky5, ky6, ky7, ky8, ky9, ky10⟩ := frozen11 hz5))
                  all_goals go_wp2_with fail
                  all_goals go_meet
                  all_goals (first
                    | (have hzz5 := hz5
                       exact ⟨wq.heap.size, _, _, _, _, _, _, rfl, rfl, put11_row hz5, (put11_only ..).rv hr5 hof5.1 hof5.2.1 hof5.2.2, hacc.trans ((put11_only ..).below (Nat.le_refl _)), fun k hk hi => ho5 k (by simp; omega) hi⟩)
                    | (exact ⟨w5.heap.size, _, _, _, _, _, _, rfl, rfl, heap_new w5 _, hr5.below ((Below.refl _ _).alloc (Nat.le_refl _) _), hacc.alloc hacc.size _, fun k hk hi => ho5 k hk hi⟩)
                    | (exact ⟨w5.heap.size, _, _, _, _, _, _, rfl, rfl, put11_row (heap_new w5 _), (put11_only ..).rv (hr5.below ((Below.refl _ _).alloc (Nat.le_refl _) _)) (off_reads hr5.d (Nat.le_refl _)) (off_reads hr5.s (Nat.le_refl _)) (off_mreads hr5.m (Nat.le_refl _)), (hacc.alloc hacc.size _).trans ((put11_only ..).below hacc.size), fun k hk hi => ho5 k hk hi⟩))
                case rest =>
                  obtain ⟨wz, hwz⟩ : ∃ x, x = wc := ⟨_, rfl⟩
                  subst hwz
                  obtain ⟨bz, b6, g6, b9, g9, b10, g10, rfl, rfl, hrow, hrvz, hbz, hofz⟩ := hcut
                  have HOFZ := Lib.hid hofz
                  have HBS := Lib.hid hbs
                  clear hofz
                  have HA5 := Lib.hid (HA4.out.below hbz)
                  have HRVZ := Lib.hid hrvz
                  clear hacc u0 u1 y0 hbz HS4 HSE HACC HACC0 HZN hbs
                  obtain ⟨y0, -⟩ := cell1r HA5.out.x0
                  obtain ⟨u0, u1⟩ := cell1r HA5.out.x2
                  cases sc with
                  | succ s =>
                    obtain ⟨nn, hnn⟩ : ∃ n : Int, ((s + 1 : Nat) : Int) = n := ⟨_, rfl⟩
                    have hn0 : 0 < nn := by omega
                    have HNN := Lib.hid hnn
                    rw [hnn]
                    clear hnn hrow hrvz
                    go_wp2
                    exact bodyPost_ret (res_ch (row_set HA5.out.x2 0 _) rfl rfl) rfl (HA5.out.bad HP.out (HKS2.out.trans (by rw [if_pos (by simp)])) HNN.out)
                  | zero =>
                    obtain ⟨d0, d1, d2, d3, d4, d5, d6, d7, d8, d9, d10⟩ := cells11 hrow
                    have HWI := Lib.hid (rwith_any ys (.slice (some ⟨b, o, none⟩) n cp) ⟨Y, .slice b6 Y.ru.ds.length g6, .slice b9 Y.sk.length g9, .slice b10 Y.mv.length g10⟩ wz HA5.out.rm.model HRVZ.out (by rw [HN.out]; omega))
                    clear hrow hrvz
                    go_wp2_with fail
                    (with_reducible refine HWI.out.mono ?_)
                    rintro e4 w4 ⟨v4, rfl, hr4, hb4⟩
                    obtain ⟨a4, c4, rfl⟩ := hr4.shape
                    have HA6 := Lib.hid (HA5.out.below hb4)
                    have HR6 := Lib.hid hr4
                    clear hb4 hr4 y0 u0 u1 d0 d1 d2 d3 d4 d5 d6 d7 d8 d9 d10
                    obtain ⟨u0, u1⟩ := cell1r HA6.out.x2
                    go_wp2
                    refine bodyPost_ret (res_ch (row_set HA6.out.x2 0 _) rfl rfl) rfl ?_
                    have hk0 : chK ⟨id, fi, old, nw⟩ L = 0 := by rw [HKS2.out, if_neg (by simp)]; exact HKP.out (by first | rfl | trivial)
                    have hc0 := HCL2.out hk0
                    refine rch_good (c := ⟨id, fi, old, nw⟩) (fun k hk hz => off_with (y := ⟨Y, .slice b6 Y.ru.ds.length g6, .slice b9 Y.sk.length g9, .slice b10 Y.mv.length g10⟩) (HOFZ.out k (Nat.lt_of_lt_of_le hk (Nat.le_trans HA3.out.low.size HBS.out)) (HOFE.out k hz)) hz) (HR6.out.boxS ⟨_, _, _, _, HA6.out.x2⟩ (far_set _ _ _)) HA6.out.rm.good hk0 ?_ (fun x hx => ?_) (HA6.out.low.setCell (p := ⟨p + 2, 0, none⟩) (by show w.heap.size ≤ p + 2; rw [HP.out]; omega) _)
                    · rw [hc0, gput1_map keyV (fun x : EvV => x.e) (fun _ => rfl), gwithout_map keyV (fun x : EvV => x.e) (fun _ => rfl), HA6.out.rm.same]
                      rfl
                    · rw [hc0] at hx
                      rcases mem_withE2 hx with h | h
                      · rw [h]; exact HFIT2.out
                      · exact HA6.out.rm.fit x h
              · obtain rfl : q = false := by rw [← hq]; exact Tx.ba_ne hto
                have HTO := Lib.hid hto
                clear hto hq hbc
                go_wp2
                refine bodyPost_ret (res_ch (row_set HA4.out.x2 0 _) rfl rfl) rfl ?_
                exact HA4.out.bad HP.out (q := 8) (n := 9) (HK.out.trans (by rw [if_pos HTO.out])) rfl
        · rw [decide_eq_false hin]
          have HKN := Lib.hid (HK1.out hin)
          clear hin
          go_wp2
          exact bodyPost_ret (res_ch (row_set HA3.out.x2 0 _) rfl rfl) rfl (HA3.out.bad HP.out (q := 3) HKN.out rfl)
end Rd
end Go.Proofs.YtghkalamlcfnnaaGreatDoor
