/- The document's DiffOf, of any two models. -/
import Derived.Test.YtghkalamlcfnnaaGreatDoorQRDf
import Derived.Test.YtghkalamlcfnnaaGreatDoorQC5
import Derived.Test.YtghkalamlcfnnaaGreatDoorQDfOne
import Derived.BigQuiet
import Derived.Deep.RegionHeld3
import Derived.Deep.CutRange
import Derived.Deep.DeepCutAuto
namespace Go.Proofs.YtghkalamlcfnnaaGreatDoor
open Go Go.RowKit Go.Shelf Lmd
attribute [local go_sem] Oper.semAt_some
namespace Rd
open Evt Bk Df Tp Rul Day Cand Er
open Txs (kids els_lt els_mem)
theorem rfields_low (w : World) : Calls Tryz.prog 57 #[] w fun e w' => e = .returned (.slice (some ⟨w.heap.size, 0, none⟩) 6 6) ∧ w'.heap[w.heap.size]? = some (.cells fieldsV 9) ∧ Below w.heap.size w w' :=
  (rfields_new w).mono fun _ _ ⟨h1, h2⟩ => ⟨h1, by rw [h2]; exact heap_new w _, by rw [h2]; exact (Below.refl _ w).alloc (Nat.le_refl _) _⟩
theorem RM.found {w : World} {v : Value} {ys : List EvV} {L : List Ev} (h : RM w v ys L) {k : List UInt8} {n : Int} (hf : FoundAt ys k n) (hh : hasK k L = true) :
    ∃ j : Nat, j < ys.length ∧ n = (j : Int) ∧ (Bk.el ys j).e = foundE k L ∧ badE (foundE k L) = 0 ∧ Size (foundE k L) := by
  rcases FoundAt.at h hf with ⟨_, h0⟩ | ⟨j, hj, e1, _, e2⟩
  · rw [h0] at hh; cases hh
  · exact ⟨j, hj, e1, e2, h.good.good _ (foundE_has hh).1, h.fit _ (foundE_has hh).1⟩
theorem uniI_at {a b : List Ev} {k : Nat} (h : k < (uniK a b).length) : (uniI a b)[k]? = some (mk (Txs.els (uniK a b) k)) := by
  unfold uniI
  rw [List.getElem?_map, List.getElem?_eq_getElem h, els_lt h]; rfl
theorem uniI_len (a b : List Ev) : (uniI a b).length = (uniK a b).length := by unfold uniI; rw [List.length_map]
theorem uni_few {a b : List Ev} (ha : Df.Good a) (hb : Df.Good b) : (uniK a b).length ≤ 120 := by
  have := uniK_len a b
  have := ha.few
  have := hb.few
  omega
theorem RM.has_at {w : World} {v : Value} {ys : List EvV} {L : List Ev} (h : RM w v ys L) {k : List UInt8} (hh : hasK k L = true) : ∃ j : Nat, j < ys.length ∧ (Bk.el ys j).e = foundE k L := by
  have hm := (foundE_has hh).1
  rw [← h.same] at hm
  obtain ⟨x, hx, he⟩ := List.mem_map.1 hm
  obtain ⟨j, hj, rfl⟩ := mem_elV.1 hx
  refine ⟨j, hj, ?_⟩
  rw [← h.same]; exact he
theorem el_inj {ys : List EvV} (ha : Asc (ys.map (·.e))) {i j : Nat} (hi : i < ys.length) (hj : j < ys.length) (h : (Bk.el ys i).e = (Bk.el ys j).e) : i = j := by
  have key2 : ∀ a b : Nat, a < b → b < ys.length → (Bk.el ys a).e = (Bk.el ys b).e → False := fun a b hab hb e => by
    have h1 := List.pairwise_iff_getElem.1 ha a b (by simpa using (by omega : a < ys.length)) (by simpa using hb) hab
    simp only [List.getElem_map] at h1
    rw [← el_lt (by omega : a < ys.length), ← el_lt hb, e] at h1
    exact lt_irrefl _ h1
  rcases Nat.lt_trichotomy i j with h1 | h1 | h1
  · exact (key2 i j h1 hj h).elim
  · exact h1
  · exact (key2 j i h1 hi h.symm).elim
theorem RM.one {w : World} {v : Value} {ys : List EvV} {L : List Ev} (h : RM w v ys L) {k : List UInt8} {n : Int} (hf : FoundAt ys k n) (hh : hasK k L = true) {j : Nat} (hj : j < ys.length) (he : (Bk.el ys j).e = foundE k L) : n = (j : Int) := by
  obtain ⟨i, hi, e1, e2, _⟩ := h.found hf hh
  rw [e1, el_inj (by rw [h.same]; exact h.good.asc) hi hj (e2.trans he.symm)]
theorem only11 (W : World) (b : Nat) (a0 a1 a2 a3 a4 a5 a6 a7 a8 a9 a10 : Value) : Only b W (((((((((((W.setCell ⟨b, 0, none⟩ a0).setCell ⟨b, 1, none⟩ a1).setCell ⟨b, 2, none⟩ a2).setCell ⟨b, 3, none⟩ a3).setCell ⟨b, 4, none⟩ a4).setCell ⟨b, 5, none⟩ a5).setCell ⟨b, 6, none⟩ a6).setCell ⟨b, 7, none⟩ a7).setCell ⟨b, 8, none⟩ a8).setCell ⟨b, 9, none⟩ a9).setCell ⟨b, 10, none⟩ a10) := put11_only W b a0 a1 a2 a3 a4 a5 a6 a7 a8 a9 a10
theorem append_ch_g {w : World} {ops : Array Oper} {rest : List Oper} {o : Oper} {a : Act} {Q : Exit → Act → World → Prop} (hgd : o.guard = none) (s x : Operand)
    (ho : o.op = .call { callee := .builtin .append, args := #[s, x], argTypes := #[53, 53] })
    (base : Nat) (v : Value) (xs : List Chg) (hs : a.eval s = v) (hown : w.ownsRow base 55 4 v xs.length (cellsC xs)) (g : Nat) (y : Chg) (hx : a.eval x = .slice (some ⟨g, 0, none⟩) 1 1)
    (hg : At4 w g 0 y) (hb : xs.length ≤ 3000000) (hbase : base ≤ w.heap.size)
    (h : ∀ a' c' w', w'.ownsRow base 55 4 (.slice a' (xs.length + 1) c') (xs ++ [y]).length (cellsC (xs ++ [y])) → Below base w w' → (w' = w ∨ w.grownBy w' v.ownBlock) → wpList Tryz.prog ops Q rest (a.put o.dst (.slice a' (xs.length + 1) c')) w') : wpList Tryz.prog ops Q (o :: rest) a w := by
  refine append_chs hgd s x ho base v (.slice (some ⟨g, 0, none⟩) 1 1) xs [y] hs hown hx (.inr ⟨g, 0, 1, rfl, fun j hj => ?_⟩) hb (by simp) hbase ?_
  · obtain rfl : j = 0 := by simpa using hj
    exact hg
  · intro a' c' w' h1 h2 hgr
    have h3 := h a' c' w'
    have e : (xs ++ [y]).length = xs.length + 1 := by simp
    rw [e] at h1 ⊢
    rw [e] at h3
    exact h3 h1 h2 hgr
theorem own_other {w : World} {base n b : Nat} {v : Value} {xs : List Value} {cs : Array Value} {t : TypeId} (h : w.ownsRow base 55 4 v n xs) (hb : w.heap[b]? = some (.cells cs t (0, 0))) (ht : t ≠ 55) : some b ≠ v.ownBlock := by
  rcases h.2 with ⟨rfl, _⟩ | ⟨g, cap, cur, rfl, _, hg, _⟩
  · simp [Value.ownBlock]
  · intro e
    have e' : b = g := by simpa [Value.ownBlock] using e
    subst e'
    rw [hg] at hb
    injection hb with hb
    injection hb with _ hb
    exact ht hb.symm
structure Kept (w8 : World) (p1 p2 pf : Nat) (W : World) : Prop where
  k1 : W.heap[p1]? = w8.heap[p1]?
  k2 : W.heap[p2]? = w8.heap[p2]?
  kf : W.heap[pf]? = w8.heap[pf]?
def EvB (w0 w : World) (X : Ev) (s : Value) (W : World) : Prop :=
  ∃ (b : Nat) (a6 : Option Addr) (c6 : Nat) (a9 : Option Addr) (c9 : Nat) (a10 : Option Addr) (c10 : Nat), s = .pointer (some ⟨b, 0, none⟩) ∧ W.heap[b]? = some (.cells (X.cells (.slice a6 X.ru.ds.length c6) (.slice a9 X.sk.length c9) (.slice a10 X.mv.length c10)) 40) ∧
    Rv w0 X (.slice a6 X.ru.ds.length c6) (.slice a9 X.sk.length c9) (.slice a10 X.mv.length c10) ∧ Below w.heap.size w W
structure DAt (w1 : World) (L1 L2 : List Ev) (k m : Nat) (a : Option Addr) (c : Nat) (X : List Chg) (W : World) : Prop where
  len : m = (difK L1 L2 k ++ X).length
  own : W.ownsRow w1.heap.size 55 4 (.slice a m c) (difK L1 L2 k ++ X).length (cellsC (difK L1 L2 k ++ X))
  low : Below w1.heap.size w1 W
set_option maxRecDepth 100000 in
set_option maxHeartbeats 16000000 in
theorem diffOf_any (w : World) (v1 v2 : Value) (ys1 ys2 : List EvV) (L1 L2 : List Ev) (h1 : RM w v1 ys1 L1) (h2 : RM w v2 ys2 L2) :
    Calls Tryz.prog 22 #[.agg #[v1], .agg #[v2]] w fun r w' => ∃ v, r = .returned v ∧ CReads w' v (dif L1 L2) ∧ Below w.heap.size w w' := by
  have hf1 := h1.few
  have hf2 := h2.few
  obtain ⟨a1, c1, rfl⟩ := h1.model.shape
  obtain ⟨a2, c2, rfl⟩ := h2.model.shape
  obtain ⟨n1, hn1⟩ : ∃ n, ys1.length = n := ⟨_, rfl⟩
  obtain ⟨n2, hn2⟩ : ∃ n, ys2.length = n := ⟨_, rfl⟩
  obtain ⟨p, hp⟩ : ∃ p, w.heap.size = p := ⟨_, rfl⟩
  rw [hn1] at h1 hf1 ⊢
  rw [hn2] at h2 hf2 ⊢
  obtain ⟨W, hW⟩ : ∃ W, (w.alloc (.cells #[.slice a1 n1 c1] 27)).alloc (.cells #[.slice a2 n2 c2] 27) = W := ⟨_, rfl⟩
  have hB : Below w.heap.size w W := by rw [← hW]; exact ((Below.refl _ w).alloc (Nat.le_refl _) _).alloc (by simp) _
  have hx0 : W.heap[p]? = some (.cells #[.slice a1 n1 c1] 27) := by rw [← hW, ← hp]; exact (Below.heap_alloc _ _ _ (by simp)).trans (heap_new w _)
  have hx1 : W.heap[p + 1]? = some (.cells #[.slice a2 n2 c2] 27) := by
    rw [← hW, ← hp]
    have h := heap_new (w.alloc (.cells #[.slice a1 n1 c1] 27)) (.cells #[.slice a2 n2 c2] 27)
    rwa [World.size_alloc] at h
  have hr1 := h1.below hB
  have hr2 := h2.below hB
  have HAL := Lib.hid (allIDs_any W _ _ ys1 ys2 L1 L2 hr1.model hr1.same hr1.good.asc (by have := hr1.good.few; omega) hr2.model hr2.same (by have := hr2.good.few; omega))
  have hun := uni_few hr1.good hr2.good
  obtain ⟨x0, -⟩ := cell1r hx0
  obtain ⟨x1, -⟩ := cell1r hx1
  have HX0 := Lib.hid hx0
  have HX1 := Lib.hid hx1
  have HB := Lib.hid hB
  have HW := Lib.hid hW
  have HP := Lib.hid hp
  have HR1 := Lib.hid hr1
  have HR2 := Lib.hid hr2
  have HN1 := Lib.hid hn1
  have HN2 := Lib.hid hn2
  clear hW hB hx0 hx1 hp hr1 hr2 h1 h2 hn1 hn2
  go_enter Tryz.func22, Tryz.ntmps22
  go_upto_region 1 with fail
  rw [HW.out, HP.out]
  go_wp2_with fail
  (with_reducible refine HAL.out.mono ?_)
  rintro e1 w1 ⟨vi, rfl, hrd, hb1⟩
  have hul := uniI_len L1 L2
  have HRD := Lib.hid hrd
  obtain ⟨ia, ic, rfl⟩ := hrd.shape
  obtain ⟨n, hn⟩ : ∃ n, (uniI L1 L2).length = n := ⟨_, rfl⟩
  rw [hn] at hul HRD ⊢
  have hn120 : n ≤ 120 := by omega
  have HUL := Lib.hid hul
  have HN := Lib.hid hn
  have HB1 := Lib.hid (HB.out.trans (hb1.mono HB.out.size))
  have HQ0 := Lib.hid (row_below HX0.out hb1)
  have HQ1 := Lib.hid (row_below HX1.out hb1)
  have HM1 := Lib.hid (HR1.out.below hb1)
  have HM2 := Lib.hid (HR2.out.below hb1)
  clear hrd hb1 hul hn x0 x1 HAL hun
  go_wp2_with fail
  go_loopw [6, 7, 8, 9, 10, 11, 12, 13, 14, 15, 16] (fun v6 i _ _ _ _ _ _ _ _ _ wr => ∃ (k m : Nat) (a6 : Option Addr) (c6 : Nat), k ≤ n ∧ i = .int .i64 (k : Int) ∧ v6 = .slice a6 m c6 ∧ DAt w1 L1 L2 k m a6 c6 [] wr) (fun _ i _ _ _ _ _ _ _ _ _ _ => n - (intOf i).toNat)
  case atStart => exact ⟨0, 0, none, 0, Nat.zero_le _, rfl, rfl, rfl, ⟨rfl, .inl ⟨rfl, rfl⟩⟩, Below.refl _ _⟩
  case round =>
    obtain ⟨k, m, a6, c6, hk, rfl, rfl, hat⟩ := hrel
    have hml : m ≤ 720 := by
      rw [hat.len, List.append_nil]
      have := difK_len L1 L2 k (by rw [← HUL.out]; exact hk)
      omega
    have HAT := Lib.hid hat
    have hlow := hat.low
    clear hat
    by_cases hlt : k < n
    · have hku : k < (uniK L1 L2).length := by rw [← HUL.out]; exact hlt
      have hst := difK_step hku
      have hmem := els_mem hku
      have hat := uniI_at hku
      obtain ⟨g, off, cap, e1, hc⟩ := HRD.out.at (by intro h; have := HN.out; rw [h] at this; simp at this; omega)
      rw [HN.out] at e1
      injection e1 with e2 e9 e3
      clear e9
      subst e2 e3
      have c0 := cell_later hlow (hc k _ hat)
      obtain ⟨id, hid⟩ : ∃ id, mk (Txs.els (uniK L1 L2) k) = id := ⟨_, rfl⟩
      have hin : hasK id.data.toList L1 = true ∨ hasK id.data.toList L2 = true := by rw [← hid]; exact mem_uniK.1 hmem
      rw [hid] at c0 hst
      have hq0 := row_below HQ0.out hlow
      have hq1 := row_below HQ1.out hlow
      obtain ⟨x0, -⟩ := cell1r hq0
      have HTX := Lib.hid (textOf_any wr _ ys1 L1 id (HM1.out.below hlow))
      have HTY := Lib.hid (fun W (hw : Below w1.heap.size w1 W) => textOf_any W _ ys2 L2 id (HM2.out.below hw))
      obtain ⟨T1, hT1⟩ : ∃ T, Mg.txt id.data.toList L1 = T := ⟨_, rfl⟩
      obtain ⟨T2, hT2⟩ : ∃ T, Mg.txt id.data.toList L2 = T := ⟨_, rfl⟩
      rw [hT1] at HTX
      simp only [hT2] at HTY
      have HT1 := Lib.hid hT1
      have HT2 := Lib.hid hT2
      have HST := Lib.hid hst
      have HIN := Lib.hid hin
      have HLOW := Lib.hid hlow
      have HQ0' := Lib.hid hq0
      have HQ1' := Lib.hid hq1
      clear hku hst hmem hat hc hid hin hq0 hq1 hT1 hT2 hlow
      go_wp2_with fail
      (with_reducible refine HTX.out.mono ?_)
      rintro e2 w2 ⟨rfl, hb2⟩
      have HB2 := Lib.hid (HLOW.out.trans (hb2.mono HLOW.out.size))
      obtain ⟨x1, -⟩ := cell1r (row_below HQ1'.out hb2)
      have HO2 := Lib.hid (own_later4 HAT.out.own hb2)
      clear hb2 c0 x0
      go_wp2_with fail
      (with_reducible refine (HTY.out _ HB2.out).mono ?_)
      rintro e3 w3 ⟨rfl, hb3⟩
      have HB3 := Lib.hid (HB2.out.trans (hb3.mono HB2.out.size))
      have HO3 := Lib.hid (own_later4 HO2.out hb3)
      clear hb3 x1
      have hb3s := HB3.out.size
      by_cases hnil : T1 = nilB ∨ T2 = nilB
      · -- one of the two has none
        have hd : difF fieldL L1 L2 id = [⟨id, allB, T1, T2⟩] := by
          unfold difF
          by_cases q1 : hasK id.data.toList L1 = false
          · have q2 : hasK id.data.toList L2 = true := HIN.out.resolve_left (by rw [q1]; simp)
            rw [if_pos q1, ← HT1.out, ← HT2.out, Mg.txt_nil.2 q1]
            unfold Mg.txt
            rw [if_pos q2]
          · have q1' : hasK id.data.toList L1 = true := by simpa using q1
            have ht1 : T1 ≠ nilB := fun h => by rw [← HT1.out] at h; exact q1 (Mg.txt_nil.1 h)
            have q2 : hasK id.data.toList L2 = false := by have h := hnil.resolve_left ht1; rw [← HT2.out] at h; exact Mg.txt_nil.1 h
            rw [if_neg q1, if_pos q2, ← HT1.out, ← HT2.out, Mg.txt_nil.2 q2]
            unfold Mg.txt
            rw [if_pos q1']
        have HD := Lib.hid hd
        clear hd
        go_upto_region 9 with fail
        go_cut [41] from 20 to 95 (fun s41 wc => s41 = .bool true ∧ wc = w3)
        case first =>
          by_cases ht1 : T1 = nilB
          · have ht1' : T1 = ⟨#[]⟩ := ht1
            subst ht1'
            clear ht1 hnil
            go_wp2_with fail
            go_meet
            exact ⟨rfl, rfl⟩
          · have ht2 : T2 = ⟨#[]⟩ := hnil.resolve_left ht1
            obtain ⟨nn1, nn2⟩ := nil_no ht1
            subst ht2
            clear ht1 hnil
            go_wp2_with fail
            go_meet
            exact ⟨rfl, rfl⟩
        case rest =>
          obtain ⟨rfl, hwc⟩ := hcut
          obtain ⟨w4, hw4⟩ : ∃ x, x = wc := ⟨_, rfl⟩
          subst hw4
          subst hwc
          clear hnil
          go_wp2_with (at_builtin
                       refine append_ch rfl (.tmp 42) (.tmp 47) rfl w1.heap.size (.slice a6 m c6) (difK L1 L2 k ++ []) rfl (HO3.out.alloc _) w4.heap.size ⟨id, ⟨#[97, 108, 108]⟩, T1, T2⟩ rfl (at4_box (heap_new w4 _)) (by rw [← HAT.out.len]; omega) (by simp; omega) ?_
                       intro a8 c8 w8 hown8 hb8
                       rw [← HAT.out.len]
                       have HO8 := Lib.hid hown8
                       have HB8 := Lib.hid hb8
                       clear hown8 hb8)
          go_roundw
          case rel =>
            have hx : difK L1 L2 k ++ [] ++ [⟨id, ⟨#[97, 108, 108]⟩, T1, T2⟩] = difK L1 L2 (k + 1) ++ [] := by
              rw [HST.out, HD.out, List.append_nil, List.append_nil]; rfl
            have ho := HO8.out
            have hl := HAT.out.len
            rw [hx] at ho
            have hl2 : m + 1 = (difK L1 L2 (k + 1) ++ []).length := by rw [← hx, List.length_append, ← hl]; rfl
            refine ⟨k + 1, m + 1, a8, c8, by omega, by go_num, rfl, hl2, ?_, (HB3.out.alloc HB3.out.size _).trans HB8.out⟩
            rw [← HAT.out.len] at ho
            exact ho
          case measure => simp [intOf]; omega
      · -- both have one
        have ht1 : T1 ≠ nilB := fun h => hnil (.inl h)
        have ht2 : T2 ≠ nilB := fun h => hnil (.inr h)
        have hq1 : hasK id.data.toList L1 = true := by
          cases h : hasK id.data.toList L1 with
          | true => rfl
          | false => exact absurd (HT1.out.symm.trans (Mg.txt_nil.2 h)) ht1
        have hq2 : hasK id.data.toList L2 = true := by
          cases h : hasK id.data.toList L2 with
          | true => rfl
          | false => exact absurd (HT2.out.symm.trans (Mg.txt_nil.2 h)) ht2
        obtain ⟨X1, hX1⟩ : ∃ x, foundE id.data.toList L1 = x := ⟨_, rfl⟩
        obtain ⟨X2, hX2⟩ : ∃ x, foundE id.data.toList L2 = x := ⟨_, rfl⟩
        have hd : difF fieldL L1 L2 id = selC (getL X1) (getL X2) id 6 := by
          unfold difF
          rw [if_neg (by rw [hq1]; simp), if_neg (by rw [hq2]; simp), hX1, hX2]; rfl
        have hg1 : badE X1 = 0 ∧ Size X1 := by rw [← hX1]; exact ⟨HR1.out.good.good _ (foundE_has hq1).1, HR1.out.fit _ (foundE_has hq1).1⟩
        have hg2 : badE X2 = 0 ∧ Size X2 := by rw [← hX2]; exact ⟨HR2.out.good.good _ (foundE_has hq2).1, HR2.out.fit _ (foundE_has hq2).1⟩
        have HG1 := Lib.hid hg1
        have HG2 := Lib.hid hg2
        have HD := Lib.hid hd
        have HXE1 := Lib.hid hX1
        have HXE2 := Lib.hid hX2
        obtain ⟨nn1, nn2⟩ := nil_no ht1
        obtain ⟨nn3, nn4⟩ := nil_no ht2
        have HM1' := Lib.hid (HM1.out.below HB3.out)
        have HQ0'' := Lib.hid (row_below HQ0.out HB3.out)
        clear hd hg1 hg2 hnil ht1 ht2 hX1 hX2
        go_upto_region 11 with fail
        clear nn1 nn2 nn3 nn4
        -- the event of L1
        obtain ⟨j1, hj, hje⟩ := HM1'.out.has_at hq1
        obtain ⟨-, b1, o1, rfl, hcc⟩ := HM1'.out.model.at (by intro h; rw [h] at hj; exact absurd hj (Nat.not_lt_zero _))
        have hfj := fun W (hw : Below w3.heap.size w3 W) => (rfind_any ys1 _ id W (HM1'.out.below hw).model (by rw [HN1.out]; omega)).mono fun r w' ⟨n5, h5, h6, h7⟩ => (⟨by rw [h5, (HM1'.out.below hw).one h6 hq1 hj hje], h7⟩ : r = Ending.returned (Value.int .i64 (j1 : Int)) ∧ Below W.heap.size W w')
        obtain ⟨-, _, _, eb1, hcc1⟩ := HM1.out.model.at (by intro h; rw [h] at hj; exact absurd hj (Nat.not_lt_zero _))
        cases eb1
        have hrv0 := (hcc1 j1 hj).2
        have hjn : j1 < n1 := by rw [← HN1.out]; exact hj
        have hj0 : ¬ (j1 : Int) < 0 := by omega
        have hcl : ∀ W, Below w3.heap.size w3 W → At11 W b1 (o1 + j1 * 11) (el ys1 j1) := fun W hw => (hcc j1 hj).1.below hw
        obtain ⟨x, hx0⟩ : ∃ x, el ys1 j1 = x := ⟨_, rfl⟩
        rw [hx0] at hrv0 hcl hje
        obtain ⟨ev1, ud, us, um⟩ := x
        change Rv w1 ev1 ud us um at hrv0
        change ev1 = _ at hje
        obtain ⟨a6_1, c6_1, rfl⟩ := hrv0.d.shape
        obtain ⟨a9_1, c9_1, rfl⟩ := hrv0.s.shape
        obtain ⟨a10_1, c10_1, rfl⟩ := hrv0.m.shape
        have hX1 : ev1 = X1 := hje.trans HXE1.out
        have HXX1 := Lib.hid hX1
        have hs := fun W (hw : Below w3.heap.size w3 W) => (show W.cell? ⟨p, 0, none⟩ = some (.slice (some ⟨b1, o1, none⟩) n1 c1) ∧ W.cell? ⟨b1, o1 + j1 * 11, none⟩ = some (.string ev1.id) ∧ W.cell? ⟨b1, o1 + j1 * 11 + 1, none⟩ = some (.string ev1.ti) ∧ W.cell? ⟨b1, o1 + j1 * 11 + 2, none⟩ = some (.int .i64 ev1.st) ∧ W.cell? ⟨b1, o1 + j1 * 11 + 3, none⟩ = some (.int .i64 ev1.lg) ∧ W.cell? ⟨b1, o1 + j1 * 11 + 4, none⟩ = some (.string ev1.ru.fq) ∧ W.cell? ⟨b1, o1 + j1 * 11 + 5, none⟩ = some (.int .i64 ev1.ru.ev) ∧ W.cell? ⟨b1, o1 + j1 * 11 + 6, none⟩ = some (.slice a6_1 ev1.ru.ds.length c6_1) ∧ W.cell? ⟨b1, o1 + j1 * 11 + 7, none⟩ = some (.int .i64 ev1.ru.ct) ∧ W.cell? ⟨b1, o1 + j1 * 11 + 8, none⟩ = some (.int .i64 ev1.ru.un) ∧ W.cell? ⟨b1, o1 + j1 * 11 + 9, none⟩ = some (.slice a9_1 ev1.sk.length c9_1) ∧ W.cell? ⟨b1, o1 + j1 * 11 + 10, none⟩ = some (.slice a10_1 ev1.mv.length c10_1) from by
          obtain ⟨d0, d1, d2, d3, d4, d5, d6, d7, d8, d9, d10⟩ := hcl W hw
          exact ⟨(cell1r (row_below HQ0''.out hw)).1, d0, d1, d2, d3, d4, d5, d6, d7, d8, d9, d10⟩)
        have HS := Lib.hid hs
        have HFJ := Lib.hid hfj
        have HRV0_1 := Lib.hid hrv0
        have hda : Below w3.heap.size w3 (w3.alloc (.cells zeroV 40)) := (Below.refl _ _).alloc (Nat.le_refl _) _
        have HACC0 := Lib.hid hda
        have HACC := Lib.hid (show Below w3.heap.size w3 (w3.alloc (.cells zeroV 40)).drew from below_draw hda 1)
        have HZN := Lib.hid (show (w3.alloc (.cells zeroV 40)).drew.heap[w3.heap.size]? = some (.cells zeroV 40) from heap_new w3 _)
        have hacc : Below w3.heap.size w3 w3.drew := below_draw (Below.refl _ _) 1
        clear hq1 hj hje hcc hcc1 hfj hrv0 hcl hx0 hX1 hs hda
        go_upto_region 11 with fail
        go_cut [11] from 20 to 95 (fun s wc => EvB w1 w3 ev1 s wc)
        case first =>
          go_region_held3 (fun W => W.cell? ⟨p, 0, none⟩ = some (.slice (some ⟨b1, o1, none⟩) n1 c1) ∧ W.cell? ⟨b1, o1 + j1 * 11, none⟩ = some (.string ev1.id) ∧ W.cell? ⟨b1, o1 + j1 * 11 + 1, none⟩ = some (.string ev1.ti) ∧ W.cell? ⟨b1, o1 + j1 * 11 + 2, none⟩ = some (.int .i64 ev1.st) ∧ W.cell? ⟨b1, o1 + j1 * 11 + 3, none⟩ = some (.int .i64 ev1.lg) ∧ W.cell? ⟨b1, o1 + j1 * 11 + 4, none⟩ = some (.string ev1.ru.fq) ∧ W.cell? ⟨b1, o1 + j1 * 11 + 5, none⟩ = some (.int .i64 ev1.ru.ev) ∧ W.cell? ⟨b1, o1 + j1 * 11 + 6, none⟩ = some (.slice a6_1 ev1.ru.ds.length c6_1) ∧ W.cell? ⟨b1, o1 + j1 * 11 + 7, none⟩ = some (.int .i64 ev1.ru.ct) ∧ W.cell? ⟨b1, o1 + j1 * 11 + 8, none⟩ = some (.int .i64 ev1.ru.un) ∧ W.cell? ⟨b1, o1 + j1 * 11 + 9, none⟩ = some (.slice a9_1 ev1.sk.length c9_1) ∧ W.cell? ⟨b1, o1 + j1 * 11 + 10, none⟩ = some (.slice a10_1 ev1.mv.length c10_1))
            (first
              | with_reducible exact HS.out _ hacc
              | with_reducible exact HS.out _ HACC.out
              | with_reducible exact HS.out _ HACC0.out
              | with_reducible exact HS.out _ (hacc.alloc hacc.size _)
              | ((with_reducible refine HS.out _ (hacc.trans ((only11 ..).below ?_)))
                 (first | exact hpz | exact Nat.le_refl _)))
            (first
              | ((with_reducible refine (HFJ.out _ hacc).mono ?_)
                 rintro e5 w5 ⟨rfl, hb5⟩
                 replace hacc := hacc.trans (hb5.mono hacc.size))
              | ((with_reducible refine (HFJ.out _ HACC.out).mono ?_)
                 rintro e5 w5 ⟨rfl, hb5⟩
                 have hz5 := row_below HZN.out hb5
                 have hpz := Nat.le_refl w3.heap.size
                 replace hacc := HACC.out.trans (hb5.mono HACC.out.size)
                 obtain ⟨kz0, kz1, kz2, kz3, kz4, kz5, kz6, kz7, kz8, kz9, kz10⟩ := cells11 hz5
                 obtain ⟨ky0, ky1, ky2, ky3, ky4, ky5, ky6, ky7, ky8, ky9, ky10⟩ := frozen11 hz5))
          all_goals go_wp2_with fail
          all_goals go_meet
          all_goals (first
            | (have hzz5 := hz5
               exact ⟨w3.heap.size, _, _, _, _, _, _, rfl, put11_row hz5, HRV0_1.out, hacc.trans ((put11_only ..).below (Nat.le_refl _))⟩)
            | (exact ⟨w5.heap.size, _, _, _, _, _, _, rfl, heap_new w5 _, HRV0_1.out, hacc.alloc hacc.size _⟩)
            | (exact ⟨w5.heap.size, _, _, _, _, _, _, rfl, put11_row (heap_new w5 _), HRV0_1.out, (hacc.alloc hacc.size _).trans ((put11_only ..).below hacc.size)⟩))
        case rest =>
        obtain ⟨wq1, hwq⟩ : ∃ x, x = wc := ⟨_, rfl⟩
        subst hwq
        rw [HXX1.out] at hcut
        clear a6_1 c6_1 a9_1 c9_1 a10_1 c10_1 HS HACC HACC0 HZN hacc HRV0_1 HFJ
        obtain ⟨p1, a6_1, c6_1, a9_1, c9_1, a10_1, c10_1, rfl, hrow1, hrv1, hlo1⟩ := hcut
        have HROW1 := Lib.hid hrow1
        have HRV1 := Lib.hid hrv1
        have HLO1 := Lib.hid hlo1
        clear hrow1 hrv1 hlo1
        have HM2' := Lib.hid ((HM2.out.below HB3.out).below HLO1.out)
        have HQ1'' := Lib.hid (row_below (row_below HQ1.out HB3.out) HLO1.out)
        -- the event of L2
        obtain ⟨j2, hj, hje⟩ := HM2'.out.has_at hq2
        obtain ⟨-, b2, o2, rfl, hcc⟩ := HM2'.out.model.at (by intro h; rw [h] at hj; exact absurd hj (Nat.not_lt_zero _))
        have hfj := fun W (hw : Below wq1.heap.size wq1 W) => (rfind_any ys2 _ id W (HM2'.out.below hw).model (by rw [HN2.out]; omega)).mono fun r w' ⟨n5, h5, h6, h7⟩ => (⟨by rw [h5, (HM2'.out.below hw).one h6 hq2 hj hje], h7⟩ : r = Ending.returned (Value.int .i64 (j2 : Int)) ∧ Below W.heap.size W w')
        obtain ⟨-, _, _, eb1, hcc1⟩ := HM2.out.model.at (by intro h; rw [h] at hj; exact absurd hj (Nat.not_lt_zero _))
        cases eb1
        have hrv0 := (hcc1 j2 hj).2
        have hjn : j2 < n2 := by rw [← HN2.out]; exact hj
        have hj0 : ¬ (j2 : Int) < 0 := by omega
        have hcl : ∀ W, Below wq1.heap.size wq1 W → At11 W b2 (o2 + j2 * 11) (el ys2 j2) := fun W hw => (hcc j2 hj).1.below hw
        obtain ⟨x, hx0⟩ : ∃ x, el ys2 j2 = x := ⟨_, rfl⟩
        rw [hx0] at hrv0 hcl hje
        obtain ⟨ev2, ud, us, um⟩ := x
        change Rv w1 ev2 ud us um at hrv0
        change ev2 = _ at hje
        obtain ⟨a6_2, c6_2, rfl⟩ := hrv0.d.shape
        obtain ⟨a9_2, c9_2, rfl⟩ := hrv0.s.shape
        obtain ⟨a10_2, c10_2, rfl⟩ := hrv0.m.shape
        have hX2 : ev2 = X2 := hje.trans HXE2.out
        have HXX2 := Lib.hid hX2
        have hs := fun W (hw : Below wq1.heap.size wq1 W) => (show W.cell? ⟨p + 1, 0, none⟩ = some (.slice (some ⟨b2, o2, none⟩) n2 c2) ∧ W.cell? ⟨b2, o2 + j2 * 11, none⟩ = some (.string ev2.id) ∧ W.cell? ⟨b2, o2 + j2 * 11 + 1, none⟩ = some (.string ev2.ti) ∧ W.cell? ⟨b2, o2 + j2 * 11 + 2, none⟩ = some (.int .i64 ev2.st) ∧ W.cell? ⟨b2, o2 + j2 * 11 + 3, none⟩ = some (.int .i64 ev2.lg) ∧ W.cell? ⟨b2, o2 + j2 * 11 + 4, none⟩ = some (.string ev2.ru.fq) ∧ W.cell? ⟨b2, o2 + j2 * 11 + 5, none⟩ = some (.int .i64 ev2.ru.ev) ∧ W.cell? ⟨b2, o2 + j2 * 11 + 6, none⟩ = some (.slice a6_2 ev2.ru.ds.length c6_2) ∧ W.cell? ⟨b2, o2 + j2 * 11 + 7, none⟩ = some (.int .i64 ev2.ru.ct) ∧ W.cell? ⟨b2, o2 + j2 * 11 + 8, none⟩ = some (.int .i64 ev2.ru.un) ∧ W.cell? ⟨b2, o2 + j2 * 11 + 9, none⟩ = some (.slice a9_2 ev2.sk.length c9_2) ∧ W.cell? ⟨b2, o2 + j2 * 11 + 10, none⟩ = some (.slice a10_2 ev2.mv.length c10_2) from by
          obtain ⟨d0, d1, d2, d3, d4, d5, d6, d7, d8, d9, d10⟩ := hcl W hw
          exact ⟨(cell1r (row_below HQ1''.out hw)).1, d0, d1, d2, d3, d4, d5, d6, d7, d8, d9, d10⟩)
        have HS := Lib.hid hs
        have HFJ := Lib.hid hfj
        have HRV0_2 := Lib.hid hrv0
        have hda : Below wq1.heap.size wq1 (wq1.alloc (.cells zeroV 40)) := (Below.refl _ _).alloc (Nat.le_refl _) _
        have HACC0 := Lib.hid hda
        have HACC := Lib.hid (show Below wq1.heap.size wq1 (wq1.alloc (.cells zeroV 40)).drew from below_draw hda 1)
        have HZN := Lib.hid (show (wq1.alloc (.cells zeroV 40)).drew.heap[wq1.heap.size]? = some (.cells zeroV 40) from heap_new wq1 _)
        have hacc : Below wq1.heap.size wq1 wq1.drew := below_draw (Below.refl _ _) 1
        clear hq2 hj hje hcc hcc1 hfj hrv0 hcl hx0 hX2 hs hda
        go_upto_region 12 with fail
        go_cut [12] from 20 to 95 (fun s wc => EvB w1 wq1 ev2 s wc)
        case first =>
          go_region_held3 (fun W => W.cell? ⟨p + 1, 0, none⟩ = some (.slice (some ⟨b2, o2, none⟩) n2 c2) ∧ W.cell? ⟨b2, o2 + j2 * 11, none⟩ = some (.string ev2.id) ∧ W.cell? ⟨b2, o2 + j2 * 11 + 1, none⟩ = some (.string ev2.ti) ∧ W.cell? ⟨b2, o2 + j2 * 11 + 2, none⟩ = some (.int .i64 ev2.st) ∧ W.cell? ⟨b2, o2 + j2 * 11 + 3, none⟩ = some (.int .i64 ev2.lg) ∧ W.cell? ⟨b2, o2 + j2 * 11 + 4, none⟩ = some (.string ev2.ru.fq) ∧ W.cell? ⟨b2, o2 + j2 * 11 + 5, none⟩ = some (.int .i64 ev2.ru.ev) ∧ W.cell? ⟨b2, o2 + j2 * 11 + 6, none⟩ = some (.slice a6_2 ev2.ru.ds.length c6_2) ∧ W.cell? ⟨b2, o2 + j2 * 11 + 7, none⟩ = some (.int .i64 ev2.ru.ct) ∧ W.cell? ⟨b2, o2 + j2 * 11 + 8, none⟩ = some (.int .i64 ev2.ru.un) ∧ W.cell? ⟨b2, o2 + j2 * 11 + 9, none⟩ = some (.slice a9_2 ev2.sk.length c9_2) ∧ W.cell? ⟨b2, o2 + j2 * 11 + 10, none⟩ = some (.slice a10_2 ev2.mv.length c10_2))
            (first
              | with_reducible exact HS.out _ hacc
              | with_reducible exact HS.out _ HACC.out
              | with_reducible exact HS.out _ HACC0.out
              | with_reducible exact HS.out _ (hacc.alloc hacc.size _)
              | ((with_reducible refine HS.out _ (hacc.trans ((only11 ..).below ?_)))
                 (first | exact hpz | exact Nat.le_refl _)))
            (first
              | ((with_reducible refine (HFJ.out _ hacc).mono ?_)
                 rintro e5 w5 ⟨rfl, hb5⟩
                 replace hacc := hacc.trans (hb5.mono hacc.size))
              | ((with_reducible refine (HFJ.out _ HACC.out).mono ?_)
                 rintro e5 w5 ⟨rfl, hb5⟩
                 have hz5 := row_below HZN.out hb5
                 have hpz := Nat.le_refl wq1.heap.size
                 replace hacc := HACC.out.trans (hb5.mono HACC.out.size)
                 obtain ⟨kz0, kz1, kz2, kz3, kz4, kz5, kz6, kz7, kz8, kz9, kz10⟩ := cells11 hz5
                 obtain ⟨ky0, ky1, ky2, ky3, ky4, ky5, ky6, ky7, ky8, ky9, ky10⟩ := frozen11 hz5))
          all_goals go_wp2_with fail
          all_goals go_meet
          all_goals (first
            | (have hzz5 := hz5
               exact ⟨wq1.heap.size, _, _, _, _, _, _, rfl, put11_row hz5, HRV0_2.out, hacc.trans ((put11_only ..).below (Nat.le_refl _))⟩)
            | (exact ⟨w5.heap.size, _, _, _, _, _, _, rfl, heap_new w5 _, HRV0_2.out, hacc.alloc hacc.size _⟩)
            | (exact ⟨w5.heap.size, _, _, _, _, _, _, rfl, put11_row (heap_new w5 _), HRV0_2.out, (hacc.alloc hacc.size _).trans ((put11_only ..).below hacc.size)⟩))
        case rest =>
        obtain ⟨wq2, hwq⟩ : ∃ x, x = wc := ⟨_, rfl⟩
        subst hwq
        rw [HXX2.out] at hcut
        clear a6_2 c6_2 a9_2 c9_2 a10_2 c10_2 HS HACC HACC0 HZN hacc HRV0_2 HFJ
        obtain ⟨p2, a6_2, c6_2, a9_2, c9_2, a10_2, c10_2, rfl, hrow2, hrv2, hlo2⟩ := hcut
        have HROW2 := Lib.hid hrow2
        have HRV2 := Lib.hid hrv2
        have HLO2 := Lib.hid hlo2
        clear hrow2 hrv2 hlo2
        have HROW1' := Lib.hid (row_below HROW1.out HLO2.out)
        have HO4 := Lib.hid (own_later4 (own_later4 HO3.out HLO1.out) HLO2.out)
        have HB4 := Lib.hid ((HB3.out.trans (HLO1.out.mono HB3.out.size)).trans (HLO2.out.mono (Nat.le_trans HB3.out.size HLO1.out.size)))
        have HFL := Lib.hid (rfields_low wq2)
        obtain ⟨gx, hgx⟩ : ∃ g, getL X1 = g := ⟨_, rfl⟩
        obtain ⟨gy, hgy⟩ : ∃ g, getL X2 = g := ⟨_, rfl⟩
        have HGX := Lib.hid hgx
        have HGY := Lib.hid hgy
        clear hgx hgy
        go_wp2_with fail
        (with_reducible refine HFL.out.mono ?_)
        rintro e8 w8 ⟨rfl, hf8, hb8⟩
        have HF8 := Lib.hid hf8
        have HB8 := Lib.hid hb8
        have hs8 : wq2.heap.size < w8.heap.size := (Array.getElem?_eq_some_iff.1 hf8).1
        have HO8 := Lib.hid (own_later4 HO4.out hb8)
        clear hf8 hb8
        have HXC := Lib.hid (row_below HROW1'.out HB8.out)
        have HYC := Lib.hid (row_below HROW2.out HB8.out)
        go_wp2_with fail
        go_loopw [6, 14, 15, 16] (fun v6 i _ _ wr => ∃ (k2 m2 : Nat) (a7 : Option Addr) (c7 : Nat), k2 ≤ 6 ∧ i = .int .i64 (k2 : Int) ∧ v6 = .slice a7 m2 c7 ∧ DAt w1 L1 L2 k m2 a7 c7 (selC gx gy id k2) wr ∧ Kept w8 p1 p2 wq2.heap.size wr) (fun _ i _ _ _ => 6 - (intOf i).toNat)
        case atStart =>
          refine ⟨0, m, a6, c6, Nat.zero_le _, rfl, rfl, ⟨HAT.out.len, HO8.out, ?_⟩, rfl, rfl, rfl⟩
          exact HB4.out.trans (HB8.out.mono HB4.out.size)
        case round =>
          obtain ⟨k2, m2, a7, c7, hk2, rfl, rfl, hat, hbr⟩ := hrel
          have hm2 : m2 ≤ 730 := by
            rw [hat.len, List.length_append]
            have h1 := difK_len L1 L2 k (by rw [← HUL.out]; exact hk)
            have h2 := selC_len gx gy id k2 hk2
            omega
          have HAT2 := Lib.hid hat
          have HBR := Lib.hid hbr
          clear hat hbr
          by_cases hlt2 : k2 < 6
          · have c1 := field_cell (HBR.out.kf.trans HF8.out) hlt2
            have hst := selC_step gx gy id hlt2
            obtain ⟨f, hf⟩ : ∃ f, fAt k2 = f := ⟨_, rfl⟩
            have hf2 : fieldL.getD k2 ByteArray.empty = f := hf
            rw [hf2] at c1
            rw [hf] at hst
            have hX := HBR.out.k1.trans (row_below HROW1'.out HB8.out)
            have hY := HBR.out.k2.trans (row_below HROW2.out HB8.out)
            obtain ⟨k0, k1, k2, k3, k4, k5, k6, k7, k8, k9, k10⟩ := cells11 hX
            obtain ⟨j0, j1, j2, j3, j4, j5, j6, j7, j8, j9, j10⟩ := cells11 hY
            obtain ⟨S, hS⟩ : ∃ S, gx f = S := ⟨_, rfl⟩
            obtain ⟨T, hT⟩ : ∃ T, gy f = T := ⟨_, rfl⟩
            rw [hS, hT] at hst
            have hgx := fieldOf_any X1 _ _ _ f wr.drew ((HRV1.out.below HAT2.out.low).below (show Below wr.heap.size wr wr.drew from Tp.below_drew (Below.refl _ _))) HG1.out.1 HG1.out.2.ds
            have hgy := fun W (hw : Below w1.heap.size w1 W) => fieldOf_any X2 _ _ _ f W (HRV2.out.below hw) HG2.out.1 HG2.out.2.ds
            simp only [HGX.out] at hgx
            simp only [HGY.out] at hgy
            rw [hS] at hgx
            simp only [hT] at hgy
            have HFX := Lib.hid hgx
            have HFY := Lib.hid hgy
            have HST2 := Lib.hid hst
            have HX1' := Lib.hid hX
            have HY1' := Lib.hid hY
            clear hgx hgy hst hf hf2 hS hT hX hY
            go_upto_region 17 with fail
            go_cut [15] from 64 to 95 (fun s wc => s = .string S ∧ Below wr.heap.size wr wc)
            case first =>
              go_region_with (
                (with_reducible refine HFX.out.mono ?_)
                rintro e6 w6 ⟨rfl, hb6⟩
                have hb36 := (show Below wr.heap.size wr wr.drew from Tp.below_drew (Below.refl _ _)).trans hb6)
              all_goals go_wp2_with fail
              all_goals go_meet
              all_goals exact ⟨rfl, hb36⟩
            case rest =>
            obtain ⟨wf1, hwf1⟩ : ∃ x, x = wc := ⟨_, rfl⟩
            subst hwf1
            obtain ⟨rfl, hbf1⟩ := hcut
            have HBF1 := Lib.hid hbf1
            have hwf := HAT2.out.low.trans (hbf1.mono HAT2.out.low.size)
            have c1' := cell_later hbf1 c1
            have hY := row_below HY1'.out hbf1
            clear hbf1 c1 k0 k1 k2 k3 k4 k5 k6 k7 k8 k9 k10 j0 j1 j2 j3 j4 j5 j6 j7 j8 j9 j10
            obtain ⟨j0, j1, j2, j3, j4, j5, j6, j7, j8, j9, j10⟩ := cells11 hY
            have HFY' := Lib.hid (HFY.out wf1.drew (hwf.trans ((show Below wf1.heap.size wf1 wf1.drew from Tp.below_drew (Below.refl _ _)).mono hwf.size)))
            clear hY hwf
            go_upto_region 18 with fail
            go_cut [16] from 64 to 95 (fun s wc => s = .string T ∧ Below wf1.heap.size wf1 wc)
            case first =>
              go_region_with (
                (with_reducible refine HFY'.out.mono ?_)
                rintro e6 w6 ⟨rfl, hb6⟩
                have hb36 := (show Below wf1.heap.size wf1 wf1.drew from Tp.below_drew (Below.refl _ _)).trans hb6)
              all_goals go_wp2_with fail
              all_goals go_meet
              all_goals exact ⟨rfl, hb36⟩
            case rest =>
            obtain ⟨wf2, hwf2⟩ : ∃ x, x = wc := ⟨_, rfl⟩
            subst hwf2
            obtain ⟨rfl, hbf2⟩ := hcut
            have HBF2 := Lib.hid (HBF1.out.trans (hbf2.mono HBF1.out.size))
            have c2' := cell_later hbf2 c1'
            clear hbf2 c1' j0 j1 j2 j3 j4 j5 j6 j7 j8 j9 j10
            by_cases he : S = T
            · have h2 : (S.toList == T.toList) = true := by rw [he]; exact beq_self_eq_true _
              have HE := Lib.hid he
              clear he
              go_wp2_with fail
              go_roundw
              case rel =>
                have hx : selC gx gy id (k2 + 1) = selC gx gy id k2 := by rw [HST2.out, if_pos HE.out, List.append_nil]
                refine ⟨k2 + 1, m2, a7, c7, by omega, by go_num, rfl, ?_, ⟨(row_below HX1'.out HBF2.out).trans (HXC.out).symm, (row_below HY1'.out HBF2.out).trans (HYC.out).symm, (row_below (HBR.out.kf.trans HF8.out) HBF2.out).trans HF8.out.symm⟩⟩
                rw [hx]
                exact ⟨HAT2.out.len, own_later4 HAT2.out.own HBF2.out, HAT2.out.low.trans (HBF2.out.mono HAT2.out.low.size)⟩
              case measure => simp [intOf]; omega
            · have h2 : (S.toList == T.toList) = false := Tx.ba_ne he
              have HE := Lib.hid he
              have hlo2 := HAT2.out.low.trans (HBF2.out.mono HAT2.out.low.size)
              have hls2 := hlo2.size
              have HLO := Lib.hid hlo2
              clear he hlo2
              go_wp2_with (at_builtin
                           refine append_ch_g rfl (.tmp 85) (.tmp 94) rfl w1.heap.size (.slice a7 m2 c7) (difK L1 L2 k ++ selC gx gy id k2) rfl ((own_later4 HAT2.out.own HBF2.out).alloc _) wf2.heap.size ⟨id, f, S, T⟩ rfl (at4_box (heap_new wf2 _)) (by rw [← HAT2.out.len]; omega) (by simp; omega) ?_
                           intro a8 c8 w9 hown9 hb9 hg9
                           have HG9 := Lib.hid hg9
                           rw [← HAT2.out.len]
                           have HO9 := Lib.hid hown9
                           have HB9 := Lib.hid hb9
                           clear hown9 hb9 hg9)
              go_roundw
              case rel =>
                have hx : difK L1 L2 k ++ selC gx gy id k2 ++ [⟨id, f, S, T⟩] = difK L1 L2 k ++ selC gx gy id (k2 + 1) := by
                  rw [HST2.out, if_neg HE.out, List.append_assoc]
                have ho := HO9.out
                have hl := HAT2.out.len
                rw [hx] at ho
                have hl2 : m2 + 1 = (difK L1 L2 k ++ selC gx gy id (k2 + 1)).length := by rw [← hx, List.length_append, ← hl]; rfl
                refine ⟨k2 + 1, m2 + 1, a8, c8, by omega, by go_num, rfl, ⟨hl2, ?_, (HLO.out.alloc HLO.out.size _).trans HB9.out⟩, ?_⟩
                · rw [← HAT2.out.len] at ho
                  exact ho
                · have kp : ∀ {b : Nat} {cs : Array Value} {t : TypeId}, wf2.heap[b]? = some (.cells cs t (0, 0)) → t ≠ 55 → w9.heap[b]? = wf2.heap[b]? := fun {b cs t} hb ht => by
                    have hlt := (Array.getElem?_eq_some_iff.1 hb).1
                    have h1 := Below.heap_alloc wf2 (.cells (Chg.cells ⟨id, f, S, T⟩) 55) b hlt
                    rcases HG9.out with h | h
                    · rw [h]; exact h1
                    · exact (h.block b (by simp; omega) (own_other (own_later4 HAT2.out.own HBF2.out) hb ht)).trans h1
                  have x1 := row_below HX1'.out HBF2.out
                  have x2 := row_below HY1'.out HBF2.out
                  have x3 := row_below (HBR.out.kf.trans HF8.out) HBF2.out
                  exact ⟨((kp x1 (by decide)).trans x1).trans HXC.out.symm, ((kp x2 (by decide)).trans x2).trans HYC.out.symm, ((kp x3 (by decide)).trans x3).trans HF8.out.symm⟩
              case measure => simp [intOf]; omega
          · obtain rfl : k2 = 6 := by omega
            go_wp2_with fail
            go_roundw
            case rel =>
              have hx : difK L1 L2 k ++ selC gx gy id 6 = difK L1 L2 (k + 1) ++ [] := by
                rw [HST.out, HD.out, HGX.out, HGY.out, List.append_nil]
              have h1 := HAT2.out.len
              have h2 := HAT2.out.own
              rw [hx] at h1 h2
              exact ⟨k + 1, m2, a7, c7, by omega, by go_num, rfl, h1, h2, HAT2.out.low⟩
            case measure => simp [intOf]; omega
    · obtain rfl : k = n := by omega
      have hall := difK_all L1 L2
      rw [← HUL.out] at hall
      have ho := HAT.out.own
      have hl := HAT.out.len
      rw [List.append_nil] at ho hl
      rw [hall] at ho hl
      have HO := Lib.hid (creads_own ho rfl)
      clear hall ho hl
      go_wp2
      go_ret
      exact ⟨_, rfl, HO.out, HB1.out.trans (hlow.mono HB1.out.size)⟩
end Rd
end Go.Proofs.YtghkalamlcfnnaaGreatDoor
