/- DfDiff, DfSame: texts joined. -/
import Derived.Test.YtghkalamlcfnnaaGreatDoorQDfOne
import Derived.Test.YtghkalamlcfnnaaGreatDoorQC2
section
namespace Go.Proofs.YtghkalamlcfnnaaGreatDoor
open Go Go.RowKit Go.Shelf Lmd
attribute [local go_sem] Oper.semAt_some
open Go.Proofs (encStr)
namespace Df
open Evt Bk Tp Rul Day Cand Er Txs
def uniK (a b : List Ev) : List (List UInt8) := Lmd.Cps.uniq (kids a ++ kids b)
def uniI (a b : List Ev) : List ByteArray := (uniK a b).map mk
theorem mem_kids {k : List UInt8} {L : List Ev} : k ∈ kids L ↔ hasK k L = true := by
  unfold kids
  rw [List.mem_map, hasK_iff]
theorem mem_uniK {k : List UInt8} {a b : List Ev} : k ∈ uniK a b ↔ hasK k a = true ∨ hasK k b = true := by
  unfold uniK
  rw [Lmd.Cps.uniq_mem, List.mem_append, mem_kids, mem_kids]
theorem uniK_len (a b : List Ev) : (uniK a b).length ≤ a.length + b.length := by
  unfold uniK Lmd.Cps.uniq
  refine Nat.le_trans (Txs.compact_len _) ?_
  rw [Txs.sort_len, List.length_append]
  simp [kids]
noncomputable def difK (a b : List Ev) (k : Nat) : List Chg := difU fieldL ((uniI a b).take k) a b
theorem difK_step {a b : List Ev} {k : Nat} (h : k < (uniK a b).length) : difK a b (k + 1) = difK a b k ++ difF fieldL a b (mk (els (uniK a b) k)) := by
  unfold difK difU
  have hl : k < (uniI a b).length := by unfold uniI; rw [List.length_map]; exact h
  rw [List.take_succ_eq_append_getElem hl, List.flatMap_append]
  congr 1
  have h2 : (uniI a b)[k]? = some (mk (els (uniK a b) k)) := by
    unfold uniI
    rw [List.getElem?_map, List.getElem?_eq_getElem h, els_lt h]; rfl
  have : (uniI a b)[k] = mk (els (uniK a b) k) := (List.getElem?_eq_some_iff.1 h2).2
  rw [this]; simp
theorem difF_len (a b : List Ev) (id : ByteArray) : (difF fieldL a b id).length ≤ 6 := by
  unfold difF
  split
  · simp
  · split
    · simp
    · rw [List.length_map]; exact Nat.le_trans (List.length_filter_le _ _) (Nat.le_refl _)
theorem difK_len (a b : List Ev) : ∀ k, k ≤ (uniK a b).length → (difK a b k).length ≤ 6 * k
  | 0, _ => by simp [difK, difU]
  | k + 1, h => by
    rw [difK_step h, List.length_append]
    have := difK_len a b k (by omega)
    have := difF_len a b (mk (els (uniK a b) k))
    omega
theorem difK_all (a b : List Ev) : difK a b (uniK a b).length = difU fieldL (uniI a b) a b := by
  unfold difK
  rw [List.take_of_length_le (by unfold uniI; rw [List.length_map]; exact Nat.le_refl _)]
def DiffP (w : World) (a b : List Ev) (r : Ending) (w' : World) : Prop :=
  ∃ v, r = .returned v ∧ w'.ownsRow w.heap.size 55 4 v (difU fieldL (uniI a b) a b).length (cellsC (difU fieldL (uniI a b) a b)) ∧ Below w.heap.size w w'
set_option maxRecDepth 100000 in
set_option maxHeartbeats 8000000 in
theorem diff_any (w : World) (B B' : Nat) (p p' : Option Addr) (a b : List Ev) (er : Nat → Addr) (hT : Tb w er) (ha : BookO w B p a) (hb : BookO w B' p' b) :
    Calls Tryz.prog 21 #[.pointer p, .pointer p'] w (DiffP w a b) := by
  obtain ⟨i0, hi0, hz0, hz1, hz2⟩ := info_parts string_info
  have hfa := ha.few
  have hfb := hb.few
  have hsm : ∀ k ∈ uniK a b, (mk k).size ≤ 9223372036854775807 := fun k hk => by
    rcases mem_uniK.1 hk with h | h
    · obtain ⟨h1, h2⟩ := foundE_has h
      have := (ha.fit _ h1).id
      rw [← h2]; exact this
    · obtain ⟨h1, h2⟩ := foundE_has h
      have := (hb.fit _ h1).id
      rw [← h2]; exact this
  have hul := uniK_len a b
  have HT := Lib.hid hT
  have HA := Lib.hid ha
  have HBK := Lib.hid hb
  have HSM := Lib.hid hsm
  have HIA := Lib.hid (ids_or w B p a ha)
  have HIB := Lib.hid (fun W (hw : Below w.heap.size w W) => ids_or W B' p' b (hb.below hw))
  clear hT ha hb hsm
  unfold DiffP
  go_enter Tryz.func21, Tryz.ntmps21
  go_wp2_with fail
  (with_reducible refine HIA.out.mono ?_)
  rintro e1 w1 ⟨v1, rfl, ho1, hb1⟩
  have HO1 := Lib.hid ho1
  have HB1 := Lib.hid hb1
  clear ho1 hb1
  go_wp2_with fail
  (with_reducible refine (HIB.out _ HB1.out).mono ?_)
  rintro e2 w2 ⟨v2, rfl, ho2, hb2⟩
  have HO2 := Lib.hid ho2
  have HB2 := Lib.hid (HB1.out.trans (hb2.mono HB1.out.size))
  have HO1' := Lib.hid (own_later HO1.out hb2)
  clear ho2 hb2
  go_wp2_with (at_builtin
               refine Tx.wpList_append_tx rfl (.tmp 10) (.tmp 12) rfl w.heap.size i0 hi0 hz0 hz1 hz2 v1 (idsB a) rfl (by have h := HO1'.out; rw [← ids_len a] at h; exact h) v2 (idsB b) w1.heap.size rfl (by have h := HO2.out; rw [← ids_len b] at h; exact h) (by rw [ids_len, ids_len]; omega) HB2.out.size ?_
               intro v3 w3 hown3 hg3
               have HO3 := Lib.hid hown3
               have HB3 := Lib.hid (HB2.out.trans ((Below.refl w.heap.size w2).grown hg3 HB2.out.size (fun j ej => Evt.own_ge HO1'.out ej)))
               clear hown3 hg3)
  have hcells : cellsS (idsB a ++ idsB b) = (kids a ++ kids b).map encStr := by rw [Tx.cellsS_app, cells_kids, cells_kids, List.map_append]
  have hkl : (kids a ++ kids b).length = (idsB a ++ idsB b).length := by simp [kids, idsB]
  have hrow3 : RowS w3 v3 (kids a ++ kids b) := rowS_own (base := w.heap.size) (by have h := HO3.out; rw [hcells, ← hkl] at h; exact h)
  have hkn : (kids a ++ kids b).length ≤ 3000000 := by rw [List.length_append]; simp only [kids, List.length_map]; omega
  have hso := Txs.sort_any v3 _ w3 hrow3 hkn
  have HSO := Lib.hid hso
  have hge : ∀ j, v3.ownBlock = some j → w.heap.size ≤ j := fun j ej => Evt.own_ge HO3.out ej
  have HGE := Lib.hid hge
  obtain ⟨a3, c3, e3⟩ := hrow3.shape
  obtain ⟨n3, hn3⟩ : ∃ n, (kids a ++ kids b).length = n := ⟨_, rfl⟩
  rw [hn3] at e3 hkn
  subst e3
  clear hcells hkl hrow3 hso hge hn3
  go_wp2_with fail
  (with_reducible refine HSO.out.mono ?_)
  rintro e4 w4 ⟨rfl, hrow4, hg4⟩
  have hco := Txs.compact_any _ _ w4 hrow4 (by rw [Txs.sort_len, List.length_append]; simp only [kids, List.length_map]; omega)
  have HCO := Lib.hid hco
  have HB4 := Lib.hid (HB3.out.trans ((Below.refl w.heap.size w3).grown hg4 HB3.out.size HGE.out))
  clear hrow4 hg4 hco
  go_wp2_with fail
  (with_reducible refine HCO.out.mono ?_)
  rintro e5 w5 ⟨v5, rfl, hrow5, hob5, hg5⟩
  change RowS w5 v5 (uniK a b) at hrow5
  have HB5 := Lib.hid (HB4.out.trans ((Below.refl w.heap.size w4).grown hg5 HB4.out.size HGE.out))
  obtain ⟨a5, c5, rfl⟩ := hrow5.shape
  obtain ⟨n, hn⟩ : ∃ n, (uniK a b).length = n := ⟨_, rfl⟩
  rw [hn] at hul ⊢
  have HN := Lib.hid hn
  have HR5 := Lib.hid hrow5.cells
  clear hrow5 hob5 hg5 hn HCO HSO
  go_wp2_with fail
  go_loopw [6, 8, 19] (fun v6 _ i wr => ∃ (k m : Nat) (a6 : Option Addr) (c6 : Nat), k ≤ n ∧ i = .int .i64 (k : Int) ∧ m = (difK a b k).length ∧ v6 = .slice a6 m c6 ∧ wr.ownsRow w5.heap.size 55 4 (.slice a6 m c6) (difK a b k).length (cellsC (difK a b k)) ∧ Below w5.heap.size w5 wr) (fun _ _ i _ => n - (intOf i).toNat)
  case atStart => exact ⟨0, 0, none, 0, Nat.zero_le _, rfl, rfl, rfl, ⟨rfl, .inl ⟨rfl, rfl⟩⟩, Below.refl _ _⟩
  case round =>
    obtain ⟨k, m, a6, c6, hk, rfl, hm, rfl, hown, hbr⟩ := hrel
    have hml : m ≤ 6 * k := by rw [hm]; exact difK_len a b k (by rw [HN.out]; exact hk)
    have HM := Lib.hid hm
    have HOWN := Lib.hid hown
    have HBR := Lib.hid hbr
    clear hm hown hbr
    by_cases hlt : k < n
    · have hltU : k < (uniK a b).length := by rw [HN.out]; exact hlt
      have hst := difK_step hltU
      have hmem := els_mem hltU
      rcases HR5.out with ⟨h0, _⟩ | ⟨g, off, cap, e1, hc⟩
      · rw [h0] at hltU; exact absurd hltU (Nat.not_lt_zero _)
      · rw [HN.out] at e1 hc
        injection e1 with e2 _ e3
        subst e2 e3
        have c0 := cell_later HBR.out (hc k hlt)
        obtain ⟨id, hid⟩ : ∃ id, mk (els (uniK a b) k) = id := ⟨_, rfl⟩
        have hin : hasK id.data.toList a = true ∨ hasK id.data.toList b = true := by rw [← hid]; exact mem_uniK.1 hmem
        have hids : id.size ≤ 9223372036854775807 := by rw [← hid]; exact HSM.out _ hmem
        rw [hid] at c0 hst
        have hbw : Below w.heap.size w wr := HB5.out.trans (HBR.out.mono HB5.out.size)
        have hone := one_any wr B B' p p' a b id er (HT.out.below hbw) (HA.out.below hbw) (HBK.out.below hbw) hids hin
        unfold OneP at hone
        obtain ⟨D, hD⟩ : ∃ D, difF fieldL a b id = D := ⟨_, rfl⟩
        have hdl : D.length ≤ 6 := by rw [← hD]; exact difF_len a b id
        rw [hD] at hone hst
        have HONE := Lib.hid hone
        have HST := Lib.hid hst
        clear hst hmem hc hid hin hids hbw hone hD
        go_wp2_with fail
        (with_reducible refine HONE.out.mono ?_)
        rintro e7 w7 ⟨v7, rfl, hown7, hb7⟩
        have HO7 := Lib.hid (creads_own hown7 rfl)
        have HB7 := Lib.hid hb7
        have hbs := HBR.out.size
        have hb7s := hb7.size
        have hk120 : k ≤ 120 := by omega
        clear hown7 hb7
        go_wp2_with (at_builtin
                     refine append_chs rfl (.tmp 23) (.tmp 27) rfl w5.heap.size (.slice a6 m c6) v7 (difK a b k) D rfl (own_later4 HOWN.out HB7.out) rfl HO7.out (by rw [← HM.out]; omega) (by omega) (by omega) ?_
                     intro a8 c8 w8 hown8 hb8 _
                     have HO8 := Lib.hid hown8
                     have HB8 := Lib.hid hb8
                     clear hown8 hb8)
        go_roundw
        case rel =>
          refine ⟨k + 1, (difK a b k ++ D).length, a8, c8, by omega, by go_num, by rw [HST.out], by rw [List.length_append], by rw [HST.out]; exact HO8.out, (HBR.out.trans (HB7.out.mono hbs)).trans HB8.out⟩
        case measure => simp [intOf]; omega
    · obtain rfl : k = n := by omega
      have hall := difK_all a b
      rw [HN.out] at hall
      go_wp2
      go_ret
      refine ⟨_, rfl, ?_, HB5.out.trans (HBR.out.mono HB5.out.size)⟩
      rw [← hall]
      exact own4_base HOWN.out HB5.out.size
end Df
end Go.Proofs.YtghkalamlcfnnaaGreatDoor
end
section
namespace Go.Proofs.YtghkalamlcfnnaaGreatDoor
open Go Go.RowKit Go.Shelf Lmd
attribute [local go_sem] Oper.semAt_some
namespace Df
open Evt Bk Tp Rul Day Cand Er
noncomputable instance decChg (c d : Chg) : Decidable (c = d) := Classical.propDecidable _
noncomputable instance decChgs (xs ys : List Chg) : Decidable (xs = ys) := Classical.propDecidable _
theorem chg_beq (c d : Chg) : (c.id.toList == d.id.toList && (c.fi.toList == d.fi.toList && (c.old.toList == d.old.toList && c.new.toList == d.new.toList))) = decide (c = d) := by
  have hb : ∀ a b : ByteArray, (a.toList == b.toList) = decide (a = b) := fun a b => by
    rw [Bool.eq_iff_iff, beq_iff_eq, decide_eq_true_eq, ByteArray.toList_eq, ByteArray.toList_eq]
    exact ⟨fun e => by rw [str_mk a, str_mk b, e], fun e => by rw [e]⟩
  rw [hb, hb, hb, hb]
  obtain ⟨a1, a2, a3, a4⟩ := c
  obtain ⟨b1, b2, b3, b4⟩ := d
  rw [Bool.eq_iff_iff]
  simp only [Bool.and_eq_true, decide_eq_true_eq, Chg.mk.injEq]
theorem equal_chg (a1 a2 a3 a4 b1 b2 b3 b4 : ByteArray) (w : World) : (Op.equal 55 (.agg #[.string a1, .string a2, .string a3, .string a4]) (.agg #[.string b1, .string b2, .string b3, .string b4])).run Tryz.prog w = .ok (a1.toList == b1.toList && (a2.toList == b2.toList && (a3.toList == b3.toList && a4.toList == b4.toList))) w := by
  have hf : Tryz.prog.fieldsOf 55 = #[⟨"ID", 9, 0, false, "", "", 0⟩, ⟨"Field", 9, 1, false, "", "", 16⟩, ⟨"Old", 9, 2, false, "", "", 32⟩, ⟨"New", 9, 3, false, "", "", 48⟩] := by kernel_rfl
  have h := run_equalIn_struct (P := Tryz.prog) w 9999 55 #[.string a1, .string a2, .string a3, .string a4] #[.string b1, .string b2, .string b3, .string b4] (by kernel_rfl) (by kernel_rfl)
  rw [hf] at h
  have hi : ∀ (a b : ByteArray) (w : World), (Op.equalIn 9999 9 (.string a) (.string b)).run Tryz.prog w = .ok (a.toList == b.toList) w := fun a b w => run_equalIn_string w 9998 _ a b Tryz.underlying9
  have hp0 : ∀ a b c d : ByteArray, (part 9 #[.string a, .string b, .string c, .string d] 0).run Tryz.prog w = .ok (.string a) w := fun a b c d => by kernel_rfl
  have hp1 : ∀ a b c d : ByteArray, (part 9 #[.string a, .string b, .string c, .string d] 1).run Tryz.prog w = .ok (.string b) w := fun a b c d => by kernel_rfl
  have hp2 : ∀ a b c d : ByteArray, (part 9 #[.string a, .string b, .string c, .string d] 2).run Tryz.prog w = .ok (.string c) w := fun a b c d => by kernel_rfl
  have hp3 : ∀ a b c d : ByteArray, (part 9 #[.string a, .string b, .string c, .string d] 3).run Tryz.prog w = .ok (.string d) w := fun a b c d => by kernel_rfl
  simp only [Op.eqFields] at h
  rw [if_pos (by decide)] at h
  simp only [hi, hp0, Sem.run_bind, Result.andThen_ok] at h
  refine h.trans ?_
  cases h0 : (a1.toList == b1.toList)
  · simp
  · rw [if_neg (by simp), if_pos (by decide)]
    simp only [hi, hp1, Sem.run_bind, Result.andThen_ok]
    cases h1 : (a2.toList == b2.toList)
    · simp
    · rw [if_neg (by simp), if_pos (by decide)]
      simp only [hi, hp2, Sem.run_bind, Result.andThen_ok]
      cases h2 : (a3.toList == b3.toList)
      · simp
      · rw [if_neg (by simp), if_pos (by decide)]
        simp only [hi, hp3, Sem.run_bind, Result.andThen_ok]
        cases h3 : (a4.toList == b4.toList) <;> simp
theorem neq_chg (c d : Chg) (w : World) : (binOp .neq 55 (.agg #[.string c.id, .string c.fi, .string c.old, .string c.new]) (.agg #[.string d.id, .string d.fi, .string d.old, .string d.new])).run Tryz.prog w = .ok (.bool (!decide (c = d))) w := by
  have he := equal_chg c.id c.fi c.old c.new d.id d.fi d.old d.new w
  rw [chg_beq] at he
  simp [binOp, go_sem, he, Result.andThen]
theorem eql_chg (c d : Chg) (w : World) : (binOp .eql 55 (.agg #[.string c.id, .string c.fi, .string c.old, .string c.new]) (.agg #[.string d.id, .string d.fi, .string d.old, .string d.new])).run Tryz.prog w = .ok (.bool (decide (c = d))) w := by
  have he := equal_chg c.id c.fi c.old c.new d.id d.fi d.old d.new w
  rw [chg_beq] at he
  simp [binOp, go_sem, he, Result.andThen]
theorem chs_ext {xs ys : List Chg} (hl : xs.length = ys.length) (h : ∀ j, j < xs.length → elc xs j = elc ys j) : xs = ys := by
  apply List.ext_getElem hl
  intro i h1 h2
  have := h i h1
  rwa [elc_lt h1, elc_lt h2] at this
set_option maxRecDepth 100000 in
set_option maxHeartbeats 4000000 in
theorem sameChanges_any (w : World) (v1 v2 : Value) (xs ys : List Chg) (h1 : CReads w v1 xs) (h2 : CReads w v2 ys) (hx : xs.length ≤ 100000) :
    Calls Tryz.prog 20 #[v1, v2] w fun r w' => r = .returned (.bool (decide (xs = ys))) ∧ Below w.heap.size w w' := by
  obtain ⟨a1, c1, rfl⟩ := h1.shape
  obtain ⟨a2, c2, rfl⟩ := h2.shape
  by_cases hl : xs.length = ys.length
  · obtain ⟨n, hn⟩ : ∃ n, xs.length = n := ⟨_, rfl⟩
    have hn2 : ys.length = n := hl.symm.trans hn
    rw [hn] at h1 hx ⊢
    rw [hn2] at h2 ⊢
    obtain ⟨q, hq⟩ : ∃ q, decide (xs = ys) = q := ⟨_, rfl⟩
    rw [hq]
    have HN := Lib.hid hn
    have HN2 := Lib.hid hn2
    have HQ := Lib.hid hq
    have HR1 := Lib.hid h1
    have HR2 := Lib.hid h2
    clear hl hn hn2 hq h1 h2
    go_enter Tryz.func20, Tryz.ntmps20
    go_wp2_with fail
    go_loopw [5] (fun i wr => ∃ k : Nat, k ≤ n ∧ i = .int .i64 (k : Int) ∧ (∀ j, j < k → elc xs j = elc ys j) ∧ Below w.heap.size w wr) (fun i _ => n - (intOf i).toNat)
    case atStart => exact ⟨0, Nat.zero_le _, rfl, fun j hj => absurd hj (Nat.not_lt_zero _), Below.refl _ _⟩
    case round =>
      obtain ⟨k, hk, rfl, hall, hbr⟩ := hrel
      have HALL := Lib.hid hall
      have HBR := Lib.hid hbr
      by_cases hlt : k < n
      · obtain ⟨-, b1, o1, ea1, hc1⟩ := (HR1.out.below hbr).at (by intro h; have := HN.out; rw [h] at this; simp at this; omega)
        obtain ⟨-, b2, o2, ea2, hc2⟩ := (HR2.out.below hbr).at (by intro h; have := HN2.out; rw [h] at this; simp at this; omega)
        subst ea1 ea2
        obtain ⟨p0, p1, p2, p3⟩ := hc1 k (by rw [HN.out]; exact hlt)
        obtain ⟨q0, q1, q2, q3⟩ := hc2 k (by rw [HN2.out]; exact hlt)
        obtain ⟨x, hx1⟩ : ∃ m, elc xs k = m := ⟨_, rfl⟩
        obtain ⟨y, hy1⟩ : ∃ m, elc ys k = m := ⟨_, rfl⟩
        rw [hx1] at p0 p1 p2 p3
        rw [hy1] at q0 q1 q2 q3
        have H1 := Lib.hid hx1
        have H2 := Lib.hid hy1
        have hi1 : (k : Int) < (n : Int) := by omega
        have hnm := fun w => neq_chg x y w
        clear hc1 hc2 hx1 hy1 hall hbr
        by_cases he : x = y
        · rw [decide_eq_true he, Bool.not_true] at hnm
          have HXY := Lib.hid he
          clear he
          go_wp2
          go_quiet (fail)
          go_wp2
          go_roundw
          case rel => exact ⟨k + 1, by omega, by go_num, fun j hj => by
            by_cases e : j = k
            · subst e; rw [H1.out, H2.out]; exact HXY.out
            · exact HALL.out j (by omega), below_draw HBR.out _⟩
          case measure => simp [intOf]; omega
        · rw [decide_eq_false he, Bool.not_false] at hnm
          obtain rfl : q = false := by
            rw [← HQ.out]
            exact decide_eq_false fun e => he (by rw [← H1.out, ← H2.out, e])
          clear he
          go_wp2
          go_quiet (fail)
          go_wp2
          go_ret
          exact ⟨rfl, below_draw HBR.out _⟩
      · obtain rfl : k = n := by omega
        obtain rfl : q = true := by
          rw [← HQ.out]
          exact decide_eq_true (chs_ext (HN.out.trans HN2.out.symm) (fun j hj => HALL.out j (by rw [← HN.out]; exact hj)))
        clear hall hbr
        go_wp2
        go_ret
        exact ⟨rfl, HBR.out⟩
  · have hne : ¬ xs = ys := fun e => hl (by rw [e])
    rw [decide_eq_false hne]
    obtain ⟨n1, hn1⟩ : ∃ n, xs.length = n := ⟨_, rfl⟩
    obtain ⟨n2, hn2⟩ : ∃ n, ys.length = n := ⟨_, rfl⟩
    rw [hn1, hn2] at hl ⊢
    have hl2 : ((n1 : Int) == (n2 : Int)) = false := by rw [beq_eq_false_iff_ne]; omega
    clear h1 h2 hne hn1 hn2 hl
    go_enter Tryz.func20, Tryz.ntmps20
    go_wp2
    go_ret
    exact ⟨rfl, Below.refl _ _⟩
end Df
end Go.Proofs.YtghkalamlcfnnaaGreatDoor
end
