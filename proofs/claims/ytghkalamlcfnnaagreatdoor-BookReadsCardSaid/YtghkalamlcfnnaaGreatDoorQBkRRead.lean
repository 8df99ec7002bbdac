/- The reference's ReadBook. -/
import Derived.Test.YtghkalamlcfnnaaGreatDoorQBkRead
import Derived.Test.YtghkalamlcfnnaaGreatDoorQC1
import Derived.Test.YtghkalamlcfnnaaGreatDoorQC2
import Derived.Test.YtghkalamlcfnnaaGreatDoorQBkRef
import Derived.Test.YtghkalamlcfnnaaGreatDoorQRefSet
import Derived.Test.YtghkalamlcfnnaaGreatDoorQD1
import Derived.Test.YtghkalamlcfnnaaGreatDoorQRefFault
import Derived.Deep.CutRange
import Derived.BigQuiet
import Derived.Maps.AppendAt
namespace Go.Proofs.YtghkalamlcfnnaaGreatDoor
open Go Go.RowKit Go.Shelf Lmd
attribute [local go_sem] Oper.semAt_some
namespace Bk
open Evt Tp Rul Day Cand Er

theorem res_rrb {W : World} {b1 b2 : Nat} {v c0 c1 : Value} {tmps : Array Value} (h1 : W.heap[b1]? = some (.cells #[v] 27 (0, 0))) (h2 : W.heap[b2]? = some (.cells #[c0, c1] 64 (0, 0))) (t1 : tmps.getD 2 undef = .pointer (some ⟨b1, 0, none⟩)) (t2 : tmps.getD 3 undef = .pointer (some ⟨b2, 0, none⟩)) :
    (results Tryz.f28 tmps).run Tryz.prog W = .ok (.tuple #[.agg #[v], .agg #[c0, c1]]) W := by
  obtain ⟨q0, -⟩ := cell1r h1
  obtain ⟨r0, r1, -⟩ := Rp.cells2 h2
  have t1' : tmps[2]?.getD undef = .pointer (some ⟨b1, 0, none⟩) := by simpa using t1
  have t2' : tmps[3]?.getD undef = .pointer (some ⟨b2, 0, none⟩) := by simpa using t2
  simp [results, Tryz.f28, go_sem, t1', t2', q0, r0, r1]
/-- what the document's ReadBook hands back -/
def RRbP (w : World) (s : ByteArray) (r : Ending) (w' : World) : Prop :=
  Below w.heap.size w w' ∧ (if 10000 < s.size then r = .returned (.tuple #[.agg #[.slice none 0 0], .agg #[.int .i64 2, .int .i64 (-1)]])
    else if (readB s).1 = 0 then ∃ v ys, r = .returned (.tuple #[.agg #[v], .agg #[.int .i64 0, .int .i64 (-1)]]) ∧ EReads w' v ys ∧ ys.map (·.e) = (readB s).2.2
    else r = .returned (.tuple #[.agg #[.slice none 0 0], .agg #[.int .i64 ((readB s).1 : Nat), .int .i64 ((readB s).2.1 : Nat)]]))
theorem rrb_bad {w W : World} {s : ByteArray} {c k : Nat} {L : List Ev} {n m : Int} (h1 : ¬ 10000 < s.size) (h : readB s = (c + 1, k, L)) (hn : ((c + 1 : Nat) : Int) = n) (hm : (k : Int) = m) (hb : Below w.heap.size w W) :
    RRbP w s (.returned (.tuple #[.agg #[.slice none 0 0], .agg #[.int .i64 n, .int .i64 m]])) W := by
  refine ⟨hb, ?_⟩
  rw [if_neg h1, h, if_neg (by simp), ← hn, ← hm]
/-- the events' lists lie elsewhere than the results' boxes -/
def Offs (p : Nat) (ys : List EvV) : Prop := ∀ y ∈ ys, ∀ c, c ≤ p → Off c y.vd ∧ Off c y.vs ∧ Off c y.vm
/-- an event's lists lie elsewhere than a row -/
def Apart2 (own : Option Nat) (y : EvV) : Prop := ∀ g, own = some g → Off g y.vd ∧ Off g y.vs ∧ Off g y.vm
theorem rv_new {w : World} {y : EvV} (h : y.rv w) {k : Nat} (hk : w.heap.size ≤ k) : Off k y.vd ∧ Off k y.vs ∧ Off k y.vm := by
  refine ⟨fun g o n c e hn => ?_, fun g o n c e hn => ?_, fun g o n c e hn => ?_⟩
  · have := reads_lt h.d e hn; omega
  · have := reads_lt h.s e hn; omega
  · rcases h.m with ⟨h1, a, cap, e2⟩ | ⟨b, off, cap, e2, hc⟩
    · rw [e2] at e; cases e; exact absurd rfl hn
    · rw [e2] at e
      injection e with e3 e4 _
      injection e3 with e3
      injection e3 with e3 _
      subst e3
      have := cell_lt (hc 0 (by omega)).1
      show b ≠ k
      have h2 : b < w.heap.size := this
      omega
theorem rv_grown {w w' : World} {ob : Option Nat} (hg : w.grownBy w' ob) {y : EvV} (hr : y.rv w) (ha : Apart2 ob y) : y.rv w' := by
  cases ob with
  | none => exact Rv.below hr ⟨hg.os, hg.tape, hg.output, hg.size, fun k hk => hg.block k hk (by simp)⟩
  | some g => exact off_far ⟨hg.os, hg.tape, hg.output, hg.size, fun k hk hne => hg.block k hk (fun e => hne (by injection e))⟩ hr (ha g rfl).1 (ha g rfl).2.1 (ha g rfl).2.2
/-- one event behind events of one's own; where the row lies -/
theorem append_ev_at {w : World} {ops : Array Oper} {rest : List Oper} {o : Oper} {a : Act} {Q : Exit → Act → World → Prop} (hgd : o.guard = none) (s x : Operand)
    (ho : o.op = .call { callee := .builtin .append, args := #[s, x], argTypes := #[22, 22] })
    (base : Nat) (v : Value) (xs : List EvV) (hs : a.eval s = v) (hown : w.ownsRow base 40 11 v xs.length (cellsV xs)) (g : Nat) (y : EvV) (hx : a.eval x = .slice (some ⟨g, 0, none⟩) 1 1)
    (hg : At11 w g 0 y) (hy : y.rv w) (hb : xs.length ≤ 3000000) (hbase : base ≤ w.heap.size)
    (h : ∀ a' c' w', w'.ownsRow base 40 11 (.slice a' (xs.length + 1) c') (xs ++ [y]).length (cellsV (xs ++ [y])) → Below base w w' → w.grownBy w' v.ownBlock → ((Value.slice a' (xs.length + 1) c').ownBlock = v.ownBlock ∨ (Value.slice a' (xs.length + 1) c').ownBlock = some w.heap.size) → wpList Tryz.prog ops Q rest (a.put o.dst (.slice a' (xs.length + 1) c')) w') : wpList Tryz.prog ops Q (o :: rest) a w := by
  obtain ⟨i0, hi0, hz0, hz1, hz2⟩ := info_parts ev_info
  obtain ⟨a6, c6, e6⟩ := hy.d.shape
  obtain ⟨a9, c9, e9⟩ := hy.s.shape
  obtain ⟨a10, c10, e10⟩ := hy.m.shape
  refine wpList_append_own_at _ hgd s x 22 ho base 40 i0 _ 11 160 Tryz.underlying22 hi0 hz0 hz1 hz2 rfl (by omega) v xs.length (cellsV xs) hs hown ⟨g, 0, none⟩ 1 1 y.cs hx rfl
    (fun j u hu => by
      rw [Evt.add_plain]
      exact hg.of j u hu) (fun u hu => by
        simp only [EvV.cs, e6, e9, e10, List.mem_cons, List.not_mem_nil, or_false] at hu
        rcases hu with rfl | rfl | rfl | rfl | rfl | rfl | rfl | rfl | rfl | rfl | rfl <;> rfl) (by simp only [maxLen]; omega) (by omega) hbase ?_
  intro v' w' h1 h2 _ h4
  obtain ⟨a1, c1, rfl⟩ := Evt.own_at h1
  refine h a1 c1 w' ?_ ((Below.refl base w).grown h2 hbase (fun j ej => Evt.own_ge hown ej)) h2 h4
  rw [cellsV_snoc, List.length_append]; exact h1
structure RrFin (p : Nat) (ys : List EvV) (a : Option Addr) (c : Nat) (W : World) : Prop where
  own : W.ownsRow (p + 1) 40 11 (.slice a ys.length c) ys.length (cellsV ys)
  rv : ∀ y ∈ ys, y.rv W
theorem RrFin.below {p : Nat} {ys : List EvV} {a : Option Addr} {c : Nat} {W W' : World} (h : RrFin p ys a c W) (hb : Below W.heap.size W W') : RrFin p ys a c W' := ⟨Evt.own_below h.own hb, fun y hy => (h.rv y hy).below hb⟩
theorem RrFin.set {p : Nat} {ys : List EvV} {a : Option Addr} {c : Nat} {W : World} (h : RrFin p ys a c W) (ho : Offs p ys) {b : Nat} (hb : b < p) (i : Nat) (u : Value) : RrFin p ys a c (W.setCell ⟨b, i, none⟩ u) :=
  ⟨ownM_far h.own (by show b < p + 1; omega), fun y hy => (h.rv y hy).off (ho y hy b (Nat.le_of_lt hb)).1 (ho y hy b (Nat.le_of_lt hb)).2.1 (ho y hy b (Nat.le_of_lt hb)).2.2⟩
theorem RrFin.reads {p : Nat} {ys : List EvV} {a : Option Addr} {c : Nat} {W : World} (h : RrFin p ys a c W) : EReads W (.slice a ys.length c) ys := ereads_own h.own rfl h.rv
/-- the state of the loop -/
structure RrAt (s : ByteArray) (w W5 : World) (p k : Nat) (L : List Ev) (ys : List EvV) (a : Option Addr) (c : Nat) (W : World) : Prop where
  rel : readB s = rdL k L ((pieces 10 s).drop k)
  lay : Lay W5 W p ys a c
  same : ys.map (·.e) = L
  rv : ∀ y ∈ ys, y.rv W
  good : Df.Good L
  low : Below w.heap.size w W
  offs : Offs p ys
  sep : ∀ y ∈ ys, Apart2 (Value.slice a ys.length c).ownBlock y
theorem last_el {ys : List EvV} {L : List Ev} {j : Nat} (h1 : ys.map (·.e) = L) (hm : ys.length = j + 1) : (el ys j).e.id = lastOf L := by
  rcases List.eq_nil_or_concat ys with h2 | ⟨zs, z, h2⟩
  · rw [h2] at hm; cases hm
  · rw [List.concat_eq_append] at h2
    have hlz : zs.length = j := by rw [h2, List.length_append] at hm; simpa using hm
    have e1 : el ys j = z := by rw [el_lt (by omega)]; simp [h2, ← hlz]
    rw [e1, ← h1, h2, List.map_append]
    show _ = lastOf (zs.map (·.e) ++ [z.e])
    rw [lastOf_snoc]
theorem getD_of {xs : List ByteArray} {i : Nat} (h : i < xs.length) : xs[i]? = some (xs.getD i ByteArray.empty) := by
  rw [List.getD_eq_getElem?_getD, List.getElem?_eq_getElem h]; rfl
/-- the two results' boxes, written -/
theorem rows3 {W : World} {A : Nat} {v0 x0 x1 : Value} (h1 : W.heap[A]? = some (.cells #[v0] 27 (0, 0))) (h2 : W.heap[A + 1]? = some (.cells #[x0, x1] 64 (0, 0))) (v c0 c1 : Value) {B : Nat} {w : World} (hb : Below B w W) (hB : B ≤ A) :
    (((W.setCell ⟨A, 0, none⟩ v).setCell ⟨A + 1, 0, none⟩ c0).setCell ⟨A + 1, 1, none⟩ c1).heap[A]? = some (.cells #[v] 27 (0, 0)) ∧
    (((W.setCell ⟨A, 0, none⟩ v).setCell ⟨A + 1, 0, none⟩ c0).setCell ⟨A + 1, 1, none⟩ c1).heap[A + 1]? = some (.cells #[c0, c1] 64 (0, 0)) ∧
    Below B w (((W.setCell ⟨A, 0, none⟩ v).setCell ⟨A + 1, 0, none⟩ c0).setCell ⟨A + 1, 1, none⟩ c1) := by
  refine ⟨?_, ?_, ?_⟩
  · rw [Below.heap_setCell _ _ _ _ (by show A ≠ A + 1; omega), Below.heap_setCell _ _ _ _ (by show A ≠ A + 1; omega)]
    exact row_set h1 0 v
  · have e : (W.setCell ⟨A, 0, none⟩ v).heap[A + 1]? = some (.cells #[x0, x1] 64 (0, 0)) := by
      rw [Below.heap_setCell _ _ _ _ (by show A + 1 ≠ A; omega)]; exact h2
    exact row_set (row_set e 0 c0) 1 c1
  · exact ((hb.setCell (p := ⟨A, 0, none⟩) hB v).setCell (p := ⟨A + 1, 0, none⟩) (by show B ≤ A + 1; omega) c0).setCell (p := ⟨A + 1, 1, none⟩) (by show B ≤ A + 1; omega) c1
theorem rows3b {W : World} {A : Nat} {v0 x0 x1 : Value} (h1 : W.heap[A]? = some (.cells #[v0] 27 (0, 0))) (h2 : W.heap[A + 1]? = some (.cells #[x0, x1] 64 (0, 0))) (v c0 c1 : Value) {B : Nat} {w : World} (hb : Below B w W) (hB : B ≤ A) :
    (((W.setCell ⟨A + 1, 0, none⟩ c0).setCell ⟨A + 1, 1, none⟩ c1).setCell ⟨A, 0, none⟩ v).heap[A]? = some (.cells #[v] 27 (0, 0)) ∧
    (((W.setCell ⟨A + 1, 0, none⟩ c0).setCell ⟨A + 1, 1, none⟩ c1).setCell ⟨A, 0, none⟩ v).heap[A + 1]? = some (.cells #[c0, c1] 64 (0, 0)) ∧
    Below B w (((W.setCell ⟨A + 1, 0, none⟩ c0).setCell ⟨A + 1, 1, none⟩ c1).setCell ⟨A, 0, none⟩ v) := by
  refine ⟨?_, ?_, ?_⟩
  · have e : ((W.setCell ⟨A + 1, 0, none⟩ c0).setCell ⟨A + 1, 1, none⟩ c1).heap[A]? = some (.cells #[v0] 27 (0, 0)) := by
      rw [Below.heap_setCell _ _ _ _ (by show A ≠ A + 1; omega), Below.heap_setCell _ _ _ _ (by show A ≠ A + 1; omega)]; exact h1
    exact row_set e 0 v
  · rw [Below.heap_setCell _ _ _ _ (by show A + 1 ≠ A; omega)]
    exact row_set (row_set h2 0 c0) 1 c1
  · exact ((hb.setCell (p := ⟨A + 1, 0, none⟩) (by show B ≤ A + 1; omega) c0).setCell (p := ⟨A + 1, 1, none⟩) (by show B ≤ A + 1; omega) c1).setCell (p := ⟨A, 0, none⟩) hB v
theorem rrb_good {w W : World} {s : ByteArray} {k p m c : Nat} {L : List Ev} {ys : List EvV} {a : Option Addr} (h1 : ¬ 10000 < s.size) (h : readB s = (0, k, L)) (hs : ys.map (·.e) = L) (hm : ys.length = m) (hb : Below w.heap.size w W) (hf : RrFin p ys a c W) :
    RRbP w s (.returned (.tuple #[.agg #[.slice a m c], .agg #[.int .i64 0, .int .i64 (-1)]])) W := by
  refine ⟨hb, ?_⟩
  rw [if_neg h1, h, if_pos rfl, ← hm]
  exact ⟨_, ys, rfl, hf.reads, hs⟩
set_option maxRecDepth 100000 in
set_option maxHeartbeats 16000000 in
theorem readBook_any (l : List UInt8) (w : World) (hs : l.length ≤ 30000) :
    Calls Tryz.prog 28 #[.string (mk l)] w (RRbP w (mk l)) := by
  obtain ⟨W0, hW0⟩ : ∃ W0, (w.alloc (.cells #[.slice none 0 0] 27)).alloc (.cells #[.int .i64 0, .int .i64 0] 64) = W0 := ⟨_, rfl⟩
  have hB0 : Below w.heap.size w W0 := by rw [← hW0]; exact ((Below.refl _ w).alloc (Nat.le_refl _) _).alloc (by simp) _
  have hA : W0.heap[w.heap.size]? = some (.cells #[.slice none 0 0] 27) := by rw [← hW0]; exact (Below.heap_alloc _ _ _ (by simp)).trans (heap_new w _)
  have hF : W0.heap[w.heap.size + 1]? = some (.cells #[.int .i64 0, .int .i64 0] 64) := by
    rw [← hW0]
    have h := heap_new (w.alloc (.cells #[.slice none 0 0] 27)) (.cells #[.int .i64 0, .int .i64 0] 64)
    rwa [World.size_alloc] at h
  have hsz0 : W0.heap.size = w.heap.size + 2 := by rw [← hW0]; simp
  obtain ⟨A, hAe⟩ : ∃ A, w.heap.size = A := ⟨_, rfl⟩
  rw [hAe] at hA hF hsz0
  have hz : (mk l).size = l.length := rfl
  have HW0 := Lib.hid hW0
  have HB0 := Lib.hid hB0
  have HA := Lib.hid hA
  have HF := Lib.hid hF
  have HAE := Lib.hid hAe
  by_cases hbig : 10000 < l.length
  · have hb1 : (10000 : Int) < (l.length : Int) := by omega
    have HBA := Lib.hid (Rp.bare_any 2 W0)
    have HBIG := Lib.hid hbig
    clear hW0 hB0 hA hF hAe hbig
    go_enter Tryz.func28, Tryz.ntmps28
    go_upto_region 1 with fail
    rw [HW0.out]
    go_wp2_with fail
    (with_reducible refine HBA.out.mono ?_)
    rintro e1 w1 ⟨rfl, hb2⟩
    have hA1 := row_below HA.out hb2
    have hF1 := row_below HF.out hb2
    obtain ⟨a0, a1⟩ := cell1r hA1
    obtain ⟨f0, f1, f2, f3⟩ := Rp.cells2 hF1
    have HA1 := Lib.hid hA1
    have HF1 := Lib.hid hF1
    have HB1 := Lib.hid (HB0.out.trans (hb2.mono HB0.out.size))
    rw [HAE.out]
    clear hb2 hA1 hF1
    go_wp2
    obtain ⟨r1, r2, r3⟩ := rows3 HA1.out HF1.out (.slice none 0 0) (.int .i64 2) (.int .i64 (-1)) HB1.out (by rw [HAE.out]; exact Nat.le_refl _)
    refine bodyPost_ret (res_rrb r1 r2 rfl rfl) rfl ?_
    refine ⟨r3, ?_⟩
    rw [if_pos (by rw [hz]; exact HBIG.out)]
  · have hb1 : ¬ (10000 : Int) < (l.length : Int) := by omega
    have HBIG := Lib.hid (show ¬ 10000 < (mk l).size from hbig)
    have HCUT := Lib.hid (Rct.cut_lit l 10 10 W0 (by omega) rfl)
    have hpl : ∀ x ∈ pieces 10 (mk l), x.size ≤ 30000 := fun x hx => by have := pieces_le hx; omega
    have hpn : 1 ≤ (pieces 10 (mk l)).length := by
      obtain ⟨f, t, e⟩ := pieces_some 10 (mk l)
      rw [e]; simp
    have hpm : (pieces 10 (mk l)).length ≤ 10001 := by have := pieces_len 10 (mk l); omega
    have HPL := Lib.hid hpl
    clear hW0 hB0 hA hF hAe hbig hpl
    go_enter Tryz.func28, Tryz.ntmps28
    go_upto_region 1 with fail
    rw [HW0.out]
    go_wp2_with fail
    (with_reducible refine HCUT.out.mono ?_)
    rintro e1 w1 ⟨v1, rfl, hown1, hb2⟩
    obtain ⟨P, hP⟩ : ∃ P, pieces 10 (mk l) = P := ⟨_, rfl⟩
    rw [hP] at hown1 hpn hpm HPL
    have hrd := Tx.rd_own hown1 rfl
    obtain ⟨va, vc, rfl⟩ := Evt.own_at hown1
    obtain ⟨n, hn⟩ : ∃ n, P.length = n := ⟨_, rfl⟩
    rw [hn] at hrd hpn hpm ⊢
    obtain ⟨W5, hW5⟩ : ∃ W5, w1.alloc (.cells #[.slice none 0 0] 27) = W5 := ⟨_, rfl⟩
    have hb5 : Below w1.heap.size w1 W5 := by rw [← hW5]; exact (Below.refl _ w1).alloc (Nat.le_refl _) _
    have hq5 : W5.heap[w1.heap.size]? = some (.cells #[.slice none 0 0] 27) := by rw [← hW5]; exact heap_new w1 _
    obtain ⟨p, hp⟩ : ∃ p, w1.heap.size = p := ⟨_, rfl⟩
    have hAp : A + 2 ≤ p := by have := hb2.size; omega
    have HRD := Lib.hid (fun wr (h : Below p W5 wr) => hrd.below (hb5.trans (show Below w1.heap.size W5 wr by rw [hp]; exact h)))
    have HA5 := Lib.hid (row_below (row_below HA.out hb2) hb5)
    have HF5 := Lib.hid (row_below (row_below HF.out hb2) hb5)
    have HB5 := Lib.hid ((HB0.out.trans (hb2.mono HB0.out.size)).trans (hb5.mono (Nat.le_trans HB0.out.size hb2.size)))
    rw [hp] at hq5
    have HQ5 := Lib.hid hq5
    have HW5 := Lib.hid hW5
    have HP := Lib.hid hP
    have HN := Lib.hid hn
    have HPP := Lib.hid hp
    clear hown1 hb2 hrd hb5 hq5 hW5 hP hn hp
    go_upto_region 5 with fail
    rw [HW5.out, HPP.out, HAE.out]
    go_wp2_with fail
    go_loopw [6, 7, 8] (fun i _ _ wr => ∃ (k : Nat) (L : List Ev) (ys : List EvV) (a : Option Addr) (c : Nat), k + 1 ≤ n ∧ i = .int .i64 (k : Int) ∧ RrAt (mk l) w W5 p k L ys a c wr) (fun i _ _ _ => n - (intOf i).toNat)
    case atStart =>
      refine ⟨0, [], [], none, 0, hpn, rfl, ?_, Lay.start HQ5.out, rfl, by simp, ⟨List.Pairwise.nil, by simp, by simp⟩, HB5.out, fun y hy => (by cases hy), fun y hy => (by cases hy)⟩
      rw [List.drop_zero]; rfl
    case round =>
      obtain ⟨k, L, ys, a, c, hk, rfl, hat⟩ := hrel
      have hlow := hat.lay.low
      have hplt := hat.lay.lt
      have hrr := HRD.out wr hlow
      obtain ⟨g, off, cap, e1, hc⟩ := hrr.at (by intro h; have := HN.out; rw [h] at this; simp at this; omega)
      injection e1 with e2 e9 e3
      clear e9
      subst e2 e3
      have c0 := hc k _ (getD_of (by rw [HN.out]; omega))
      obtain ⟨x, hx⟩ : ∃ x, P.getD k ByteArray.empty = x := ⟨_, rfl⟩
      rw [hx] at c0
      have hxs : x.size ≤ 30000 := HPL.out x (by rw [← hx, List.getD_eq_getElem?_getD, List.getElem?_eq_getElem (by rw [HN.out]; omega)]; exact List.getElem_mem _)
      obtain ⟨m, hm⟩ : ∃ m, ys.length = m := ⟨_, rfl⟩
      have hLm : L.length = m := by rw [← hat.same, List.length_map]; exact hm
      have hm60 : m ≤ 60 := by have := hat.good.few; omega
      have hAr := (hlow.block A (by omega)).trans HA5.out
      have hFr := (hlow.block (A + 1) (by omega)).trans HF5.out
      have HAR := Lib.hid hAr
      have HFR := Lib.hid hFr
      have HX := Lib.hid hx
      have HM := Lib.hid hm
      have HAT := Lib.hid hat
      have hbox := hat.lay.box
      rw [hm] at hbox
      have HBOX := Lib.hid hbox
      obtain ⟨k0, -⟩ := cell1r hbox
      have HLW := Lib.hid hlow
      clear hrr hc hx hat hAr hFr hlow hbox
      by_cases hlt : k + 1 < n
      · have hi1 : (k : Int) < (n : Int) - 1 := by omega
        have hst := rd_step (P := P) (i := k) (by rw [HN.out]; exact hlt) L
        rw [HX.out] at hst
        have hrel := HAT.out.rel
        rw [HP.out, hst] at hrel
        have hre := readEvent_off x wr hxs
        unfold RReadOff at hre
        have hgood : readC x = 0 → badE (readE x) = 0 := readE_good
        obtain ⟨e, he⟩ : ∃ e, readE x = e := ⟨_, rfl⟩
        obtain ⟨q, hq⟩ : ∃ q, readC x = q := ⟨_, rfl⟩
        have hlk : lineK x (lastOf L) L = if q ≠ 0 then q else if (lastOf L).data.toList < key e then putK e L else 8 := by unfold lineK; rw [he, hq]
        rw [he, hq] at hre hgood
        rw [hlk, he] at hrel
        have HREL := Lib.hid hrel
        have HRE := Lib.hid hre
        have HG := Lib.hid hgood
        clear hst hrel hre hgood hlk he hq
        go_wp2_with fail
        (with_reducible refine HRE.out.mono ?_)
        rintro e3 w3 ⟨vd, vs, vm, rfl, hr3, hoff3, hb3⟩
        obtain ⟨a1, c1, rfl⟩ := hr3.d.shape
        obtain ⟨a2, c2, rfl⟩ := hr3.s.shape
        obtain ⟨a3, c3, rfl⟩ := hr3.m.shape
        obtain ⟨W7, hW7⟩ : ∃ W7, w3.alloc (.cells (e.cells (.slice a1 e.ru.ds.length c1) (.slice a2 e.sk.length c2) (.slice a3 e.mv.length c3)) 40) = W7 := ⟨_, rfl⟩
        have hb7 : Below w3.heap.size w3 W7 := by rw [← hW7]; exact (Below.refl _ w3).alloc (Nat.le_refl _) _
        have hy7 : W7.heap[w3.heap.size]? = some (.cells (e.cells (.slice a1 e.ru.ds.length c1) (.slice a2 e.sk.length c2) (.slice a3 e.mv.length c3)) 40) := by rw [← hW7]; exact heap_new w3 _
        have hbw := hb3.trans (hb7.mono hb3.size)
        have HY7 := Lib.hid hy7
        have HO3 := Lib.hid hoff3
        have HR7 := Lib.hid (hr3.below hb7)
        have HBW := Lib.hid hbw
        have HL7 := Lib.hid (HAT.out.lay.below hbw)
        have HW7 := Lib.hid hW7
        have HA7 := Lib.hid (row_below HAR.out hbw)
        have HF7 := Lib.hid (row_below HFR.out hbw)
        have HLW7 := Lib.hid (HAT.out.low.trans (hbw.mono HAT.out.low.size))
        have hbox7 := row_below HBOX.out hbw
        have HBX7 := Lib.hid hbox7
        clear hb3 hb7 hbw hr3 hy7 hW7 c0 k0 hoff3
        go_upto_region 9 with fail
        rw [HW7.out]
        obtain ⟨k0, -⟩ := cell1r hbox7
        obtain ⟨fa0, fa1⟩ := cell1r HA7.out
        obtain ⟨ff0, ff1, ff2, ff3⟩ := Rp.cells2 HF7.out
        clear hbox7
        cases q with
        | succ q =>
          have hrb : readB (mk l) = (q + 1, k, L) := by rw [HREL.out, if_pos (by simp), if_pos (by simp)]
          have HRB := Lib.hid hrb
          have hq0 : (((q + 1 : Nat) : Int) == 0) = false := by rw [beq_eq_false_iff_ne]; omega
          have hq1 : (0 : Int) < ((q + 1 : Nat) : Int) := by omega
          obtain ⟨z, hz2⟩ : ∃ z, ((q + 1 : Nat) : Int) = z := ⟨_, rfl⟩
          rw [hz2] at hq0 hq1 ⊢
          have HZ := Lib.hid hz2
          clear hrb hz2
          go_wp2
          obtain ⟨r1, r2, r3⟩ := rows3 HA7.out HF7.out (.slice none 0 0) (.int .i64 z) (.int .i64 (k : Int)) HLW7.out (by rw [HAE.out]; exact Nat.le_refl _)
          refine bodyPost_ret (res_rrb r1 r2 rfl rfl) rfl ?_
          exact rrb_bad HBIG.out HRB.out HZ.out rfl r3
        | zero =>
          have hgd := HG.out rfl
          by_cases hlast : (lastOf L).data.toList < key e
          · have hwl := with_last HAT.out.good.asc hlast
            have hpk : putK e L = if 60 ≤ m then 7 else 0 := by
              unfold putK
              rw [if_neg (by rw [hgd]; simp), hwl.2, hLm]
              by_cases h60 : 60 ≤ m
              · rw [if_pos ⟨rfl, h60⟩, if_pos h60]
              · rw [if_neg (fun h => h60 h.2), if_neg h60]
            have hsucc : ∀ z : Nat, z ≠ 0 → putK e L = z → readB (mk l) = (z, k, L) := fun z hz hpz => by
              have := HREL.out
              rw [if_neg (by simp : ¬ (0 : Nat) ≠ 0), if_pos hlast, hpz, if_pos hz] at this
              exact this
            have hgo : putK e L = 0 → readB (mk l) = rdL (k + 1) (L ++ [e]) (P.drop (k + 1)) := fun hpz => by
              have := HREL.out
              rw [if_neg (by simp : ¬ (0 : Nat) ≠ 0), if_pos hlast, hpz, if_neg (by simp), hwl.1] at this
              exact this
            have hgood2 : putK e L = 0 → Df.Good (L ++ [e]) := fun hpz => by
              have := HAT.out.good.with hpz
              rw [hwl.1] at this; exact this
            have HSU := Lib.hid hsucc
            have HGO := Lib.hid hgo
            have HG2 := Lib.hid hgood2
            have HPK := Lib.hid hpk
            have HLT := Lib.hid hlast
            clear hwl hpk hsucc hgo hgood2 hgd hlast
            go_upto_if 39 with fail
            go_cut [8] from 32 to 71 (fun s8 wc => s8 = .int .i64 0 ∧ Below W7.heap.size W7 wc)
            case first =>
              cases m with
              | zero =>
                go_wp2_with fail
                go_meet
                exact ⟨rfl, Below.refl _ _⟩
              | succ j =>
                have hjy : j < ys.length := by rw [HM.out]; exact Nat.lt_succ_self j
                have her : EReads W7 (.slice a ys.length c) ys := ereads_own HL7.out.own rfl (fun y hy => ((HAT.out.rv y hy).below HBW.out))
                obtain ⟨-, b, o, ea, hce⟩ := her.at (by intro h; rw [h] at hjy; exact absurd hjy (Nat.not_lt_zero _))
                subst ea
                have cl := (hce j hjy).1.k0
                have hlo := last_el HAT.out.same HM.out
                rw [hlo] at cl
                obtain ⟨hbl, hbe⟩ := leq_no (a := e.id) (b := lastOf L) HLT.out
                obtain ⟨la, hla⟩ : ∃ la, lastOf L = la := ⟨_, rfl⟩
                rw [hla] at cl hbl hbe
                have hj1 : ((j + 1 : Nat) : Int) - 1 = (j : Int) := by omega
                obtain ⟨j0, -⟩ := cells11 HY7.out
                clear her hce hlo hla
                go_upto_region 10 with fail
                go_quiet (fail)
                go_wp2_with fail
                go_meet
                exact ⟨rfl, below_draw (Below.refl _ W7) _⟩
            case rest =>
              obtain ⟨rfl, hbc⟩ := hcut
              have HBC := Lib.hid hbc
              have hboxc := row_below HBX7.out hbc
              have HAC := Lib.hid (row_below HA7.out hbc)
              have HFC := Lib.hid (row_below HF7.out hbc)
              have HLC := Lib.hid (HL7.out.below hbc)
              have HYC := Lib.hid (row_below HY7.out hbc)
              have HRC := Lib.hid (HR7.out.below hbc)
              have HLWC := Lib.hid (HLW7.out.trans (hbc.mono HLW7.out.size))
              obtain ⟨wq, hwq⟩ : ∃ x, x = wc := ⟨_, rfl⟩
              subst hwq
              clear hbc k0 fa0 fa1 ff0 ff1 ff2 ff3
              obtain ⟨k0, kf⟩ := cell1r hboxc
              clear hboxc
              by_cases h60 : 60 ≤ m
              · have hi60 : (60 : Int) ≤ (m : Int) := by omega
                have hrb := HSU.out 7 (by simp) (by rw [HPK.out, if_pos h60])
                have HRB := Lib.hid hrb
                obtain ⟨fa0, fa1⟩ := cell1r HAC.out
                obtain ⟨ff0, ff1, ff2, ff3⟩ := Rp.cells2 HFC.out
                clear hrb h60
                go_wp2
                obtain ⟨r1, r2, r3⟩ := rows3 HAC.out HFC.out (.slice none 0 0) (.int .i64 7) (.int .i64 (k : Int)) HLWC.out (by rw [HAE.out]; exact Nat.le_refl _)
                refine bodyPost_ret (res_rrb r1 r2 rfl rfl) rfl ?_
                exact rrb_bad HBIG.out HRB.out rfl rfl r3
              · have hi60 : ¬ (60 : Int) ≤ (m : Int) := by omega
                have hpk0 : putK e L = 0 := by rw [HPK.out, if_neg h60]
                have HPK0 := Lib.hid hpk0
                obtain ⟨j0, j1, j2, j3, j4, j5, j6, j7, j8, j9, j10⟩ := cells11 HYC.out
                obtain ⟨Y, hY⟩ : ∃ Y : EvV, (⟨e, .slice a1 e.ru.ds.length c1, .slice a2 e.sk.length c2, .slice a3 e.mv.length c3⟩ : EvV) = Y := ⟨_, rfl⟩
                have HYY := Lib.hid hY
                clear h60 hpk0 hY
                have hrvq : ∀ y ∈ ys ++ [Y], y.rv (wq.alloc (.cells (e.cells (.slice a1 e.ru.ds.length c1) (.slice a2 e.sk.length c2) (.slice a3 e.mv.length c3)) 40)) := fun y hy => by
                  have hba : Below wq.heap.size wq (wq.alloc (.cells (e.cells (.slice a1 e.ru.ds.length c1) (.slice a2 e.sk.length c2) (.slice a3 e.mv.length c3)) 40)) := (Below.refl _ wq).alloc (Nat.le_refl _) _
                  rcases List.mem_append.1 hy with hy | hy
                  · exact (((HAT.out.rv y hy).below HBW.out).below HBC.out).below hba
                  · rw [List.mem_singleton] at hy; subst hy; rw [← HYY.out]; exact Rv.below HRC.out hba
                have hoffs : Offs p (ys ++ [Y]) := fun y hy c hc => by
                  rcases List.mem_append.1 hy with hy | hy
                  · exact HAT.out.offs y hy c hc
                  · rw [List.mem_singleton] at hy; subst hy; rw [← HYY.out]; exact HO3.out c (by have := HAT.out.lay.lt; omega)
                have hsepq : ∀ y ∈ ys ++ [Y], Apart2 (Value.slice a ys.length c).ownBlock y := fun y hy g hg => by
                  rcases List.mem_append.1 hy with hy | hy
                  · exact HAT.out.sep y hy g hg
                  · rw [List.mem_singleton] at hy; subst hy; rw [← HYY.out]
                    refine HO3.out g ?_
                    rcases HAT.out.lay.own.2 with ⟨h1, _⟩ | ⟨g2, cap2, cur2, h1, _, h2, _⟩
                    · rw [h1] at hg; cases hg
                    · rw [h1] at hg
                      have : g2 = g := by simpa [Value.ownBlock] using hg
                      subst this
                      exact (Array.getElem?_eq_some_iff.1 h2).1
                have HRVQ := Lib.hid hrvq
                have HOFFS := Lib.hid hoffs
                have HSEPQ := Lib.hid hsepq
                clear hrvq hoffs hsepq
                go_wp2_with (at_builtin
                             refine append_ev_at rfl (.tmp 67) (.tmp 69) rfl (p + 1) (.slice a m c) ys rfl (by have h := HLC.out.own.alloc (.cells (e.cells (.slice a1 e.ru.ds.length c1) (.slice a2 e.sk.length c2) (.slice a3 e.mv.length c3)) 40); rw [HM.out] at h ⊢; exact h) wq.heap.size ⟨e, .slice a1 e.ru.ds.length c1, .slice a2 e.sk.length c2, .slice a3 e.mv.length c3⟩ rfl
                               (at11_box (heap_new wq _)) (HRC.out.below ((Below.refl _ wq).alloc (Nat.le_refl _) _)) (by rw [HM.out]; omega) (by have := HLC.out.lt; simp; omega) ?_
                             intro a4 c4 wb4 hown4 hbb4 hgr4 hloc4
                             have hbb6 : Below (p + 1) wq wb4 := ((Below.refl _ wq).alloc HLC.out.lt _).trans hbb4
                             have HOB4 := Lib.hid hown4
                             have HBB4 := Lib.hid hbb6
                             have HGR4 := Lib.hid hgr4
                             have HLOC4 := Lib.hid hloc4
                             have hrow4 := (hbb6.block p (Nat.lt_succ_self _)).trans HLC.out.box
                             rw [HM.out] at hrow4 ⊢
                             obtain ⟨q0, q1⟩ := cell1r hrow4
                             clear hown4 hbb4 hbb6 hrow4 hgr4 hloc4)
                go_roundw
                case rel =>
                  have hst := HLC.out.step HBB4.out HOB4.out
                  rw [HM.out] at hst
                  have hgr := HGR4.out
                  have hloc := HLOC4.out
                  have hsq := HSEPQ.out
                  rw [HM.out] at hloc hsq
                  refine ⟨k + 1, L ++ [e], ys ++ [Y], a4, c4, by omega, by go_num, ?_, by rw [← HYY.out]; exact hst, ?_, fun y hy => ?_, HG2.out HPK0.out, ?_, HOFFS.out, fun y hy => ?_⟩
                  · rw [HGO.out HPK0.out, HP.out]
                  · rw [List.map_append, HAT.out.same, ← HYY.out]; rfl
                  · have o := HOFFS.out y hy p (Nat.le_refl _)
                    exact (rv_grown hgr (HRVQ.out y hy) (hsq y hy)).off o.1 o.2.1 o.2.2
                  · exact (HLWC.out.trans (HBB4.out.mono (by have := HLC.out.lt; have h2 := HAE.out; omega))).setCell (p := ⟨p, 0, none⟩) (by show w.heap.size ≤ p; rw [HAE.out]; omega) _
                  · have hle : (ys ++ [Y]).length = m + 1 := by rw [List.length_append, HM.out]; rfl
                    rw [hle]
                    intro g hg
                    rcases hloc with h | h
                    · exact hsq y hy g (h.symm.trans hg)
                    · rw [h] at hg; injection hg with hg; subst hg
                      exact rv_new (HRVQ.out y hy) (Nat.le_refl _)
                case measure => simp [intOf]; omega
          · have hcs := leq_yes (a := e.id) (b := lastOf L) hlast
            have hrb : readB (mk l) = (8, k, L) := by
              have h8 : (if (0 : Nat) ≠ 0 then (0 : Nat) else if (lastOf L).data.toList < key e then putK e L else 8) = 8 := by rw [if_neg (by simp), if_neg hlast]
              rw [HREL.out, h8, if_pos (by simp)]
            have HRB := Lib.hid hrb
            have HCS := Lib.hid hcs
            cases m with
            | zero =>
              exfalso
              have hLn : L = [] := List.length_eq_zero_iff.1 hLm
              rw [hLn] at hlast
              exact hlast (key_some hgd)
            | succ j =>
              have hjy : j < ys.length := by rw [HM.out]; exact Nat.lt_succ_self j
              have her : EReads W7 (.slice a ys.length c) ys := ereads_own HL7.out.own rfl (fun y hy => ((HAT.out.rv y hy).below HBW.out))
              obtain ⟨-, b, o, ea, hce⟩ := her.at (by intro h; rw [h] at hjy; exact absurd hjy (Nat.not_lt_zero _))
              subst ea
              have cl := (hce j hjy).1.k0
              have hlo := last_el HAT.out.same HM.out
              rw [hlo] at cl
              have hcs2 := HCS.out
              obtain ⟨la, hla⟩ : ∃ la, lastOf L = la := ⟨_, rfl⟩
              rw [hla] at cl hcs2
              have hj1 : ((j + 1 : Nat) : Int) - 1 = (j : Int) := by omega
              obtain ⟨j0, -⟩ := cells11 HY7.out
              clear her hce hlo hla hcs hrb hlast hgd
              rcases hcs2 with hbl | ⟨hbl, hbe⟩
              · go_upto_region 10 with fail
                go_quiet (fail)
                have hbq := below_draw (Below.refl W7.heap.size W7) nq
                have hA9 := row_below HA7.out hbq
                have hF9 := row_below HF7.out hbq
                obtain ⟨W9, hW9⟩ : ∃ W9, W7.drewN nq = W9 := ⟨_, rfl⟩
                rw [hW9] at hbq hA9 hF9 ⊢
                have HA9 := Lib.hid hA9
                have HF9 := Lib.hid hF9
                have HB9 := Lib.hid (HLW7.out.trans (hbq.mono HLW7.out.size))
                obtain ⟨k0, -⟩ := cell1r (row_below HBX7.out hbq)
                clear hW9 hbq fa0 fa1 ff0 ff1 ff2 ff3 cl j0
                obtain ⟨fa0, fa1⟩ := cell1r hA9
                obtain ⟨ff0, ff1, ff2, ff3⟩ := Rp.cells2 hF9
                clear hA9 hF9
                go_wp2
                obtain ⟨r1, r2, r3⟩ := rows3 HA9.out HF9.out (.slice none 0 0) (.int .i64 8) (.int .i64 (k : Int)) HB9.out (by rw [HAE.out]; exact Nat.le_refl _)
                refine bodyPost_ret (res_rrb r1 r2 rfl rfl) rfl ?_
                exact rrb_bad HBIG.out HRB.out rfl rfl r3
              · go_upto_region 10 with fail
                go_quiet (fail)
                have hbq := below_draw (Below.refl W7.heap.size W7) nq
                have hA9 := row_below HA7.out hbq
                have hF9 := row_below HF7.out hbq
                obtain ⟨W9, hW9⟩ : ∃ W9, W7.drewN nq = W9 := ⟨_, rfl⟩
                rw [hW9] at hbq hA9 hF9 ⊢
                have HA9 := Lib.hid hA9
                have HF9 := Lib.hid hF9
                have HB9 := Lib.hid (HLW7.out.trans (hbq.mono HLW7.out.size))
                obtain ⟨k0, -⟩ := cell1r (row_below HBX7.out hbq)
                clear hW9 hbq fa0 fa1 ff0 ff1 ff2 ff3 cl j0
                obtain ⟨fa0, fa1⟩ := cell1r hA9
                obtain ⟨ff0, ff1, ff2, ff3⟩ := Rp.cells2 hF9
                clear hA9 hF9
                go_wp2
                obtain ⟨r1, r2, r3⟩ := rows3 HA9.out HF9.out (.slice none 0 0) (.int .i64 8) (.int .i64 (k : Int)) HB9.out (by rw [HAE.out]; exact Nat.le_refl _)
                refine bodyPost_ret (res_rrb r1 r2 rfl rfl) rfl ?_
                exact rrb_bad HBIG.out HRB.out rfl rfl r3
      · have hkn : k + 1 = n := by omega
        have hi1 : ¬ (k : Int) < (n : Int) - 1 := by omega
        have hik : (n : Int) - 1 = (k : Int) := by omega
        have hfi := rd_fin (P := P) (i := k) (by rw [HN.out]; exact hkn) L
        rw [HX.out] at hfi
        have hrel := HAT.out.rel
        rw [HP.out, hfi] at hrel
        have HREL := Lib.hid hrel
        obtain ⟨fa0, fa1⟩ := cell1r HAR.out
        obtain ⟨ff0, ff1, ff2, ff3⟩ := Rp.cells2 HFR.out
        have hap : A + 1 < p := by omega
        clear hfi hrel
        by_cases hx0 : x.data.toList = []
        · obtain rfl : x = ⟨#[]⟩ := by rw [str_mk x, hx0]
          have hrb : readB (mk l) = (0, k, L) := by rw [HREL.out, if_pos rfl]
          have HRB := Lib.hid hrb
          have HFIN : Hid (RrFin p ys a c wr) := Lib.hid ⟨HAT.out.lay.own, HAT.out.rv⟩
          have HFINE := Lib.hid (fun W => Rp.fine_any W)
          have hd0 : Below wr.heap.size wr wr.drew := Tp.below_drew (Below.refl _ wr)
          have HAD := Lib.hid (row_below HAR.out hd0)
          have HFD := Lib.hid (row_below HFR.out hd0)
          have HBD := Lib.hid (row_below HBOX.out hd0)
          have HLD := Lib.hid (HAT.out.low.trans (hd0.mono HAT.out.low.size))
          have HFIND := Lib.hid (HFIN.out.below hd0)
          clear hrb hx0
          go_upto_region 19 with fail
          go_region_with (first
            | ((with_reducible refine (HFINE.out wr.drew).mono ?_)
               rintro e3 w3 ⟨rfl, hb3⟩
               obtain ⟨t0, -⟩ := cell1r (row_below HBD.out hb3)
               obtain ⟨s0, s1⟩ := cell1r (row_below HAD.out hb3)
               obtain ⟨g0, g1, g2, g3⟩ := Rp.cells2 (row_below HFD.out hb3)
               have HB3 := Lib.hid hb3
               clear hb3)
            | ((with_reducible refine (HFINE.out (wr.drew.setCell ⟨A, 0, none⟩ (.slice a m c))).mono ?_)
               rintro e3 w3 ⟨rfl, hb3⟩
               obtain ⟨g0, g1, g2, g3⟩ := Rp.cells2 (row_below ((Below.heap_setCell _ _ _ _ (by show A + 1 ≠ A; omega)).trans HFD.out) hb3)
               have HB3 := Lib.hid hb3
               clear hb3))
          all_goals (
            go_wp2
            have hBA : w.heap.size ≤ A := by rw [HAE.out]; exact Nat.le_refl _
            first
              | (obtain ⟨r1, r2, r3⟩ := rows3 (row_below HAD.out HB3.out) (row_below HFD.out HB3.out) (.slice a m c) (.int .i64 0) (.int .i64 (-1)) (HLD.out.trans (HB3.out.mono HLD.out.size)) hBA
                 refine bodyPost_ret (res_rrb r1 r2 rfl rfl) rfl ?_
                 exact rrb_good HBIG.out HRB.out HAT.out.same HM.out r3 ((((HFIND.out.below HB3.out).set HAT.out.offs (by omega) _ _).set HAT.out.offs (by omega) _ _).set HAT.out.offs (by omega) _ _))
              | (obtain ⟨r1, r2, r3⟩ := rows3b (row_below HAD.out HB3.out) (row_below HFD.out HB3.out) (.slice a m c) (.int .i64 0) (.int .i64 (-1)) (HLD.out.trans (HB3.out.mono HLD.out.size)) hBA
                 refine bodyPost_ret (res_rrb r1 r2 rfl rfl) rfl ?_
                 exact rrb_good HBIG.out HRB.out HAT.out.same HM.out r3 ((((HFIND.out.below HB3.out).set HAT.out.offs (by omega) _ _).set HAT.out.offs (by omega) _ _).set HAT.out.offs (by omega) _ _)))
        · have hrb : readB (mk l) = (1, k, L) := by rw [HREL.out, if_neg hx0]
          have HRB := Lib.hid hrb
          have hnl : x.toList ≠ [] := by rw [ByteArray.toList_eq]; exact hx0
          have n1 : (x.toList == []) = false := beq_eq_false_iff_ne.2 hnl
          have n2 : x.toList.isEmpty = false := by simpa using hnl
          clear hrb hx0 hnl
          go_wp2
          obtain ⟨r1, r2, r3⟩ := rows3 HAR.out HFR.out (.slice none 0 0) (.int .i64 1) (.int .i64 (k : Int)) HAT.out.low (by rw [HAE.out]; exact Nat.le_refl _)
          refine bodyPost_ret (res_rrb r1 r2 rfl rfl) rfl ?_
          exact rrb_bad HBIG.out HRB.out rfl rfl r3
end Bk
end Go.Proofs.YtghkalamlcfnnaaGreatDoor
