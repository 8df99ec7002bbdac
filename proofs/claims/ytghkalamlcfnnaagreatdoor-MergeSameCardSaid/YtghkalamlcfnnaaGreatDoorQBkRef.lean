/- The document's calendars: Find, Without, With, Put. -/
import Derived.Test.YtghkalamlcfnnaaGreatDoorQA6
import Derived.Test.YtghkalamlcfnnaaGreatDoorQA12
import Derived.Deep.RegionLaw
namespace Go.Proofs.YtghkalamlcfnnaaGreatDoor
open Go Go.RowKit Go.Shelf Lmd
attribute [local go_sem] Oper.semAt_some
namespace Bk
open Evt Tp Rul Day Cand Er
abbrev B2 := 27
theorem cell1r {w : World} {b : Nat} {v : Value} {t : TypeId} (h : w.heap[b]? = some (.cells #[v] t (0, 0))) : w.cell? ⟨b, 0, none⟩ = some v ∧ w.frozen? ⟨b, 0, none⟩ = false := by simp [World.cell?, World.frozen?, h]
abbrev keyV (x : EvV) : List UInt8 := key x.e
def FoundAt (xs : List EvV) (k : List UInt8) (n : Int) : Prop := (n = -1 ∧ ∀ j, j < xs.length → keyV (el xs j) ≠ k) ∨ ∃ j : Nat, j < xs.length ∧ n = (j : Int) ∧ keyV (el xs j) = k
theorem mem_elV {xs : List EvV} {x : EvV} : x ∈ xs ↔ ∃ i, i < xs.length ∧ el xs i = x := by
  rw [List.mem_iff_getElem]
  constructor
  · rintro ⟨i, h, e⟩; exact ⟨i, h, by rw [el_lt h]; exact e⟩
  · rintro ⟨i, h, e⟩; exact ⟨i, h, by rw [← el_lt h]; exact e⟩
theorem FoundAt.has {xs : List EvV} {k : List UInt8} {n : Int} (h : FoundAt xs k n) : hasK k (xs.map (·.e)) = decide (0 ≤ n) := by
  rcases h with ⟨rfl, h⟩ | ⟨j, hj, rfl, h⟩
  · rw [decide_eq_false (by omega), hasK_false]
    intro e he
    obtain ⟨x, hx, rfl⟩ := List.mem_map.1 he
    obtain ⟨i, hi, rfl⟩ := mem_elV.1 hx
    exact h i hi
  · rw [decide_eq_true (by omega), hasK_iff]
    exact ⟨_, List.mem_map.2 ⟨_, el_mem hj, rfl⟩, h⟩
theorem el_take_succ {xs : List EvV} {k : Nat} (h : k < xs.length) : xs.take (k + 1) = xs.take k ++ [el xs k] := by
  rw [List.take_succ_eq_append_getElem h, el_lt h]
set_option maxRecDepth 100000 in
set_option maxHeartbeats 2000000 in
theorem rfind_any (xs : List EvV) (v : Value) (s : ByteArray) (w : World) (hr : EReads w v xs) (hl : xs.length ≤ 1000) :
    Calls Tryz.prog 52 #[.agg #[v], .string s] w fun r w' => ∃ n, r = .returned (.int .i64 n) ∧ FoundAt xs s.data.toList n ∧ Below w.heap.size w w' := by
  obtain ⟨a, cap, rfl⟩ := hr.shape
  obtain ⟨n, hn⟩ : ∃ n, xs.length = n := ⟨_, rfl⟩
  obtain ⟨W, hW⟩ : ∃ W, w.alloc (.cells #[.slice a n cap] 27) = W := ⟨_, rfl⟩
  have hB : Below w.heap.size w W := by rw [← hW]; exact (Below.refl _ w).alloc (Nat.le_refl _) _
  have hx : W.heap[w.heap.size]? = some (.cells #[.slice a n cap] 27) := by rw [← hW]; exact heap_new w _
  obtain ⟨k0, -⟩ := cell1r hx
  rw [hn] at hl hr ⊢
  have HR := Lib.hid (hr.below hB)
  have HW := Lib.hid hW
  have HB := Lib.hid hB
  have HN := Lib.hid hn
  clear hr hW hB hx hn
  go_enter Tryz.func52, Tryz.ntmps52
  go_wp2_with fail
  rw [HW.out]
  go_loopw [5] (fun i wr => ∃ k : Nat, k ≤ n ∧ i = .int .i64 (k : Int) ∧ wr = W ∧ ∀ j, j < k → keyV (el xs j) ≠ s.data.toList) (fun i _ => n - (intOf i).toNat)
  case atStart => exact ⟨0, Nat.zero_le _, rfl, rfl, fun _ h => absurd h (Nat.not_lt_zero _)⟩
  case round =>
    obtain ⟨k, hk, rfl, rfl, hs⟩ := hrel
    have HS := Lib.hid hs
    clear hs
    by_cases hlt : k < n
    · obtain ⟨-, b, o, ha, hc⟩ := HR.out.at (by intro h; have := HN.out; rw [h] at this; simp at this; omega)
      subst ha
      have c0 := (hc k (by rw [HN.out]; exact hlt)).1.k0
      clear hc
      obtain ⟨x, hx⟩ : ∃ x, el xs k = x := ⟨_, rfl⟩
      rw [hx] at c0
      have HX := Lib.hid hx
      clear hx
      by_cases hq : keyV x = s.data.toList
      · have hb : (x.e.id.toList == s.toList) = true := by rw [ByteArray.toList_eq, ByteArray.toList_eq]; exact beq_iff_eq.2 hq
        have hb2 : x.e.id.toList = s.toList := by rw [ByteArray.toList_eq, ByteArray.toList_eq]; exact hq
        have HQ := Lib.hid hq
        clear hq
        go_wp2
        go_ret
        exact ⟨_, rfl, .inr ⟨k, by rw [HN.out]; exact hlt, rfl, by rw [HX.out]; exact HQ.out⟩, HB.out⟩
      · have hb : (x.e.id.toList == s.toList) = false := by rw [ByteArray.toList_eq, ByteArray.toList_eq]; exact beq_false_of_ne hq
        have hb2 : ¬ x.e.id.toList = s.toList := by rw [ByteArray.toList_eq, ByteArray.toList_eq]; exact hq
        have HQ := Lib.hid hq
        clear hq
        go_wp2
        go_roundw
        case rel => exact ⟨k + 1, by omega, by go_num, by trivial, fun j hj => by
          by_cases ej : j = k
          · subst ej; rw [HX.out]; exact HQ.out
          · exact HS.out j (by omega)⟩
        case measure => simp [intOf]; omega
    · obtain rfl : k = n := by omega
      go_wp2
      go_ret
      exact ⟨_, rfl, .inl ⟨rfl, fun j hj => HS.out j (by rw [HN.out] at hj; exact hj)⟩, HB.out⟩
theorem step_append_ev {w : World} {ops : Array Oper} {o : Oper} {a : Act} {K : Act → World → Prop} {Q : Exit → Act → World → Prop} {E : Prop} (hgd : o.guard = none) (s x : Operand)
    (ho : o.op = .call { callee := .builtin .append, args := #[s, x], argTypes := #[22, 22] })
    (base : Nat) (v : Value) (xs : List EvV) (hs : a.eval s = v) (hown : w.ownsRow base 40 11 v xs.length (cellsV xs)) (g : Nat) (y : EvV) (hx : a.eval x = .slice (some ⟨g, 0, none⟩) 1 1)
    (hg : At11 w g 0 y) (hy : y.rv w) (hb : xs.length ≤ 3000000) (hbase : base ≤ w.heap.size)
    (h : ∀ a' c' w', w'.ownsRow base 40 11 (.slice a' (xs.length + 1) c') (xs ++ [y]).length (cellsV (xs ++ [y])) → Below base w w' → K (a.put o.dst (.slice a' (xs.length + 1) c')) w') :
    if Region.wanted o (yielded ops a.tmps) = true then Oper.wp Tryz.prog o a w K Q else E := by
  have hw : Region.wanted o (yielded ops a.tmps) = true := by simp [Region.wanted, hgd]
  rw [if_pos hw]
  obtain ⟨i0, hi0, hz0, hz1, hz2⟩ := info_parts ev_info
  obtain ⟨a6, c6, e6⟩ := hy.d.shape
  obtain ⟨a9, c9, e9⟩ := hy.s.shape
  obtain ⟨a10, c10, e10⟩ := hy.m.shape
  refine wp_append_own w s x 22 ho base 40 i0 _ 11 160 Tryz.underlying22 hi0 hz0 hz1 hz2 rfl (by omega) v xs.length (cellsV xs) hs hown ⟨g, 0, none⟩ 1 1 y.cs hx rfl
    (fun j u hu => by
      rw [add_plain]
      exact hg.of j u hu) (fun u hu => by
        simp only [EvV.cs, e6, e9, e10, List.mem_cons, List.not_mem_nil, or_false] at hu
        rcases hu with rfl | rfl | rfl | rfl | rfl | rfl | rfl | rfl | rfl | rfl | rfl <;> rfl) (by simp only [maxLen]; omega) (by omega) hbase ?_
  intro v' w' h1 h2 _
  obtain ⟨a1, c1, rfl⟩ := own_at h1
  refine h a1 c1 w' ?_ ((Below.refl base w).grown h2 hbase (fun j ej => Evt.own_ge hown ej))
  rw [cellsV_snoc, List.length_append]; exact h1
theorem own_set11 {w : World} {base n p : Nat} {v u : Value} {xs : List Value} (h : w.ownsRow base 40 11 v n xs) (hp : p < base) : (w.setCell ⟨p, 0, none⟩ u).ownsRow base 40 11 v n xs := by
  rcases h with ⟨h1, h2 | ⟨g, cap, cur, rfl, h3, h4, h5⟩⟩
  · exact ⟨h1, .inl h2⟩
  · exact ⟨h1, .inr ⟨g, cap, cur, rfl, h3, by rw [row_far (by show g ≠ p; omega)]; exact h4, h5⟩⟩
theorem own_drew {w : World} {base n : Nat} {v : Value} {xs : List Value} (h : w.ownsRow base 40 11 v n xs) : w.drew.ownsRow base 40 11 v n xs := h
structure Lay (w wr : World) (p : Nat) (ys : List EvV) (a : Option Addr) (c : Nat) : Prop where
  low : Below p w wr
  box : wr.heap[p]? = some (.cells #[.slice a ys.length c] 27)
  own : wr.ownsRow (p + 1) 40 11 (.slice a ys.length c) ys.length (cellsV ys)
theorem Lay.lt {w wr : World} {p : Nat} {ys : List EvV} {a : Option Addr} {c : Nat} (h : Lay w wr p ys a c) : p + 1 ≤ wr.heap.size := (Array.getElem?_eq_some_iff.1 h.box).1
theorem Lay.start {w : World} {p : Nat} (h : w.heap[p]? = some (.cells #[.slice none 0 0] 27)) : Lay w w p [] none 0 := ⟨Below.refl _ _, h, ⟨rfl, .inl ⟨rfl, rfl⟩⟩⟩
theorem Lay.below {w wr wb : World} {p : Nat} {ys : List EvV} {a : Option Addr} {c : Nat} (h : Lay w wr p ys a c) (hb : Below wr.heap.size wr wb) : Lay w wb p ys a c :=
  ⟨h.low.trans (hb.mono (by have := h.lt; omega)), row_below h.box hb, Evt.own_below h.own hb⟩
theorem Lay.step {w wr wb : World} {p : Nat} {ys : List EvV} {x : EvV} {a a2 : Option Addr} {c c2 : Nat} (h : Lay w wr p ys a c) (hb : Below (p + 1) wr wb)
    (hown : wb.ownsRow (p + 1) 40 11 (.slice a2 (ys.length + 1) c2) (ys ++ [x]).length (cellsV (ys ++ [x]))) : Lay w (wb.setCell ⟨p, 0, none⟩ (.slice a2 (ys.length + 1) c2)) p (ys ++ [x]) a2 c2 := by
  have hl : (ys ++ [x]).length = ys.length + 1 := by simp
  have hrow : wb.heap[p]? = some (.cells #[.slice a ys.length c] 27) := by rw [hb.block _ (Nat.lt_succ_self p)]; exact h.box
  refine ⟨(h.low.trans (hb.mono (Nat.le_succ p))).setCell (p := ⟨p, 0, none⟩) (Nat.le_refl _) _, ?_, ?_⟩
  · rw [row_set hrow 0 _, hl]; rfl
  · rw [hl] at hown ⊢
    exact own_set11 hown (Nat.lt_succ_self p)
theorem EReads.rv {w : World} {v : Value} {xs : List EvV} (h : EReads w v xs) : ∀ x ∈ xs, x.rv w := by
  intro x hx
  obtain ⟨i, hi, rfl⟩ := mem_elV.1 hx
  rcases h with ⟨rfl, _⟩ | ⟨b, off, c, rfl, hc⟩
  · exact absurd hi (Nat.not_lt_zero _)
  · exact (hc i hi).2
set_option maxRecDepth 100000 in
set_option maxHeartbeats 4000000 in
theorem rwithout_any (xs : List EvV) (v : Value) (s : ByteArray) (w : World) (hr : EReads w v xs) (hl : xs.length ≤ 1000) :
    Calls Tryz.prog 87 #[.agg #[v], .string s] w fun r w' => ∃ v', r = .returned (.agg #[v']) ∧ EReads w' v' (gwithout keyV s.data.toList xs) ∧ Below w.heap.size w w' := by
  obtain ⟨a, cap, rfl⟩ := hr.shape
  obtain ⟨n, hn⟩ : ∃ n, xs.length = n := ⟨_, rfl⟩
  rw [hn] at hl hr ⊢
  obtain ⟨W, hW⟩ : ∃ W, ((w.alloc (.cells #[.slice a n cap] 27)).alloc (.cells #[.slice none 0 0] 27)).alloc (.cells #[.slice none 0 0] 27) = W := ⟨_, rfl⟩
  have hB : Below w.heap.size w W := by rw [← hW]; exact (((Below.refl _ w).alloc (Nat.le_refl _) _).alloc (by simp) _).alloc (by simp; omega) _
  have hx0 : W.heap[w.heap.size]? = some (.cells #[.slice a n cap] 27) := by
    rw [← hW]; exact (Below.heap_alloc _ _ _ (by simp; omega)).trans ((Below.heap_alloc _ _ _ (by simp)).trans (heap_new w _))
  have hx1 : W.heap[w.heap.size + 1]? = some (.cells #[.slice none 0 0] 27) := by
    rw [← hW]
    refine (Below.heap_alloc _ _ _ (by simp)).trans ?_
    have h := heap_new (w.alloc (.cells #[.slice a n cap] 27)) (.cells #[.slice none 0 0] 27)
    rwa [World.size_alloc] at h
  have hx2 : W.heap[w.heap.size + 2]? = some (.cells #[.slice none 0 0] 27) := by
    rw [← hW]
    have h := heap_new ((w.alloc (.cells #[.slice a n cap] 27)).alloc (.cells #[.slice none 0 0] 27)) (.cells #[.slice none 0 0] 27)
    rwa [World.size_alloc, World.size_alloc] at h
  have HR := Lib.hid hr
  have HW := Lib.hid hW
  have HB := Lib.hid hB
  have HN := Lib.hid hn
  have HX0 := Lib.hid hx0
  have HX1 := Lib.hid hx1
  have HX2 := Lib.hid hx2
  clear hr hW hB hx0 hx1 hx2 hn
  go_enter Tryz.func87, Tryz.ntmps87
  go_wp2_with fail
  rw [HW.out]
  go_loopw [6] (fun i wr => ∃ (k : Nat) (ys : List EvV) (a1 : Option Addr) (c1 : Nat), k ≤ n ∧ i = .int .i64 (k : Int) ∧ ys = gwithout keyV s.data.toList (xs.take k) ∧ Lay W wr (w.heap.size + 2) ys a1 c1) (fun i _ => n - (intOf i).toNat)
  case atStart => exact ⟨0, [], none, 0, Nat.zero_le _, rfl, rfl, Lay.start HX2.out⟩
  case round =>
    obtain ⟨k, ys, a1, c1, hk, rfl, hys, hlay⟩ := hrel
    obtain ⟨k0, -⟩ := cell1r ((hlay.low.block _ (by omega)).trans HX0.out)
    obtain ⟨k2, f2⟩ := cell1r hlay.box
    have hlt3 := hlay.lt
    have HY := Lib.hid hys
    have HL := Lib.hid hlay
    have hrr := HR.out.below (HB.out.trans (hlay.low.mono (by omega)))
    clear hys hlay
    by_cases hlt : k < n
    · have htk := el_take_succ (xs := xs) (k := k) (by rw [HN.out]; exact hlt)
      obtain ⟨-, b, o, ha, hc⟩ := hrr.at (by intro h; have := HN.out; rw [h] at this; simp at this; omega)
      subst ha
      obtain ⟨⟨c0, c1', c2, c3, c4, c5, c6, c7, c8, c9, c10⟩, hrv⟩ := hc k (by rw [HN.out]; exact hlt)
      obtain ⟨x, hx⟩ : ∃ x, el xs k = x := ⟨_, rfl⟩
      rw [hx] at c0 c1' c2 c3 c4 c5 c6 c7 c8 c9 c10 hrv htk
      obtain ⟨e, vd, vs, vm⟩ := x
      dsimp only at c0 c1' c2 c3 c4 c5 c6 c7 c8 c9 c10 hrv
      obtain ⟨a6, c6', rfl⟩ := hrv.d.shape
      obtain ⟨a9, c9', rfl⟩ := hrv.s.shape
      obtain ⟨a10, c10', rfl⟩ := hrv.m.shape
      have HRV := Lib.hid hrv
      have HTK := Lib.hid htk
      clear hc hrr hx hrv htk
      by_cases hq : key e = s.data.toList
      · have hb : (e.id.toList == s.toList) = true := by rw [ByteArray.toList_eq, ByteArray.toList_eq]; exact beq_iff_eq.2 hq
        have hb2 : e.id.toList = s.toList := by rw [ByteArray.toList_eq, ByteArray.toList_eq]; exact hq
        have HQ := Lib.hid hq
        clear hq c1' c2 c3 c4 c5 c6 c7 c8 c9 c10
        go_wp2
        go_roundw
        case rel => exact ⟨k + 1, ys, a1, c1, by omega, by go_num, by rw [HTK.out, gwithout_snoc, if_neg (fun h => h HQ.out)]; exact HY.out, HL.out⟩
        case measure => simp [intOf]; omega
      · have hb : (e.id.toList == s.toList) = false := by rw [ByteArray.toList_eq, ByteArray.toList_eq]; exact beq_false_of_ne hq
        have hb2 : ¬ e.id.toList = s.toList := by rw [ByteArray.toList_eq, ByteArray.toList_eq]; exact hq
        have HQ := Lib.hid hq
        have hyl : ys.length ≤ 1000 := by rw [HY.out]; exact Nat.le_trans (List.length_filter_le _ _) (by rw [List.length_take]; omega)
        have HYL := Lib.hid hyl
        have k2a := fun o => Lib.cell?_alloc_some (W := wr) o k2
        clear hq hyl
        go_upto_region 6 with fail
        go_region_law (refine step_append_ev rfl (.tmp 24) (.tmp 30) rfl (w.heap.size + 3) (.slice a1 ys.length c1) ys rfl ((own_drew HL.out.own).alloc _) wr.heap.size ⟨e, .slice a6 _ c6', .slice a9 _ c9', .slice a10 _ c10'⟩ rfl
                         (at11_box (heap_new wr.drew _)) (HRV.out.below ((below_drew (Below.refl _ wr)).alloc (Nat.le_refl _) _)) (by have := HYL.out; omega) (by have := HL.out.lt; simp; omega) ?_
                       intro a2 c2 wb hown' hbb
                       have hbb2 : Below (w.heap.size + 2 + 1) wr wb := ((below_drew (Below.refl _ wr)).alloc (by have := HL.out.lt; exact this) _).trans hbb
                       have HOB := Lib.hid hown'
                       have HBB := Lib.hid hbb2
                       have hrow : wb.heap[w.heap.size + 2]? = some (.cells #[.slice a1 ys.length c1] 27) := by rw [hbb2.block _ (by omega)]; exact HL.out.box
                       obtain ⟨j0, j1⟩ := cell1r hrow
                       clear hown' hbb hbb2 hrow)
        all_goals (
          go_wp2
          go_roundw
          case rel => exact ⟨k + 1, ys ++ [⟨e, .slice a6 _ c6', .slice a9 _ c9', .slice a10 _ c10'⟩], a2, c2, by omega, by go_num, by rw [HTK.out, gwithout_snoc, if_pos HQ.out, ← HY.out], HL.out.step HBB.out HOB.out⟩
          case measure => simp [intOf]; omega)
    · obtain rfl : k = n := by omega
      have htk : xs.take xs.length = xs := List.take_length
      rw [HN.out] at htk
      obtain ⟨j0, j1⟩ := cell1r ((HL.out.low.block _ (by omega)).trans HX1.out)
      have HTK := Lib.hid htk
      clear htk hrr
      go_wp2
      have hrow := row_set ((HL.out.low.block _ (by omega)).trans HX1.out : wr.heap[w.heap.size + 1]? = _) 0 (.slice a1 ys.length c1)
      refine bodyPost_ret (results_cell_row rfl _ _ (w.heap.size + 1) _ _ _ _ rfl hrow Tryz.underlying27 rfl (by kernel_rfl)) rfl ?_
      have hys : ys = gwithout keyV s.data.toList xs := by rw [HY.out, HTK.out]
      refine ⟨_, rfl, ?_, ?_⟩
      · rw [← hys]
        refine ereads_own (own_set11 HL.out.own (by omega)) rfl fun x hx => ?_
        rw [hys] at hx
        exact (HR.out.rv x (List.mem_filter.1 hx).1).below ((HB.out.trans (HL.out.low.mono (by omega))).setCell (p := ⟨w.heap.size + 1, 0, none⟩) (by show w.heap.size ≤ w.heap.size + 1; omega) _)
      · exact (HB.out.trans (HL.out.low.mono (by omega))).setCell (p := ⟨w.heap.size + 1, 0, none⟩) (by show w.heap.size ≤ w.heap.size + 1; omega) _
theorem mem_gput1 {e x : EvV} : ∀ {L : List EvV}, x ∈ gput1 keyV e L → x = e ∨ x ∈ L
  | [], h => .inl (by simpa [gput1] using h)
  | y :: t, h => by
    unfold gput1 at h
    split at h
    · simpa using h
    · rcases List.mem_cons.1 h with h | h
      · exact .inr (h ▸ List.mem_cons_self ..)
      · exact (mem_gput1 h).imp id (List.mem_cons_of_mem _)
set_option maxRecDepth 100000 in
set_option maxHeartbeats 8000000 in
theorem rwith_any (xs : List EvV) (v : Value) (y : EvV) (w : World) (hr : EReads w v xs) (hy : y.rv w) (hl : xs.length ≤ 1000) :
    Calls Tryz.prog 47 #[.agg #[v], .agg y.cells] w fun r w' => ∃ v', r = .returned (.agg #[v']) ∧ EReads w' v' (gput1 keyV y (gwithout keyV (keyV y) xs)) ∧ Below w.heap.size w w' := by
  obtain ⟨e, vd, vs, vm⟩ := y
  change Rv w e vd vs vm at hy
  show Calls _ _ #[.agg #[v], .agg (e.cells vd vs vm)] w fun r w' => ∃ v', r = .returned (.agg #[v']) ∧ EReads w' v' (gput1 keyV ⟨e, vd, vs, vm⟩ (gwithout keyV (key e) xs)) ∧ Below w.heap.size w w'
  obtain ⟨a6, c6', rfl⟩ := hy.d.shape
  obtain ⟨a9, c9', rfl⟩ := hy.s.shape
  obtain ⟨a10, c10', rfl⟩ := hy.m.shape
  obtain ⟨Y, hY⟩ : ∃ Y, (⟨e, .slice a6 e.ru.ds.length c6', .slice a9 e.sk.length c9', .slice a10 e.mv.length c10'⟩ : EvV) = Y := ⟨_, rfl⟩
  obtain ⟨xa, xc, rfl⟩ := hr.shape
  obtain ⟨W, hW⟩ : ∃ W, ((w.alloc (.cells #[.slice xa xs.length xc] 27)).alloc (.cells (e.cells (.slice a6 e.ru.ds.length c6') (.slice a9 e.sk.length c9') (.slice a10 e.mv.length c10')) 40)).alloc (.cells #[.slice none 0 0] 27) = W := ⟨_, rfl⟩
  have hB : Below w.heap.size w W := by rw [← hW]; exact (((Below.refl _ w).alloc (Nat.le_refl _) _).alloc (by simp) _).alloc (by simp; omega) _
  have hx0 : W.heap[w.heap.size]? = some (.cells #[.slice xa xs.length xc] 27) := by
    rw [← hW]; exact (Below.heap_alloc _ _ _ (by simp; omega)).trans ((Below.heap_alloc _ _ _ (by simp)).trans (heap_new w _))
  have hx1 : W.heap[w.heap.size + 1]? = some (.cells (e.cells (.slice a6 e.ru.ds.length c6') (.slice a9 e.sk.length c9') (.slice a10 e.mv.length c10')) 40) := by
    rw [← hW]
    refine (Below.heap_alloc _ _ _ (by simp)).trans ?_
    have h := heap_new (w.alloc (.cells #[.slice xa xs.length xc] 27)) (.cells (e.cells (.slice a6 e.ru.ds.length c6') (.slice a9 e.sk.length c9') (.slice a10 e.mv.length c10')) 40)
    rwa [World.size_alloc] at h
  have hx2 : W.heap[w.heap.size + 2]? = some (.cells #[.slice none 0 0] 27) := by
    rw [← hW]
    have h := heap_new ((w.alloc (.cells #[.slice xa xs.length xc] 27)).alloc (.cells (e.cells (.slice a6 e.ru.ds.length c6') (.slice a9 e.sk.length c9') (.slice a10 e.mv.length c10')) 40)) (.cells #[.slice none 0 0] 27)
    rwa [World.size_alloc, World.size_alloc] at h
  have hszW : W.heap.size = w.heap.size + 3 := by rw [← hW]; simp
  have hwo := rwithout_any xs _ e.id W (hr.below hB) hl
  have HR := Lib.hid hr.rv
  have HRY := Lib.hid hy
  have HYY := Lib.hid hY
  have HW := Lib.hid hW
  have HB := Lib.hid hB
  have HX0 := Lib.hid hx0
  have HX1 := Lib.hid hx1
  have HX2 := Lib.hid hx2
  have HSZ := Lib.hid hszW
  have HWO := Lib.hid hwo
  have k0 := (cell1r hx0).1
  obtain ⟨j0, -⟩ := cells11 hx1
  clear hr hy hW hB hx0 hx1 hx2 hszW hwo
  go_enter Tryz.func47, Tryz.ntmps47
  go_upto_region 1 with fail
  rw [HW.out]
  go_wp2_with fail
  (with_reducible refine HWO.out.mono ?_)
  rintro e1 w1 ⟨v1, rfl, hr1, hb1⟩
  obtain ⟨X, hX⟩ : ∃ X, gwithout keyV e.id.data.toList xs = X := ⟨_, rfl⟩
  rw [hX] at hr1
  obtain ⟨a1, c1, rfl⟩ := hr1.shape
  obtain ⟨n, hn⟩ : ∃ n, X.length = n := ⟨_, rfl⟩
  have hnl : n ≤ 1000 := by rw [← hn, ← hX]; exact Nat.le_trans (List.length_filter_le _ _) hl
  rw [hn] at hr1 ⊢
  have HXX := Lib.hid hX
  have HN := Lib.hid hn
  have HR1 := Lib.hid hr1
  have HB1 := Lib.hid hb1
  clear hX hn hr1 hb1 k0 j0
  go_upto_region 3 with fail
  obtain ⟨W2, hW2⟩ : ∃ W2, (w1.alloc (.cells #[.slice a1 n c1] 27)).alloc (.cells #[.slice none 0 0] 27) = W2 := ⟨_, rfl⟩
  have hb2 : Below w1.heap.size w1 W2 := by rw [← hW2]; exact ((Below.refl _ w1).alloc (Nat.le_refl _) _).alloc (by simp) _
  have hq0 : W2.heap[w1.heap.size]? = some (.cells #[.slice a1 n c1] 27) := by rw [← hW2]; exact (Below.heap_alloc _ _ _ (by simp)).trans (heap_new w1 _)
  have hq1 : W2.heap[w1.heap.size + 1]? = some (.cells #[.slice none 0 0] 27) := by
    rw [← hW2]
    have h := heap_new (w1.alloc (.cells #[.slice a1 n c1] 27)) (.cells #[.slice none 0 0] 27)
    rwa [World.size_alloc] at h
  rw [hW2]
  have hsw : w.heap.size + 3 ≤ w1.heap.size := by rw [← HSZ.out]; exact HB1.out.size
  have hB2 : Below w.heap.size w W2 := (HB.out.trans (HB1.out.mono (by have := HSZ.out; omega))).trans (hb2.mono (by omega))
  have hR2 : ∀ wr, Below (w1.heap.size + 1) W2 wr → EReads wr (.slice a1 n c1) X := fun wr h => HR1.out.below (hb2.trans (h.mono (Nat.le_succ _)))
  have hX1' := row_below (row_below HX1.out HB1.out) hb2
  have hX2' := row_below (row_below HX2.out HB1.out) hb2
  have HB2 := Lib.hid hB2
  have HR2 := Lib.hid hR2
  have HE2 := Lib.hid hX1'
  have HZ2 := Lib.hid hX2'
  have HQ0 := Lib.hid hq0
  have HQ1 := Lib.hid hq1
  have HRYW := Lib.hid (fun wq (h : Below W2.heap.size W2 wq ∨ Below (w.heap.size + 3) W2 wq) => HRY.out.below (hB2.trans (h.elim (fun h => h.mono hB2.size) (fun h => h.mono (by omega)))))
  clear hW2 hb2 hq0 hq1 hB2 hR2 hX1' hX2'
  obtain ⟨p, hp⟩ : ∃ p, w1.heap.size = p := ⟨_, rfl⟩
  rw [hp] at hsw HQ0 HQ1 HR2 ⊢
  clear hp HR1 HB1
  go_wp2_with fail
  go_loopw [7, 8] (fun u i wr => ∃ (k : Nat) (ys : List EvV) (a3 : Option Addr) (c3 : Nat), k ≤ n ∧ i = .int .i64 (k : Int) ∧ u = .bool ((X.take k).any fun x => decide (keyV Y < keyV x)) ∧ ys = gput2 keyV Y (X.take k) ∧ Lay W2 wr (p + 1) ys a3 c3) (fun _ i _ => n - (intOf i).toNat)
  case atStart => exact ⟨0, [], none, 0, Nat.zero_le _, rfl, rfl, rfl, Lay.start HQ1.out⟩
  case round =>
    obtain ⟨k, ys, a3, c3, hk, rfl, rfl, hys, hlay⟩ := hrel
    obtain ⟨put, hput⟩ : ∃ put, ((X.take k).any fun x => decide (keyV Y < keyV x)) = put := ⟨_, rfl⟩
    rw [hput]
    obtain ⟨k0, -⟩ := cell1r ((hlay.low.block _ (by omega)).trans HQ0.out)
    obtain ⟨k2, f2⟩ := cell1r hlay.box
    obtain ⟨j0, j1, j2, j3, j4, j5, j6, j7, j8, j9, j10⟩ := cells11 ((hlay.low.block _ (by omega)).trans HE2.out)
    have hlt3 := hlay.lt
    have HY := Lib.hid hys
    have HL := Lib.hid hlay
    have HP := Lib.hid hput
    clear hys hlay hput
    have hrr := HR2.out wr HL.out.low
    by_cases hlt : k < n
    · have htk := el_take_succ (xs := X) (k := k) (by rw [HN.out]; exact hlt)
      obtain ⟨-, b, o, ha, hc⟩ := hrr.at (by intro h; have := HN.out; rw [h] at this; simp at this; omega)
      subst ha
      obtain ⟨⟨c0, c1', c2, c3', c4, c5, c6, c7, c8, c9, c10⟩, hrv⟩ := hc k (by rw [HN.out]; exact hlt)
      have hcf : ∀ wq, Below (p + 1) W2 wq → At11 wq b (o + k * 11) (el X k) ∧ (el X k).rv wq := fun wq h => by
        obtain ⟨-, b', o', ha', hc'⟩ := (HR2.out wq h).at (by intro h; have := HN.out; rw [h] at this; simp at this; omega)
        cases ha'
        exact hc' k (by rw [HN.out]; exact hlt)
      obtain ⟨x, hx⟩ : ∃ x, el X k = x := ⟨_, rfl⟩
      rw [hx] at c0 c1' c2 c3' c4 c5 c6 c7 c8 c9 c10 hrv htk hcf
      obtain ⟨f, ud, us, um⟩ := x
      dsimp only at c0 c1' c2 c3' c4 c5 c6 c7 c8 c9 c10 hrv
      change Rv wr f ud us um at hrv
      obtain ⟨b6, d6, rfl⟩ := hrv.d.shape
      obtain ⟨b9, d9, rfl⟩ := hrv.s.shape
      obtain ⟨b10, d10, rfl⟩ := hrv.m.shape
      have HRF := Lib.hid (fun wq h => (hcf wq h).2)
      have HCF := Lib.hid (fun wq h => (hcf wq h).1)
      have HTK := Lib.hid htk
      have hyl : ys.length ≤ 2000 := by
        rw [HY.out]; unfold gput2
        split
        · rw [show (gput1 keyV Y (X.take k)).length = (X.take k).length + 1 from by rw [← List.length_map (f := EvV.e), gput1_map keyV EvV.e (fun _ => rfl), length_put1, List.length_map], List.length_take]; omega
        · rw [List.length_take]; omega
      have HYL := Lib.hid hyl
      have k2a := fun o => Lib.cell?_alloc_some (W := wr) o k2
      have hYk : keyV Y = key e := by rw [← HYY.out]
      clear hc hrr hx hrv htk hcf hyl
      cases put with
      | true =>
        go_wp2_with fail
        go_quiet (fail)
        go_upto_region 10 with fail
        have HL3 := Lib.hid (HL.out.below (below_draw (Below.refl _ wr) nq))
        obtain ⟨W3, hW3⟩ : ∃ W3, wr.drewN nq = W3 := ⟨_, rfl⟩
        rw [hW3] at HL3 ⊢
        clear k0 k2 f2 k2a c0 c1' c2 c3' c4 c5 c6 c7 c8 c9 c10 j0 j1 j2 j3 j4 j5 j6 j7 j8 j9 j10 hW3
        have hl3 := HL3.out
        obtain ⟨k0, -⟩ := cell1r ((hl3.low.block _ (Nat.lt_succ_self p)).trans HQ0.out)
        obtain ⟨k2, f2⟩ := cell1r hl3.box
        obtain ⟨c0, c1', c2, c3', c4, c5, c6, c7, c8, c9, c10⟩ := HCF.out W3 hl3.low
        dsimp only at c0 c1' c2 c3' c4 c5 c6 c7 c8 c9 c10
        have k2a := fun o => Lib.cell?_alloc_some (W := W3) o k2
        clear hl3
        go_upto_region 10 with fail
        go_region_law (refine step_append_ev rfl (.tmp 41) (.tmp 47) rfl (p + 1 + 1) (.slice a3 (ys).length c3) (ys) rfl ((own_drew HL3.out.own).alloc _) W3.heap.size ⟨f, .slice b6 _ d6, .slice b9 _ d9, .slice b10 _ d10⟩ rfl
                         (at11_box (heap_new W3.drew _)) ((HRF.out W3 HL3.out.low).below ((below_drew (Below.refl _ W3)).alloc (Nat.le_refl _) _)) (by have := HYL.out; simp; try omega) (by have := HL3.out.lt; simp; omega) ?_
                       intro a5 c5' wb5 hown5 hbb5
                       have hbb6 : Below (p + 1 + 1) W3 wb5 := ((below_drew (Below.refl _ W3)).alloc (by have := HL3.out.lt; exact this) _).trans hbb5
                       have HOB5 := Lib.hid hown5
                       have HBB5 := Lib.hid hbb6
                       have hrow5 := (hbb6.block (p + 1) (Nat.lt_succ_self _)).trans HL3.out.box
                       obtain ⟨q0, q1⟩ := cell1r hrow5
                       clear hown5 hbb5 hbb6 hrow5)
        all_goals (
          go_wp2
          go_roundw
          case rel => exact ⟨k + 1, (ys) ++ [⟨f, .slice b6 _ d6, .slice b9 _ d9, .slice b10 _ d10⟩], a5, c5', by omega, by go_num, by rw [HTK.out, any_snoc, HP.out, Bool.true_or], by rw [HTK.out, gput2_snoc, HP.out, ← HY.out, if_neg (by simp)], HL3.out.step HBB5.out HOB5.out⟩
          case measure => simp [intOf]; omega)
      | false =>
        by_cases hq : key e < key f
        · have hb : Op.bytesLess e.id.toList f.id.toList = true := by rw [bytesLess_eq, ByteArray.toList_eq, ByteArray.toList_eq]; exact decide_eq_true hq
          have HQ := Lib.hid hq
          clear hq
          go_wp2_with fail
          go_quiet (fail)
          go_upto_region 8 with fail
          have HL2 := Lib.hid (HL.out.below (below_draw (Below.refl _ wr) nq))
          obtain ⟨W4, hW4⟩ : ∃ W4, wr.drewN nq = W4 := ⟨_, rfl⟩
          rw [hW4] at HL2 ⊢
          clear k0 k2 f2 k2a c0 c1' c2 c3' c4 c5 c6 c7 c8 c9 c10 j0 j1 j2 j3 j4 j5 j6 j7 j8 j9 j10 hW4 hb
          have hl2 := HL2.out
          obtain ⟨k2, f2⟩ := cell1r hl2.box
          obtain ⟨j0, j1, j2, j3, j4, j5, j6, j7, j8, j9, j10⟩ := cells11 ((hl2.low.block _ (by omega)).trans HE2.out)
          clear hl2
          go_upto_region 9 with (at_builtin
                                 refine append_ev rfl (.tmp 35) (.tmp 37) rfl (p + 1 + 1) (.slice a3 ys.length c3) ys rfl (HL2.out.own.alloc _) W4.heap.size ⟨e, .slice a6 _ c6', .slice a9 _ c9', .slice a10 _ c10'⟩ rfl
                                   (at11_box (heap_new W4 _)) (HRYW.out _ (.inr ((HL2.out.low.mono (by omega)).trans (((Below.refl _ W4).alloc (Nat.le_refl _) _).mono (by have := HL2.out.lt; omega))))) (by have := HYL.out; omega) (by have := HL2.out.lt; simp; omega) ?_
                                 intro a4 c4' wb4 hown4 hbb4 _
                                 have hbb6 : Below (p + 1 + 1) W4 wb4 := ((Below.refl _ W4).alloc (by have := HL2.out.lt; exact this) _).trans hbb4
                                 have HOB4 := Lib.hid hown4
                                 have HBB4 := Lib.hid hbb6
                                 have hrow4 := (hbb6.block (p + 1) (Nat.lt_succ_self _)).trans HL2.out.box
                                 obtain ⟨q0, q1⟩ := cell1r hrow4
                                 clear hown4 hbb4 hbb6 hrow4)
          have hl3 := HL2.out.step HBB4.out HOB4.out
          obtain ⟨W3, hW3⟩ : ∃ W3, wb4.setCell ⟨p + 1, 0, none⟩ (.slice a4 (ys.length + 1) c4') = W3 := ⟨_, rfl⟩
          rw [hW3] at hl3 ⊢
          obtain ⟨ys3, hys3⟩ : ∃ ys3, ys ++ [(⟨e, .slice a6 e.ru.ds.length c6', .slice a9 e.sk.length c9', .slice a10 e.mv.length c10'⟩ : EvV)] = ys3 := ⟨_, rfl⟩
          rw [hys3] at hl3
          have hyl3 : ys3.length ≤ 2001 := by rw [← hys3, List.length_append]; have := HYL.out; simp; omega
          have HL3 := Lib.hid hl3
          have HYS3 := Lib.hid hys3
          have HYL := Lib.hid hyl3
          clear q0 q1 k2 f2 j0 j1 j2 j3 j4 j5 j6 j7 j8 j9 j10 hW3 hl3 hys3 hyl3
          have hl3 := HL3.out
          obtain ⟨k0, -⟩ := cell1r ((hl3.low.block _ (Nat.lt_succ_self p)).trans HQ0.out)
          obtain ⟨k2, f2⟩ := cell1r hl3.box
          obtain ⟨c0, c1', c2, c3', c4, c5, c6, c7, c8, c9, c10⟩ := HCF.out W3 hl3.low
          dsimp only at c0 c1' c2 c3' c4 c5 c6 c7 c8 c9 c10
          have k2a := fun o => Lib.cell?_alloc_some (W := W3) o k2
          clear hl3
          go_upto_region 10 with fail
          go_region_law (refine step_append_ev rfl (.tmp 41) (.tmp 47) rfl (p + 1 + 1) (.slice a4 (ys3).length c4') (ys3) rfl ((own_drew HL3.out.own).alloc _) W3.heap.size ⟨f, .slice b6 _ d6, .slice b9 _ d9, .slice b10 _ d10⟩ rfl
                           (at11_box (heap_new W3.drew _)) ((HRF.out W3 HL3.out.low).below ((below_drew (Below.refl _ W3)).alloc (Nat.le_refl _) _)) (by have := HYL.out; simp; try omega) (by have := HL3.out.lt; simp; omega) ?_
                         intro a5 c5' wb5 hown5 hbb5
                         have hbb6 : Below (p + 1 + 1) W3 wb5 := ((below_drew (Below.refl _ W3)).alloc (by have := HL3.out.lt; exact this) _).trans hbb5
                         have HOB5 := Lib.hid hown5
                         have HBB5 := Lib.hid hbb6
                         have hrow5 := (hbb6.block (p + 1) (Nat.lt_succ_self _)).trans HL3.out.box
                         obtain ⟨q0, q1⟩ := cell1r hrow5
                         clear hown5 hbb5 hbb6 hrow5)
          all_goals (
            go_wp2
            go_roundw
            case rel => exact ⟨k + 1, (ys3) ++ [⟨f, .slice b6 _ d6, .slice b9 _ d9, .slice b10 _ d10⟩], a5, c5', by omega, by go_num, by rw [HTK.out, any_snoc, HP.out, hYk, Bool.false_or]; exact (congrArg Value.bool (decide_eq_true HQ.out)).symm, by rw [HTK.out, gput2_snoc, HP.out, ← HY.out, hYk, if_pos (by rw [decide_eq_true HQ.out]; rfl), ← HYY.out, ← HYS3.out], HL3.out.step HBB5.out HOB5.out⟩
            case measure => simp [intOf]; omega)
        · have hb : Op.bytesLess e.id.toList f.id.toList = false := by rw [bytesLess_eq, ByteArray.toList_eq, ByteArray.toList_eq]; exact decide_eq_false hq
          have HQ := Lib.hid hq
          clear hq
          go_wp2_with fail
          go_quiet (fail)
          go_upto_region 10 with fail
          have HL3 := Lib.hid (HL.out.below (below_draw (Below.refl _ wr) nq))
          obtain ⟨W3, hW3⟩ : ∃ W3, wr.drewN nq = W3 := ⟨_, rfl⟩
          rw [hW3] at HL3 ⊢
          clear k0 k2 f2 k2a c0 c1' c2 c3' c4 c5 c6 c7 c8 c9 c10 j0 j1 j2 j3 j4 j5 j6 j7 j8 j9 j10 hW3 hb
          have hl3 := HL3.out
          obtain ⟨k0, -⟩ := cell1r ((hl3.low.block _ (Nat.lt_succ_self p)).trans HQ0.out)
          obtain ⟨k2, f2⟩ := cell1r hl3.box
          obtain ⟨c0, c1', c2, c3', c4, c5, c6, c7, c8, c9, c10⟩ := HCF.out W3 hl3.low
          dsimp only at c0 c1' c2 c3' c4 c5 c6 c7 c8 c9 c10
          have k2a := fun o => Lib.cell?_alloc_some (W := W3) o k2
          clear hl3
          go_upto_region 10 with fail
          go_region_law (refine step_append_ev rfl (.tmp 41) (.tmp 47) rfl (p + 1 + 1) (.slice a3 (ys).length c3) (ys) rfl ((own_drew HL3.out.own).alloc _) W3.heap.size ⟨f, .slice b6 _ d6, .slice b9 _ d9, .slice b10 _ d10⟩ rfl
                           (at11_box (heap_new W3.drew _)) ((HRF.out W3 HL3.out.low).below ((below_drew (Below.refl _ W3)).alloc (Nat.le_refl _) _)) (by have := HYL.out; simp; try omega) (by have := HL3.out.lt; simp; omega) ?_
                         intro a5 c5' wb5 hown5 hbb5
                         have hbb6 : Below (p + 1 + 1) W3 wb5 := ((below_drew (Below.refl _ W3)).alloc (by have := HL3.out.lt; exact this) _).trans hbb5
                         have HOB5 := Lib.hid hown5
                         have HBB5 := Lib.hid hbb6
                         have hrow5 := (hbb6.block (p + 1) (Nat.lt_succ_self _)).trans HL3.out.box
                         obtain ⟨q0, q1⟩ := cell1r hrow5
                         clear hown5 hbb5 hbb6 hrow5)
          all_goals (
            go_wp2
            go_roundw
            case rel => exact ⟨k + 1, (ys) ++ [⟨f, .slice b6 _ d6, .slice b9 _ d9, .slice b10 _ d10⟩], a5, c5', by omega, by go_num, by rw [HTK.out, any_snoc, HP.out, hYk, Bool.false_or]; exact (congrArg Value.bool (decide_eq_false HQ.out)).symm, by rw [HTK.out, gput2_snoc, HP.out, ← HY.out, hYk, if_neg (by rw [decide_eq_false HQ.out]; simp)], HL3.out.step HBB5.out HOB5.out⟩
            case measure => simp [intOf]; omega)
    · obtain rfl : k = n := by omega
      have htk : X.take X.length = X := List.take_length
      rw [HN.out] at htk
      obtain ⟨z0, z1⟩ := cell1r ((HL.out.low.block _ (by omega)).trans HZ2.out)
      have HTK := Lib.hid htk
      clear htk
      have hfinal : ∀ (ys' : List EvV) (a5 : Option Addr) (c5 : Nat) (W5 : World), ys' = gput1 keyV Y X → Lay W2 W5 (p + 1) ys' a5 c5 → EReads (W5.setCell ⟨w.heap.size + 2, 0, none⟩ (.slice a5 ys'.length c5)) (.slice a5 ys'.length c5) (gput1 keyV Y X) ∧ Below w.heap.size w (W5.setCell ⟨w.heap.size + 2, 0, none⟩ (.slice a5 ys'.length c5)) := by
        intro ys' a5 c5 W5 hys hl5
        have hb5 : Below w.heap.size w (W5.setCell ⟨w.heap.size + 2, 0, none⟩ (.slice a5 ys'.length c5)) := (HB2.out.trans (hl5.low.mono (by omega))).setCell (p := ⟨w.heap.size + 2, 0, none⟩) (by show w.heap.size ≤ w.heap.size + 2; omega) _
        refine ⟨?_, hb5⟩
        rw [← hys]
        refine ereads_own (own_set11 hl5.own (by omega)) rfl fun x hx => ?_
        rw [hys] at hx
        rcases mem_gput1 hx with rfl | hx
        · rw [← HYY.out]; exact HRY.out.below hb5
        · rw [← HXX.out] at hx
          exact (HR.out x (List.mem_filter.1 hx).1).below hb5
      have HFIN := Lib.hid hfinal
      clear hfinal
      have HYX := Lib.hid (show ys = gput2 keyV Y X by rw [HY.out, HTK.out])
      rw [HTK.out] at HP
      have HYLE := Lib.hid (show ys.length ≤ 2000 by
        rw [HYX.out]; unfold gput2
        split
        · rw [show (gput1 keyV Y X).length = X.length + 1 from by rw [← List.length_map (f := EvV.e), gput1_map keyV EvV.e (fun _ => rfl), length_put1, List.length_map]]; have := HN.out; omega
        · have := HN.out; omega)
      cases put with
      | true =>
        have HG := Lib.hid (show ys = gput1 keyV Y X by rw [HYX.out, gput2_end, if_pos HP.out])
        have hrow := row_set ((HL.out.low.block _ (by omega)).trans HZ2.out : wr.heap[w.heap.size + 2]? = _) 0 (.slice a3 ys.length c3)
        have HROW := Lib.hid hrow
        clear hrow j0 j1 j2 j3 j4 j5 j6 j7 j8 j9 j10
        go_wp2
        refine bodyPost_ret (results_cell_row rfl _ _ (w.heap.size + 2) _ _ _ _ rfl HROW.out Tryz.underlying27 rfl (by kernel_rfl)) rfl ?_
        have hfin := HFIN.out ys a3 c3 wr HG.out HL.out
        rw [← HXX.out, ← HYY.out] at hfin
        exact ⟨_, rfl, hfin⟩
      | false =>
        have hlt3 := HL.out.lt
        go_wp2_with (at_builtin
                     refine append_ev rfl (.tmp 53) (.tmp 55) rfl (p + 1 + 1) (.slice a3 ys.length c3) ys rfl (HL.out.own.alloc _) wr.heap.size ⟨e, .slice a6 _ c6', .slice a9 _ c9', .slice a10 _ c10'⟩ rfl
                       (at11_box (heap_new wr _)) (HRYW.out _ (.inr ((HL.out.low.mono (by omega)).trans (((Below.refl _ wr).alloc (Nat.le_refl _) _).mono (by omega))))) (by have := HYLE.out; omega) (by simp; omega) ?_
                     intro a4 c4' wb4 hown4 hbb4 _
                     have hbb6 : Below (p + 1 + 1) wr wb4 := ((Below.refl _ wr).alloc hlt3 _).trans hbb4
                     have HOB4 := Lib.hid hown4
                     have HBB4 := Lib.hid hbb6
                     have hrow4 := (hbb6.block (p + 1) (Nat.lt_succ_self _)).trans HL.out.box
                     have hz4 := (hbb6.block (w.heap.size + 2) (by omega)).trans ((HL.out.low.block _ (by omega)).trans HZ2.out)
                     obtain ⟨q0, q1⟩ := cell1r hrow4
                     obtain ⟨y0, y1⟩ := cell1r hz4
                     clear hown4 hbb4 hbb6 hrow4 hz4)
        have hl5 := HL.out.step HBB4.out HOB4.out
        have hle : (ys ++ [(⟨e, .slice a6 e.ru.ds.length c6', .slice a9 e.sk.length c9', .slice a10 e.mv.length c10'⟩ : EvV)]).length = ys.length + 1 := by simp
        have hG : ys ++ [(⟨e, .slice a6 e.ru.ds.length c6', .slice a9 e.sk.length c9', .slice a10 e.mv.length c10'⟩ : EvV)] = gput1 keyV Y X := by rw [gput2_end, if_neg (by rw [HP.out]; simp), ← HYX.out, ← HYY.out]
        have hfin := HFIN.out _ a4 c4' _ hG hl5
        rw [← HXX.out, ← HYY.out, hle] at hfin
        have hz4 : wb4.heap[w.heap.size + 2]? = some (.cells #[.slice none 0 0] 27) := (HBB4.out.block (w.heap.size + 2) (by omega)).trans ((HL.out.low.block _ (by omega)).trans HZ2.out)
        have hrow : (wb4.setCell ⟨p + 1, 0, none⟩ (.slice a4 (ys.length + 1) c4')).heap[w.heap.size + 2]? = some (.cells #[.slice none 0 0] 27) := by
          rw [row_far (by show w.heap.size + 2 ≠ p + 1; omega)]; exact hz4
        refine bodyPost_ret (results_cell_row rfl _ _ (w.heap.size + 2) _ _ _ _ rfl (row_set hrow 0 (.slice a4 (ys.length + 1) c4')) Tryz.underlying27 rfl (by kernel_rfl)) rfl ?_
        exact ⟨_, rfl, hfin⟩
end Bk
end Go.Proofs.YtghkalamlcfnnaaGreatDoor
