/- package diff: Back, of any changes. -/
import Derived.Test.YtenmeaoagepfnaaGreatDoorC5
import Derived.Test.YtenmeaoagepfnaaGreatDoorRgA
import Derived.Test.YtenmeaoagepfnaaGreatDoorEvReadM
namespace Go.Proofs.YtenmeaoagepfnaaGreatDoor
open Go Go.RowKit Go.Shelf Lmd
attribute [local go_sem] Oper.semAt_some
namespace Df
open Evt Bk Tp Rul Day Cand Er

theorem At4.same {W W' : World} {b o : Nat} {c : Chg} (h : At4 W b o c) (he : W'.heap[b]? = W.heap[b]?) : At4 W' b o c := by
  obtain ⟨h0, h1, h2, h3⟩ := h
  simp only [World.cell?] at h0 h1 h2 h3
  exact ⟨by simpa only [World.cell?, he] using h0, by simpa only [World.cell?, he] using h1, by simpa only [World.cell?, he] using h2, by simpa only [World.cell?, he] using h3⟩
theorem At4.lt {W : World} {b o : Nat} {c : Chg} (h : At4 W b o c) : b < W.heap.size := cell_lt h.k0
/-- changes that nobody writes stay -/
theorem CReads.stay {O : Nat → Prop} {hi : Nat} {W W' : World} {v : Value} {l : List Chg} (h : CReads W v l) (hs : Rng.Stay O hi W W') (hO : l ≠ [] → ∀ r, v.ownBlock = some r → ¬ O r) (hl : l ≠ [] → ∀ r, v.ownBlock = some r → r < hi) : CReads W' v l := by
  rcases h with h | ⟨b, off, c, rfl, hc⟩
  · exact .inl h
  by_cases hne : l = []
  · subst hne; exact .inl ⟨rfl, _, _, rfl, fun e => by cases e⟩
  · refine .inr ⟨b, off, c, rfl, fun j hj => (hc j hj).same ?_⟩
    have hlt := (hc j hj).lt
    rw [hs.same b W.heap[b] (Array.getElem?_eq_getElem hlt) (.inr ⟨hO hne b rfl, hl hne b rfl⟩), Array.getElem?_eq_getElem hlt]

/-- the iterator of slices.Backward at changes -/
theorem back_seq (b : Nat) (v : Value) (l : List Chg) (w : World) (h0 : Boxed w b 60 v) (hr : CReads w v l) (hv : l ≠ [] → ∀ r, v.ownBlock = some r → r < w.heap.size) (hn : l.length ≤ 3000000) :
    Rge.Seq Tryz.prog 118 #[.pointer (some ⟨b, 0, none⟩)] (fun x : Nat × Chg => #[.int .i64 (x.1 : Int), .agg x.2.cells]) (fun _ => False) (fun O => ¬ O b ∧ (l ≠ [] → ∀ r, v.ownBlock = some r → ¬ O r)) (fun xs => xs.map (·.2) = l.reverse) (fun _ => True) 3000001 w := by
  intro O lp J Jx W hW hO _ _ hJ hJx hY h00
  refine (callsIn_wide (n := Rng.dp + 1)).1 ?_
  refine callsIn_of_wp Tryz.func118 rfl trivial ?_ rfl
  simp only [Tryz.ntmps118, List.size_toArray, List.length_cons, List.length_nil, Nat.reduceAdd, Nat.reduceSub, Array.replicate_succ, Array.replicate_zero, List.push_toArray, List.append_toArray, List.nil_append, List.cons_append]
  have g0 := h0.kept (Rng.grownBy_of_below hW) (by simp)
  have hlt : b < W.heap.size := by have := h0.lt; have := hW.size; omega
  have hv' : l ≠ [] → ∀ r, v.ownBlock = some r → r < W.heap.size := fun h0 r h => by have := hv h0 r h; have := hW.size; omega
  obtain ⟨a, c, rfl⟩ := hr.shape
  have x1 := g0.cell
  obtain ⟨n, hn2⟩ : ∃ n, l.length = n := ⟨_, rfl⟩
  have HN := Lib.hid hn2
  have HB0 := Lib.hid g0
  have HR0 := Lib.hid (hr.below hW)
  have HJ0 := Lib.hid (h00 W (Below.refl _ _))
  have HY := Lib.hid hY
  have HO := Lib.hid hO
  have HV := Lib.hid hv'
  rw [hn2] at hn x1
  rw [hn2] at HB0 HR0 HO HV
  clear h00 hY hO h0 hr hv hv' g0 hn2
  gi_wp2
  gi_loopw [3] (fun i wr => ∃ (k : Nat) (pre : List (Nat × Chg)), k ≤ n ∧ i = .int .i64 ((k : Int) - 1) ∧ pre.map (·.2) = (l.drop k).reverse ∧ Rng.Stay O W.heap.size W wr ∧ J W.heap.size pre wr) (fun i _ => (intOf i + 1).toNat)
  case atStart => exact ⟨n, [], Nat.le_refl _, rfl, by rw [List.drop_eq_nil_of_le (by rw [HN.out]; exact Nat.le_refl _)]; rfl, Rng.Stay.refl _ _ _, HJ0.out⟩
  case round =>
    obtain ⟨k, pre, hk, rfl, hp, hst, hj⟩ := hrel
    have y1 := (boxed_stay HB0.out hst HO.out.1 hlt).cell
    have hrd := HR0.out.stay hst HO.out.2 HV.out
    have HP := Lib.hid hp
    have HS := Lib.hid hst
    have HJ1 := Lib.hid hj
    clear hst hj hp
    cases k with
    | succ k =>
      have hix : ((k + 1 : Nat) : Int) - 1 = (k : Int) := by omega
      rw [hix]
      have hlc : k < l.length := by rw [HN.out]; omega
      obtain ⟨-, b0, off, ea, hcc⟩ := hrd.at (by intro h; rw [h] at hlc; exact absurd hlc (Nat.not_lt_zero _))
      subst ea
      obtain ⟨c0, c1, c2, c3⟩ := hcc k hlc
      have hpre : ((pre ++ [(k, elc l k)]).map (·.2)) = (l.drop k).reverse := by
        rw [List.map_append, HP.out, elc_drop hlc, List.reverse_cons]; rfl
      have hlen : pre.length < 3000001 := by
        have h := congrArg List.length HP.out
        rw [List.length_map, List.length_reverse, List.length_drop] at h
        have := HN.out
        omega
      obtain ⟨x, hx⟩ : ∃ m, elc l k = m := ⟨_, rfl⟩
      rw [hx] at c0 c1 c2 c3 hpre
      have HPRE := Lib.hid hpre
      obtain ⟨f1, t1, a1, b1, hy1, hR1⟩ := HY.out W.heap.size pre (k, x) _ (Nat.le_refl _) HJ1.out hlen
      obtain ⟨id, fi, old, nw⟩ := x
      dsimp only at c0 c1 c2 c3
      clear hcc hx hpre hlen hrd hlc
      gi_wp2
      refine hR1.mono ?_
      rintro e W1 (⟨rfl, hJ1, hk1⟩ | ⟨rfl, hx1, hr1⟩)
      · have HJ2 := Lib.hid hJ1
        have HK1 := Lib.hid hk1
        clear hJ1 hk1
        gi_wp2
        go_roundw
        case rel => exact ⟨k, _, by omega, rfl, HPRE.out, HS.out.trans HK1.out, HJ2.out⟩
        case measure => simp [intOf]
      · gi_wp2
        refine bodyPost_ret (results_none rfl _ _ _) rfl ?_
        exact ⟨⟨_, rfl⟩, W.heap.size, Nat.le_refl _, .inr ⟨_, trivial, hx1⟩⟩
    | zero =>
      clear hrd
      gi_wp2
      go_end0
      exact ⟨⟨_, rfl⟩, W.heap.size, Nat.le_refl _, .inl ⟨pre, by rw [HP.out, List.drop_zero], HJ1.out⟩⟩

/-- changes of one's own behind a box -/
def HoldsC (b : Nat) (hi : Nat) (l : List Chg) (W : World) : Prop :=
  ∃ v, Boxed W b 60 v ∧ W.ownsRow hi 82 4 v l.length (cellsC l)
theorem holdsC_kept {b hi : Nat} {l : List Chg} {W W' : World} {row : Option Nat} (h : HoldsC b hi l W) (hg : W.grownBy W' row) (hb : ∀ r, row = some r → r ≠ b) (hr : ∀ r, row = some r → r < hi) : HoldsC b hi l W' := by
  obtain ⟨v, h1, h2⟩ := h
  refine ⟨v, h1.kept hg (fun e => hb b e.symm rfl), h2.kept hg ?_⟩
  cases hv : v.ownBlock with
  | none =>
    rcases h2.2 with ⟨rfl, _⟩ | ⟨g, cap, cur, rfl, _⟩
    · exact .inl rfl
    · simp [Value.ownBlock] at hv
  | some g =>
    exact .inr fun e => by have := ownBlock_ge h2 hv; have := hr g e.symm; omega
theorem holdsC_reads {b hi : Nat} {l : List Chg} {W : World} (h : HoldsC b hi l W) : ∃ a c, Boxed W b 60 (.slice a l.length c) ∧ W.ownsRow hi 82 4 (.slice a l.length c) l.length (cellsC l) := by
  obtain ⟨v, h1, h2⟩ := h
  obtain ⟨a, c, rfl⟩ := own_at h2
  exact ⟨a, c, h1, h2⟩
theorem rge_holdsC {α : Type} {E : Nat → Prop} {B b : Nat} (f : α → List Chg) (hb : b < B) (hE : ¬ E b) (hEB : ∀ r, E r → r < B) : Rge.Stable E B (fun hi s W' => HoldsC b hi (f s) W') := by
  intro hi s A C row hB hs hg hr
  refine holdsC_kept hs hg (fun r e => ?_) (fun r e => ?_)
  · rcases hr r e with h | h
    · omega
    · exact fun x => hE (x ▸ h)
  · rcases hr r e with h | h
    · omega
    · have := hEB r h; omega
theorem ownC_far {w : World} {base n : Nat} {e : TypeId} {s : Nat} {v u : Value} {xs : List Value} {p : Addr} (h : w.ownsRow base e s v n xs) (hp : p.block < base) : (w.setCell p u).ownsRow base e s v n xs := ownM_far h hp
theorem holdsC_append {b hi : Nat} {l : List Chg} {x : Chg} {W w1 : World} {v v' : Value} {O : Nat → Prop} (hv : Boxed W b 60 v) (hrow : W.ownsRow hi 82 4 v l.length (cellsC l))
    (hO : O b) (hown : w1.ownsRow hi 82 4 v' (l.length + 1) (cellsC l ++ x.cs)) (hg : (W.alloc (.cells x.cells 82)).grownBy w1 v.ownBlock) :
    Boxed w1 b 60 v ∧ HoldsC b hi (l ++ [x]) (w1.setCell ⟨b, 0, none⟩ v') ∧ Rng.Stay O hi W (w1.setCell ⟨b, 0, none⟩ v') := by
  have hte : 60 ≠ 82 := by decide
  have hv1 : Boxed w1 b 60 v := (hv.alloc _).kept hg (hv.not_row hte hrow)
  refine ⟨hv1, ⟨v', hv1.set v', ?_⟩, ?_⟩
  · rw [cellsC_app, cellsC_one, List.length_append]
    exact hown.kept (grownBy_setCell' w1 b v') (.inr (hv1.not_row hte hown).symm)
  · have h1 : Rng.Stay O hi W (W.alloc (.cells x.cells 82)) := Rng.Stay.of_below ((Below.refl _ W).alloc (Nat.le_refl _) _)
    have h2 : Rng.Stay O hi (W.alloc (.cells x.cells 82)) w1 := by
      refine ⟨hg.os, hg.tape, hg.output, hg.size, fun k o hk ho => ?_⟩
      have hlt := (Array.getElem?_eq_some_iff.1 hk).1
      rw [hg.block k hlt ?_]
      · exact hk
      · intro e
        have hge := ownBlock_ge hrow e.symm
        rcases ho with ho | ⟨_, ho⟩
        · rcases (hrow.alloc (.cells x.cells 82)).2 with ⟨rfl, _⟩ | ⟨g, cap, cur, rfl, _, hgb, _⟩
          · simp [Value.ownBlock] at e
          · obtain rfl : g = k := by simpa [Value.ownBlock] using e.symm
            rw [hgb] at hk; cases hk; cases ho
        · omega
    refine (h1.trans h2).setCell (.inl hO) (fun o ho => ?_) _
    rw [show W.heap[b]? = _ from hv] at ho; cases ho; rfl

def BackP (w : World) (l : List Chg) (r : Ending) (w' : World) : Prop :=
  ∃ v, r = .returned v ∧ CReads w' v (backL l) ∧ Below w.heap.size w w'
theorem backL_snoc (l : List Chg) (c : Chg) : backL (c :: l) = backL l ++ [c.back] := by simp [backL]
theorem creads_low {w : World} {v : Value} {l : List Chg} (h : CReads w v l) (hne : l ≠ []) : ∀ r, v.ownBlock = some r → r < w.heap.size := by
  intro r hr
  obtain ⟨a, c, rfl⟩ := h.shape
  obtain ⟨-, b, off, rfl, hc⟩ := h.at hne
  have hl : 0 < l.length := List.length_pos_iff.2 hne
  have := (hc 0 hl).lt
  simp [Value.ownBlock] at hr
  omega
theorem backward_any (a : Option Addr) (n c : Nat) (w : World) :
    Calls Tryz.prog 70 #[.slice a n c] w fun e w' => e = .returned (.func (.func 118) #[] #[.pointer (some ⟨w.heap.size, 0, none⟩)]) ∧ w' = w.alloc (.cells #[.slice a n c] 60) := by
  go_enter Tryz.func70, Tryz.ntmps70
  go_wp2
  go_ret
  exact ⟨rfl, rfl⟩
set_option maxRecDepth 100000 in
set_option maxHeartbeats 8000000 in
theorem back_any (w : World) (v : Value) (l : List Chg) (hr : CReads w v l) (hn : l.length ≤ 3000000) :
    Calls Tryz.prog 35 #[v] w (BackP w l) := by
  obtain ⟨i0, hi0, hz0, hz1, hz2⟩ := info_parts chg_info
  have HLOW := Lib.hid (creads_low hr)
  have HR := Lib.hid hr
  obtain ⟨av, cv, rfl⟩ := hr.shape
  obtain ⟨n, hn2⟩ : ∃ n, l.length = n := ⟨_, rfl⟩
  have HN := Lib.hid hn2
  rw [hn2] at HLOW HR ⊢
  rw [hn2] at hn
  clear hr hn2
  refine (callsIn_wide (n := Rng.dp + 1)).1 ?_
  refine callsIn_of_wp_marks Tryz.func35 rfl trivial ?_ rfl
  simp only [Tryz.ntmps35, List.size_toArray, List.length_cons, List.length_nil, Nat.reduceAdd, Nat.reduceSub, Array.replicate_succ, Array.replicate_zero, List.push_toArray, List.append_toArray, List.nil_append, List.cons_append]
  gi_wp2_with (refine ⟨trivial, ?_⟩; gi_at_call 70; refine (callsIn_wide.2 (backward_any _ _ _ _)).mono ?_; rintro e' w2 ⟨rfl, rfl⟩)
  obtain ⟨W3, hW3⟩ : ∃ W3, w.alloc (.cells #[.slice none 0 0] 60) = W3 := ⟨_, rfl⟩
  have hz3 : W3.heap.size = w.heap.size + 1 := by rw [← hW3]; simp
  have hB3 : Below w.heap.size w W3 := by rw [← hW3]; exact (Below.refl _ w).alloc (Nat.le_refl _) _
  have a2 : Boxed W3 w.heap.size 60 (.slice none 0 0) := by
    have h := Boxed.new w 60 (.slice none 0 0)
    rw [hW3] at h; exact h
  rw [hW3]
  have e0 := Boxed.new W3 60 (.slice av n cv)
  obtain ⟨W0, hW0⟩ : ∃ W0, W3.alloc (.cells #[.slice av n cv] 60) = W0 := ⟨_, rfl⟩
  have hB0 : Below W3.heap.size W3 W0 := by rw [← hW0]; exact (Below.refl _ W3).alloc (Nat.le_refl _) _
  have hz : W0.heap.size = w.heap.size + 1 + 1 := by rw [← hW0]; simp [hz3]
  rw [hW0] at e0 ⊢
  rw [hz3] at e0
  have hBw : Below w.heap.size w W0 := hB3.trans (hB0.mono (by omega))
  have b2 := a2.kept (Rng.grownBy_of_below hB0) (by simp)
  have hseq := back_seq (w.heap.size + 1) (.slice av n cv) l W0 e0 (HR.out.below hBw) (fun h0 r h => by have := HLOW.out h0 r h; omega) (by rw [HN.out]; exact hn)
  have cl : ∀ {b : Nat} {t : TypeId} {u : Value} {A : World}, Boxed A b t u → ∀ o, A.heap[b]? = some o → o.isCells = true := fun hb o ho => by
    rw [show _ = _ from hb] at ho; cases ho; rfl
  have HSEQ := Lib.hid hseq
  have HBW := Lib.hid hBw
  have HO2 := Lib.hid (show (fun O : Nat → Prop => ¬ O (w.heap.size + 1) ∧ (l ≠ [] → ∀ r, (Value.slice av n cv).ownBlock = some r → ¬ O r)) (fun b => b = w.heap.size) from ⟨by omega, fun h0 r h => by have := HLOW.out h0 r h; omega⟩)
  clear hW0 hW3 a2 hseq
  refine Rga.range_law (n := Rng.dp + 1) (by decide) (gf := 118) (lb := #[.pointer (some ⟨w.heap.size + 1, 0, none⟩)]) rfl (enters_of Tryz.func118 (by kernel_rfl) rfl)
    HSEQ.out (Below.refl _ _) (fun _ => rfl) (fun b hb => hb.elim) (fun b => b = w.heap.size) (fun b hb => by omega) HO2.out
    (fun hi pre W' => (HoldsC w.heap.size hi (pre.map fun x => x.2.back) W' ∧ hi ≤ W'.heap.size) ∧ Rng.Stay (fun b => b = w.heap.size) W0.heap.size W0 W')
    (fun _ _ _ _ => False)
    ?hI ?hIx ?h0 (fun (x : Nat × Chg) V => { tmps := #[.slice av n cv, undef, .slice none 0 0, .pointer (some ⟨w.heap.size, 0, none⟩), undef, .pointer (some ⟨V.heap.size, 0, none⟩), .slice av n cv, .func (.func 118) #[] #[.pointer (some ⟨w.heap.size + 1, 0, none⟩)], .int .i64 (x.1 : Int), .agg x.2.cells, undef, undef, undef, undef, undef, undef, undef, undef, undef, undef, undef, undef, undef], defers := [] })
    (fun x V => V.alloc (.cells x.2.cells 82)) (fun x V => (Below.refl _ V).alloc (Nat.le_refl _) _) ?assign ?body ?done ?stop
  case hI => exact rge_and (rge_and (rge_holdsC (fun p : List (Nat × Chg) => p.map fun x => x.2.back) (by omega) (by simp) (fun r hr => hr.elim)) rge_size) (rge_stay _ _ _ (Nat.le_refl _) (fun r hr => hr.elim))
  case hIx => exact fun c => fun hi s A B row hB hs hg hr => hs
  case h0 =>
    intro W' hW'
    exact ⟨⟨⟨.slice none 0 0, b2.kept (Rng.grownBy_of_below hW') (by simp), by simp [cellsC], .inl ⟨rfl, rfl⟩⟩, Nat.le_refl _⟩, Rng.Stay.of_below hW'⟩
  case assign =>
    rintro l2 x V W K rfl hK
    gi_wp2
    exact hK
  case body =>
    rintro hi l2 pre ⟨ix, ⟨id, fi, old, nw⟩⟩ V W' hhi - ⟨⟨hh, hsz⟩, hst⟩ hnew hsz2 hlen
    obtain ⟨a, c, hbx, hown⟩ := holdsC_reads hh
    have hx := hnew V.heap.size _ (Nat.le_refl _) (heap_new V _)
    obtain ⟨k0, k1, k2, k3⟩ := cells4 hx
    have y0 := hbx.cell
    have y1 := hbx.frozen
    have hlen' : (pre.map fun x => x.2.back).length ≤ 3000000 := by rw [List.length_map]; omega
    obtain ⟨L, hL⟩ : ∃ L, (pre.map fun x => x.2.back) = L := ⟨_, rfl⟩
    rw [hL] at hown hbx hlen' y0
    have HL := Lib.hid hL
    have HZ := Lib.hid hz
    have HST := Lib.hid hst
    have HB := Lib.hid hbx
    have HOWN := Lib.hid hown
    have HSZ := Lib.hid hsz
    have HHI := Lib.hid hhi
    clear hz hst hh hbx hown hsz hhi hlen cl hx hnew hsz2 hL
    dsimp only
    gi_wp2_with (gi_at_builtin
                 refine wpListIn_append_own _ rfl (.tmp 10) (.tmp 20) _ rfl hi 82 i0 _ 4 64 Tryz.underlying60 hi0 hz0 hz1 hz2 rfl (by omega) (.slice a L.length c) L.length (cellsC L) rfl
                   (HOWN.out.alloc _) ⟨W'.heap.size, 0, none⟩ 1 1 [.string id, .string fi, .string nw, .string old] rfl rfl
                   (fun j u hu => by
                     match j, hu with
                     | 0, hu => cases hu; exact cell_of (heap_new W' _) rfl
                     | 1, hu => cases hu; exact cell_of (heap_new W' _) rfl
                     | 2, hu => cases hu; exact cell_of (heap_new W' _) rfl
                     | 3, hu => cases hu; exact cell_of (heap_new W' _) rfl
                     | j + 4, hu => cases hu) (fun u hu => by simp at hu; rcases hu with rfl | rfl | rfl | rfl <;> rfl) (by simp only [maxLen]; omega) (by omega) (by have := HSZ.out; simp; omega) ?_
                 intro v1 wz hown' hg hnil
                 have hap := holdsC_append (x := ⟨id, fi, nw, old⟩) (O := (fun b => b = w.heap.size)) HB.out HOWN.out rfl hown' hg
                 obtain ⟨a1, c1, e1⟩ := own_at hown'
                 subst e1
                 have z1 := hap.1.cell
                 have z2 := hap.1.frozen
                 have HAP := Lib.hid hap
                 clear hown' hg hnil hap)
    have hs2 := HAP.out.2.2
    have hzz := HZ.out
    have hh2 := HHI.out
    refine ⟨hs2, ⟨?_, Nat.le_trans HSZ.out hs2.size⟩, HST.out.trans (hs2.mono (fun b _ h => h) (by omega))⟩
    rw [List.map_append, HL.out]; exact HAP.out.2.1
  case done =>
    rintro D hi xs W' hD hDh hxs ⟨⟨hh, hsz⟩, hst⟩ hK
    have hm : (xs.map fun x => x.2.back) = backL l := by
      unfold backL
      rw [← hxs, List.map_map]; rfl
    rw [hm] at hh
    obtain ⟨a, c, hbx, hown⟩ := holdsC_reads hh
    have y4 := hbx.cell
    have HST := Lib.hid hst
    have HK := Lib.hid hK
    have HOWN := Lib.hid hown
    have HHZ := Lib.hid hz
    clear hst hK hown hh hz cl hm hxs
    obtain ⟨M, hM⟩ : ∃ M, backL l = M := ⟨_, rfl⟩
    rw [hM] at y4 HOWN
    have HM := Lib.hid hM
    clear hM hbx
    gi_wp2
    have hz := HHZ.out
    refine ⟨by simp, .inl ⟨_, _, rfl, run_takeDeferred HK.out, ?_⟩⟩
    have hb := (stay_below HST.out (B := w.heap.size) (fun b h => by omega) (by omega) (by omega))
    refine ⟨.slice a M.length c, ?_, _, rfl, ?_, ?_⟩
    · simp [results, Tryz.f35, go_sem]
    · rw [HM.out]; exact creads_own (ownsRow_putObj HOWN.out _ HK.out rfl) rfl
    · exact (hBw.trans hb).trans (belowK_b (w := w) (Nat.le_refl _) _ D _ _ (by omega) HK.out rfl rfl)
  case stop =>
    rintro D hi c pre W' hD hDh hpre hs hK
    exact hs.elim
end Df
end Go.Proofs.YtenmeaoagepfnaaGreatDoor
