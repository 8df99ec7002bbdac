/- rule.days: the weekdays of a text. -/
import Derived.Test.YtmlndamkcipebaaDoorSplitSeq
import Derived.Test.YtmlndamkcipebaaDoorRuleNum
import Derived.Stop.RegionWithIn
import Derived.Test.YtmlndamkcipebaaDoorGen
namespace Go.Proofs.YtmlndamkcipebaaDoor
open Go Go.RowKit Go.Shelf Lmd
attribute [local go_sem] Oper.semAt_some
namespace Rul
open Cand

section
variable {α : Type} {E : Nat → Prop} {B : Nat}
theorem rge_and {J K : Nat → α → World → Prop} (h1 : Rge.Stable E B J) (h2 : Rge.Stable E B K) : Rge.Stable E B (fun hi s W => J hi s W ∧ K hi s W) :=
  fun hi s A C row hB hs hg hr => ⟨h1 hi s A C row hB hs.1 hg hr, h2 hi s A C row hB hs.2 hg hr⟩
theorem rge_const (p : α → Prop) : Rge.Stable E B (fun (_ : Nat) s (_ : World) => p s) := fun _ _ _ _ _ _ hs _ _ => hs
theorem rge_size : Rge.Stable E B (fun hi (_ : α) W' => hi ≤ W'.heap.size) := fun _ _ _ _ _ _ hs hg _ => Nat.le_trans hs hg.size
theorem rge_boxed {b : Nat} {t : TypeId} {f : α → Value} (hb : b < B) (hE : ¬ E b) : Rge.Stable E B (fun (_ : Nat) s W' => Boxed W' b t (f s)) := by
  intro hi s A C row hB hs hg hr
  exact hs.kept hg (fun e => by
    rcases hr b e.symm with h | h
    · omega
    · exact hE h)
theorem rge_holds {b : Nat} (f : α → List Int) (hb : b < B) (hE : ¬ E b) (hEB : ∀ r, E r → r < B) : Rge.Stable E B (fun hi s W' => Holds b hi (f s) W') := by
  intro hi s A C row hB hs hg hr
  refine holds_kept hs hg (fun r e => ?_) (fun r e => ?_)
  · rcases hr r e with h | h
    · omega
    · exact fun x => hE (x ▸ h)
  · rcases hr r e with h | h
    · omega
    · have := hEB r h; omega
theorem rge_stay (O : Nat → Prop) (hi : Nat) (W0 : World) (h0 : W0.heap.size ≤ B) (hE : ∀ r, E r → O r ∧ ∀ o, W0.heap[r]? = some o → o.isCells = true) : Rge.Stable E B (fun (_ : Nat) (_ : α) W' => Rng.Stay O hi W0 W') := by
  intro hi' s A C row hB hs hg hr
  refine ⟨hg.os.trans hs.os, hg.tape.trans hs.tape, hg.output.trans hs.output, Nat.le_trans hs.size hg.size, fun b o hb ho => ?_⟩
  have hlt := (Array.getElem?_eq_some_iff.1 hb).1
  rw [hg.block b (Nat.lt_of_lt_of_le hlt hs.size) (fun e => ?_)]
  · exact hs.same b o hb ho
  · rcases hr b e.symm with h | h
    · omega
    · have h1 := hE b h
      have h2 := h1.2 o hb
      rcases ho with ho | ho
      · rw [h2] at ho; cases ho
      · exact ho.1 h1.1
end

/-- the number of a weekday's name, or less than 0 -/
def idxN (x : ByteArray) : Int := Lib.idxOfS nameL x
def daysOk (s : ByteArray) : Bool := (pieces 44 s).all fun x => decide (0 ≤ idxN x)
def daysV (s : ByteArray) : List Int := (pieces 44 s).map idxN
theorem names_at (w : World) (j : Nat) (hj : j < nameL.length) : (w.alloc (.cells namesV 9)).cell? ⟨w.heap.size, 0 + j, none⟩ = some (.string (nameL.getD j ByteArray.empty)) := by
  have h := heap_new w (.cells namesV 9)
  have hk : j = 0 ∨ j = 1 ∨ j = 2 ∨ j = 3 ∨ j = 4 ∨ j = 5 ∨ j = 6 := by simp [nameL] at hj; omega
  rcases hk with rfl | rfl | rfl | rfl | rfl | rfl | rfl <;> exact cell_of h rfl
theorem index_name (x : ByteArray) (w : World) : Calls Tryd.prog 96 #[.slice (some ⟨w.heap.size, 0, none⟩) 7 7, .string x] (w.alloc (.cells namesV 9)) fun e w' => e = .returned (.int .i64 (idxN x)) ∧ w' = w.alloc (.cells namesV 9) :=
  Tryd.slices_Index_string w.heap.size 0 7 7 nameL x _ (Nat.le_refl 7) (by decide) (names_at w)

set_option maxRecDepth 100000 in
set_option maxHeartbeats 4000000 in
theorem days_any (s : ByteArray) (w : World) (hs : s.size ≤ 1000000) :
    Calls Tryd.prog 78 #[.string s] w fun e' w' => ∃ v, e' = .returned (.tuple #[v, .bool (daysOk s)]) ∧ (daysOk s = false → v = .slice none 0 0) ∧ (daysOk s = true → Ints.Reads w' v (daysV s) ∧ ∀ b o n c, v = .slice (some ⟨b, o, none⟩) n c → w.heap.size ≤ b) ∧ Below w.heap.size w w' := by
  obtain ⟨i0, hi0, hz0, hz1, hz2⟩ := info_parts int_info
  refine (callsIn_wide (n := Rng.dp + 1)).1 ?_
  refine callsIn_of_wp_marks Tryd.func78 rfl trivial ?_ rfl
  simp only [Tryd.ntmps78, List.size_toArray, List.length_cons, List.length_nil, Nat.reduceAdd, Nat.reduceSub, Array.replicate_succ, Array.replicate_zero, List.push_toArray, List.append_toArray, List.nil_append, List.cons_append]
  gi_wp2_with (refine ⟨trivial, ?_⟩; gi_at_call 99; refine (callsIn_wide.2 (splitSeq_any s ⟨#[44]⟩ _)).mono ?_; rintro e' w2 ⟨rfl, rfl⟩)
  obtain ⟨W3, hW3⟩ : ∃ W3, ((w.alloc (.cells #[.slice none 0 0] 44)).alloc (.cells #[.bool false] 4)).alloc (.cells #[.slice none 0 0] 44) = W3 := ⟨_, rfl⟩
  have hz3 : W3.heap.size = w.heap.size + 1 + 1 + 1 := by rw [← hW3]; simp
  have hB3 : Below w.heap.size w W3 := by
    rw [← hW3]
    exact (((Below.refl _ w).alloc (Nat.le_refl _) _).alloc (by simp) _).alloc (by simp; omega) _
  have a2 : Boxed W3 w.heap.size 44 (.slice none 0 0) := by
    have h := ((Boxed.new w 44 (.slice none 0 0)).alloc (.cells #[.bool false] 4)).alloc (.cells #[.slice none 0 0] 44)
    rw [hW3] at h; exact h
  have a3 : Boxed W3 (w.heap.size + 1) 4 (.bool false) := by
    have h := (Boxed.new (w.alloc (.cells #[.slice none 0 0] 44)) 4 (.bool false)).alloc (.cells #[.slice none 0 0] 44)
    rw [hW3] at h; simpa only [World.size_alloc] using h
  have a4 : Boxed W3 (w.heap.size + 1 + 1) 44 (.slice none 0 0) := by
    have h := Boxed.new ((w.alloc (.cells #[.slice none 0 0] 44)).alloc (.cells #[.bool false] 4)) 44 (.slice none 0 0)
    rw [hW3] at h; simpa only [World.size_alloc] using h
  rw [hW3]
  have e0 := ((Boxed.new W3 9 (.string s)).alloc (.cells #[.string ⟨#[44]⟩] 9)).alloc (.cells #[.int .i64 0] 3)
  have e1 := (Boxed.new (W3.alloc (.cells #[.string s] 9)) 9 (.string ⟨#[44]⟩)).alloc (.cells #[.int .i64 0] 3)
  have e2 := Boxed.new ((W3.alloc (.cells #[.string s] 9)).alloc (.cells #[.string ⟨#[44]⟩] 9)) 3 (.int .i64 0)
  obtain ⟨W0, hW0⟩ : ∃ W0, ((W3.alloc (.cells #[.string s] 9)).alloc (.cells #[.string ⟨#[44]⟩] 9)).alloc (.cells #[.int .i64 0] 3) = W0 := ⟨_, rfl⟩
  have hB0 : Below W3.heap.size W3 W0 := by rw [← hW0]; exact (((Below.refl _ W3).alloc (Nat.le_refl _) _).alloc (by simp) _).alloc (by simp; omega) _
  have hz : W0.heap.size = w.heap.size + 1 + 1 + 1 + 1 + 1 + 1 := by rw [← hW0]; simp [hz3]
  rw [hW0] at e0 e1 e2 ⊢
  rw [hz3] at e0
  rw [World.size_alloc, hz3] at e1
  rw [World.size_alloc, World.size_alloc, hz3] at e2
  have hBw : Below w.heap.size w W0 := hB3.trans (hB0.mono (by omega))
  have b2 := a2.kept (Rng.grownBy_of_below hB0) (by simp)
  have b3 := a3.kept (Rng.grownBy_of_below hB0) (by simp)
  have b4 := a4.kept (Rng.grownBy_of_below hB0) (by simp)
  have hte : 44 ≠ 3 := by decide
  have hseq := split_seq (w.heap.size + 1 + 1 + 1) s 44 1000001 W0 e0 e1 e2 (by omega) (by omega)
  have cl : ∀ {b : Nat} {t : TypeId} {u : Value} {A : World}, Boxed A b t u → ∀ o, A.heap[b]? = some o → o.isCells = true := fun hb o ho => by
    rw [show _ = _ from hb] at ho; cases ho; rfl
  have hES : ∀ r, r = w.heap.size + 1 + 1 + 1 → (fun b => b = w.heap.size ∨ b = w.heap.size + 1 ∨ b = w.heap.size + 1 + 1 ∨ b = w.heap.size + 1 + 1 + 1) r ∧ ∀ o, W0.heap[r]? = some o → o.isCells = true := by
    rintro r rfl
    exact ⟨.inr (.inr (.inr rfl)), cl e0⟩
  have HSEQ := Lib.hid hseq
  have HES := Lib.hid hES
  clear hW0 hW3 a2 a3 a4 hseq e1 e2 hES
  refine Rge.range_law (n := Rng.dp + 1) (by decide) (gf := 142) (lb := lbS (w.heap.size + 1 + 1 + 1)) rfl (enters_of Tryd.func142 (by kernel_rfl) rfl)
    HSEQ.out (Below.refl _ _) (fun _ => rfl) (fun b hb => by omega) (fun b => b = w.heap.size ∨ b = w.heap.size + 1 ∨ b = w.heap.size + 1 + 1) (fun b hb => by omega) ⟨by omega, by omega, by omega⟩
    (fun hi pre W' => ((Boxed W' w.heap.size 44 (.slice none 0 0) ∧ Boxed W' (w.heap.size + 1) 4 (.bool false)) ∧ Holds (w.heap.size + 1 + 1) hi (pre.map idxN) W' ∧ hi ≤ W'.heap.size) ∧ Rng.Stay (fun b => b = w.heap.size ∨ b = w.heap.size + 1 ∨ b = w.heap.size + 1 + 1 ∨ b = w.heap.size + 1 + 1 + 1) W0.heap.size W0 W' ∧ (∀ x ∈ pre, 0 ≤ idxN x))
    (fun c _ pre W' => (Boxed W' w.heap.size 44 (.slice none 0 0) ∧ Boxed W' (w.heap.size + 1) 4 (.bool false)) ∧ Rng.Stay (fun b => b = w.heap.size ∨ b = w.heap.size + 1 ∨ b = w.heap.size + 1 + 1 ∨ b = w.heap.size + 1 + 1 + 1) W0.heap.size W0 W' ∧ (c = .ret ∧ ∃ x ∈ pre, ¬ 0 ≤ idxN x))
    ?hI ?hIx ?h0 (fun x => { tmps := #[.string s, undef, .pointer (some ⟨w.heap.size, 0, none⟩), .pointer (some ⟨w.heap.size + 1, 0, none⟩), .pointer (some ⟨w.heap.size + 1 + 1, 0, none⟩), .string x, undef, .string s, .func (.func 142) #[] (lbS (w.heap.size + 1 + 1 + 1)), .string x, undef, undef, undef, undef, undef, undef, undef, undef, undef, undef], defers := [] }) ?assign ?body ?done ?stop
  case hI =>
    exact rge_and (rge_and (rge_and (rge_boxed (f := fun _ => .slice none 0 0) (by omega) (by omega)) (rge_boxed (f := fun _ => .bool false) (by omega) (by omega))) (rge_and (rge_holds (fun p : List ByteArray => p.map idxN) (by omega) (by omega) (fun r hr => by omega)) rge_size)) (rge_and (rge_stay _ _ _ (Nat.le_refl _) HES.out) (rge_const (fun pre => ∀ x ∈ pre, 0 ≤ idxN x)))
  case hIx =>
    intro c
    exact rge_and (rge_and (rge_boxed (f := fun _ => .slice none 0 0) (by omega) (by omega)) (rge_boxed (f := fun _ => .bool false) (by omega) (by omega))) (rge_and (rge_stay _ _ _ (Nat.le_refl _) HES.out) (rge_const (fun pre => c = .ret ∧ ∃ x ∈ pre, ¬ 0 ≤ idxN x)))
  case h0 =>
    intro W' hW'
    refine ⟨⟨⟨b2.kept (Rng.grownBy_of_below hW') (by simp), b3.kept (Rng.grownBy_of_below hW') (by simp)⟩, ⟨.slice none 0 0, b4.kept (Rng.grownBy_of_below hW') (by simp), by simp [cellsOf], .inl ⟨rfl, rfl⟩⟩, Nat.le_refl _⟩, Rng.Stay.of_below hW', by simp⟩
  case assign =>
    intro l2 x W' K hK
    gi_wp2
    exact hK
  case body =>
    rintro hi l2 pre x W' hhi ⟨⟨⟨c2, c3⟩, hh, hsz⟩, hst, hall⟩ hlen
    obtain ⟨a, c, hbx, hown, _⟩ := holds_reads hh
    have y2 := (c2.alloc (.cells namesV 9)).cell
    have y3 := (c3.alloc (.cells namesV 9)).cell
    have y4 := (hbx.alloc (.cells namesV 9)).cell
    have f2 := (c2.alloc (.cells namesV 9)).frozen
    have f3 := (c3.alloc (.cells namesV 9)).frozen
    have f4 := (hbx.alloc (.cells namesV 9)).frozen
    have hwn : Below W'.heap.size W' (W'.alloc (.cells namesV 9)) := (Below.refl _ W').alloc (Nat.le_refl _) _
    have CL2 := Lib.hid (cl b2)
    have CL3 := Lib.hid (cl b3)
    have HWN := Lib.hid hwn
    clear hwn
    have HZ := Lib.hid hz
    have HST := Lib.hid hst
    have C2 := Lib.hid c2
    have C3 := Lib.hid c3
    have HB := Lib.hid hbx
    have HOWN := Lib.hid hown
    have HSZ := Lib.hid hsz
    have HALL := Lib.hid hall
    have HHI := Lib.hid hhi
    have hlen' : (pre.map idxN).length < 1000001 := by simpa using hlen
    have HLEN := Lib.hid hlen'
    clear hz hst c2 c3 hh hbx hown hsz hall hhi hlen hlen' cl
    obtain ⟨q, hq⟩ : ∃ q, idxN x = q := ⟨_, rfl⟩
    have hidx := index_name x W'
    rw [hq] at hidx
    have HIDX := Lib.hid hidx
    have HQ := Lib.hid hq
    clear hidx hq
    by_cases h1 : q < 0
    · gi_wp2_with (first
        | (refine ⟨trivial, ?_⟩; gi_at_call 80; refine (CallsIn.inRound l2 (callsIn_wide.2 (names_new _))).mono ?_; rintro e' w2 ⟨rfl, rfl⟩)
        | (refine ⟨trivial, ?_⟩; gi_at_call 96; refine (CallsIn.inRound l2 (callsIn_wide.2 HIDX.out)).mono ?_; rintro e' w2 ⟨rfl, rfl⟩))
      have hX : Rng.Stay (fun b => b = w.heap.size ∨ b = w.heap.size + 1 ∨ b = w.heap.size + 1 + 1 ∨ b = w.heap.size + 1 + 1 + 1) W0.heap.size W0 (W'.alloc (.cells namesV 9)) := HST.out.trans (Rng.Stay.of_below HWN.out)
      have hR : Rng.Rest W0.heap.size W' (W'.alloc (.cells namesV 9)) := fun b o hb hbo _ => by rw [HWN.out.block b (Array.getElem?_eq_some_iff.1 hbo).1]; exact hbo
      have hzz := HZ.out
      exact ⟨rest_set (rest_set hR ⟨w.heap.size, 0, none⟩ (by show w.heap.size < _; omega) _) ⟨w.heap.size + 1, 0, none⟩ (by show w.heap.size + 1 < _; omega) _,
        ⟨((C2.out.alloc _).set _).other (by omega) _, ((C3.out.alloc _).other (by omega) _).set _⟩,
        (hX.setCell (p := ⟨w.heap.size, 0, none⟩) (.inl (.inl rfl)) CL2.out _).setCell (p := ⟨w.heap.size + 1, 0, none⟩) (.inl (.inr (.inl rfl))) CL3.out _,
        rfl, x, by simp, by rw [HQ.out]; omega⟩
    · obtain ⟨L, hL⟩ : ∃ L, pre.map idxN = L := ⟨_, rfl⟩
      rw [hL] at y4 HOWN HB HLEN
      have HL := Lib.hid hL
      have hlen2 := HLEN.out
      clear hL
      gi_wp2_with (first
        | (refine ⟨trivial, ?_⟩; gi_at_call 80; refine (CallsIn.inRound l2 (callsIn_wide.2 (names_new _))).mono ?_; rintro e' w2 ⟨rfl, rfl⟩)
        | (refine ⟨trivial, ?_⟩; gi_at_call 96; refine (CallsIn.inRound l2 (callsIn_wide.2 HIDX.out)).mono ?_; rintro e' w2 ⟨rfl, rfl⟩)
        | (gi_at_builtin
           refine wpListIn_append_own _ rfl (.tmp 15) (.tmp 17) _ rfl hi 3 i0 _ 1 8 Tryd.underlying44 hi0 hz0 hz1 hz2 rfl (by omega) (.slice a L.length c) L.length (cellsOf L) rfl
             ((HOWN.out.alloc _).alloc _) ⟨W'.heap.size + 1, 0, none⟩ 1 1 [.int .i64 q] rfl rfl
             (fun j u hu => by
               cases j with
               | zero => simp at hu; subst hu; have := (Boxed.new (W'.alloc (.cells namesV 9)) 3 (.int .i64 q)).cell; rw [World.size_alloc] at this; exact this
               | succ j => simp at hu) (fun u hu => by simp at hu; subst hu; rfl) (by simp only [maxLen]; omega) (by omega) (by have := HSZ.out; simp; omega) ?_
           intro v1 wz hown' hg hnil
           have hap := holds_append (O := (fun b => b = w.heap.size ∨ b = w.heap.size + 1 ∨ b = w.heap.size + 1 + 1)) (HB.out.alloc _) (HOWN.out.alloc _) (.inr (.inr rfl)) hown' hg
           obtain ⟨a1, c1, e1⟩ : ∃ a1 c1, v1 = .slice a1 (L.length + 1) c1 := by
             have h3 := reads_own (xs := L ++ [q]) (by rw [cellsOf_snoc, List.length_append]; exact hown')
             obtain ⟨a1, c1, e⟩ := h3.shape
             exact ⟨a1, c1, by rw [e, List.length_append]; rfl⟩
           subst e1
           have z1 := hap.1.cell
           have z2 := hap.1.frozen
           have HAP := Lib.hid hap
           have hkp : ∀ (b : Nat) (t : TypeId) (u : Value), Boxed W' b t u → b < hi → Boxed wz b t u := fun b t u hb hlt => ((hb.alloc _).alloc _).kept hg (fun e => by have := ownBlock_ge HOWN.out e.symm; omega)
           have HKP := Lib.hid hkp
           clear hown' hg hnil hap hkp))
      have hs2 := (Rng.Stay.of_below HWN.out).trans HAP.out.2.2
      have hzz := HZ.out
      have hh2 := HHI.out
      refine ⟨hs2, ⟨⟨(HKP.out _ _ _ C2.out (by omega)).other (by omega) _, (HKP.out _ _ _ C3.out (by omega)).other (by omega) _⟩, ?_, Nat.le_trans HSZ.out hs2.size⟩, HST.out.trans (hs2.mono (fun b _ h => ?_) (by omega)), ?_⟩
      · rw [List.map_append, HL.out, List.map_singleton, HQ.out]; exact HAP.out.2.1
      · rcases h with h | h | h
        · exact .inl h
        · exact .inr (.inl h)
        · exact .inr (.inr (.inl h))
      · intro z hz
        rcases List.mem_append.1 hz with hz | hz
        · exact HALL.out z hz
        · simp at hz; subst hz; rw [HQ.out]; omega
  case done =>
    rintro D hi xs W' hD hDh rfl ⟨⟨⟨c2, c3⟩, hh, hsz⟩, hst, hall⟩ hK
    obtain ⟨a, c, hbx, hown, _⟩ := holds_reads hh
    have y2 := c2.cell
    have y3 := c3.cell
    have y4 := hbx.cell
    have f2 := c2.frozen
    have f3 := c3.frozen
    have HST := Lib.hid hst
    have HK := Lib.hid hK
    have C2 := Lib.hid c2
    have C3 := Lib.hid c3
    have HOWN := Lib.hid hown
    have HHZ := Lib.hid hz
    have HALL := Lib.hid hall
    have CL2 := Lib.hid (cl b2)
    have CL3 := Lib.hid (cl b3)
    clear hst hK c2 c3 hown hbx hh hz hall cl
    obtain ⟨L, hL⟩ : ∃ L, (pieces 44 s).map idxN = L := ⟨_, rfl⟩
    rw [hL] at y4 HOWN
    gi_wp2
    have hok : daysOk s = true := by unfold daysOk; rw [List.all_eq_true]; intro x hx; exact decide_eq_true (HALL.out x hx)
    have hdv : daysV s = L := hL
    have g1 : Boxed ((W'.setCell ⟨w.heap.size, 0, none⟩ (.slice a L.length c)).setCell ⟨w.heap.size + 1, 0, none⟩ (.bool true)) w.heap.size 44 (.slice a L.length c) := (C2.out.set _).other (by omega) _
    have g2 : Boxed ((W'.setCell ⟨w.heap.size, 0, none⟩ (.slice a L.length c)).setCell ⟨w.heap.size + 1, 0, none⟩ (.bool true)) (w.heap.size + 1) 4 (.bool true) := (C3.out.other (by omega) _).set _
    have hz := HHZ.out
    have hK : ((W'.setCell ⟨w.heap.size, 0, none⟩ (.slice a L.length c)).setCell ⟨w.heap.size + 1, 0, none⟩ (.bool true)).heap[D]? = some (.deferred (some [])) := by
      rw [Below.heap_setCell _ _ _ _ (by show D ≠ w.heap.size + 1; omega), Below.heap_setCell _ _ _ _ (by show D ≠ w.heap.size; omega)]; exact HK.out
    have ho2 := own_far (u := .bool true) (p := ⟨w.heap.size + 1, 0, none⟩) (own_far (u := .slice a L.length c) (p := ⟨w.heap.size, 0, none⟩) HOWN.out (by show w.heap.size < hi; omega)) (by show w.heap.size + 1 < hi; omega)
    have hst2 := (HST.out.setCell (p := ⟨w.heap.size, 0, none⟩) (.inl (.inl rfl)) CL2.out (.slice a L.length c)).setCell (p := ⟨w.heap.size + 1, 0, none⟩) (.inl (.inr (.inl rfl))) CL3.out (.bool true)
    refine ⟨by simp, .inl ⟨_, _, rfl, run_takeDeferred hK, ?_⟩⟩
    have r1 := (g1.kept (grownBy_putObj' _ D (.deferred none)) (by simp; omega)).cell
    have r2 := (g2.kept (grownBy_putObj' _ D (.deferred none)) (by simp; omega)).cell
    have hb := (stay_below hst2 (B := w.heap.size) (fun b h => by omega) (by omega) (by omega))
    refine ⟨.tuple #[.slice a L.length c, .bool true], ?_, _, by rw [hok], (fun h => by rw [hok] at h; cases h), fun _ => ?_, ?_⟩
    · simp [results, Tryd.f78, go_sem, r1, r2]
    · rw [hdv]; exact ⟨reads_own (ownsRow_putObj ho2 _ hK rfl), fun b o n c h => by have := ownBlock_ge HOWN.out (r := b) (by rw [h]; rfl); omega⟩
    · exact (hBw.trans hb).trans (belowK_b (w := w) (Nat.le_refl _) _ D _ _ (by omega) hK rfl rfl)
  case stop =>
    rintro D hi c pre W' hD hDh hpre ⟨⟨c2, c3⟩, hst, rfl, x, hx, hx0⟩ hK
    have hok : daysOk s = false := by
      rw [Bool.eq_false_iff]
      intro h
      unfold daysOk at h
      rw [List.all_eq_true] at h
      obtain ⟨t, ht⟩ := hpre
      have := of_decide_eq_true (h x (by rw [← ht]; exact List.mem_append_left _ hx))
      exact hx0 this
    have HOK := Lib.hid hok
    clear hx0 hok
    gi_wp2
    refine ⟨by simp, .inl ⟨_, _, rfl, run_takeDeferred hK, ?_⟩⟩
    have r1 := (c2.kept (grownBy_putObj' W' D (.deferred none)) (by simp; omega)).cell
    have r2 := (c3.kept (grownBy_putObj' W' D (.deferred none)) (by simp; omega)).cell
    have hb := (stay_below hst (B := w.heap.size) (fun b h => by omega) (by omega) (by omega))
    refine ⟨.tuple #[.slice none 0 0, .bool false], ?_, _, by rw [HOK.out], (fun _ => rfl), (fun h => by rw [HOK.out] at h; cases h), ?_⟩
    · simp [results, Tryd.f78, go_sem, r1, r2]
    · exact (hBw.trans hb).trans (belowK_b (w := w) (Nat.le_refl _) W' D _ _ (by omega) hK rfl rfl)
end Rul
end Go.Proofs.YtmlndamkcipebaaDoor
