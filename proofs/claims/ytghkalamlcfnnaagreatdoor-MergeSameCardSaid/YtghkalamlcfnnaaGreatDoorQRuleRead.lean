/- rule.Read. -/
import Derived.Test.YtghkalamlcfnnaaGreatDoorQNumPlain
import Derived.Test.YtghkalamlcfnnaaGreatDoorQRuleText
import Derived.Stop.RegionWithIn
import Derived.BigQuiet
import Derived.Deep.QuietTactic
namespace Go.Proofs.YtghkalamlcfnnaaGreatDoor
open Go Go.RowKit Go.Shelf Lmd
attribute [local go_sem] Oper.semAt_some
namespace Rul
open Cand
section
variable {α : Type} {E : Nat → Prop} {B : Nat}
theorem rge_and {J K : Nat → α → World → Prop} (h1 : Rge.Stable E B J) (h2 : Rge.Stable E B K) : Rge.Stable E B (fun hi s W => J hi s W ∧ K hi s W) :=
  fun hi s A C row hB hs hg hr => ⟨h1 hi s A C row hB hs.1 hg hr, h2 hi s A C row hB hs.2 hg hr⟩
theorem rge_const (p : α → Prop) : Rge.Stable E B (fun (_ : Nat) s (_ : World) => p s) := fun _ _ _ _ _ _ hs _ _ => hs
theorem rge_size : Rge.Stable E B (fun hi (_ : α) W' => hi ≤ W'.heap.size) := fun _ _ _ _ _ _ hs hg _ => Nat.le_trans hs hg.size
theorem rge_boxed {b : Nat} {t : TypeId} {f : α → Value} (hb : b < B) (hE : ¬ E b) : Rge.Stable E B (fun (_ : Nat) s W' => Boxed W' b t (f s)) := by
  intro hi s A C row hB hs hg hr
  exact hs.kept hg (fun e => by
    rcases hr b e.symm with h | h
    · omega
    · exact hE h)
theorem rge_holds {b : Nat} (f : α → List Int) (hb : b < B) (hE : ¬ E b) (hEB : ∀ r, E r → r < B) : Rge.Stable E B (fun hi s W' => Holds b hi (f s) W') := by
  intro hi s A C row hB hs hg hr
  refine holds_kept hs hg (fun r e => ?_) (fun r e => ?_)
  · rcases hr r e with h | h
    · omega
    · exact fun x => hE (x ▸ h)
  · rcases hr r e with h | h
    · omega
    · have := hEB r h; omega
theorem rge_stay (O : Nat → Prop) (hi : Nat) (W0 : World) (h0 : W0.heap.size ≤ B) (hE : ∀ r, E r → O r ∧ ∀ o, W0.heap[r]? = some o → o.isCells = true) : Rge.Stable E B (fun (_ : Nat) (_ : α) W' => Rng.Stay O hi W0 W') := by
  intro hi' s A C row hB hs hg hr
  refine ⟨hg.os.trans hs.os, hg.tape.trans hs.tape, hg.output.trans hs.output, Nat.le_trans hs.size hg.size, fun b o hb ho => ?_⟩
  have hlt := (Array.getElem?_eq_some_iff.1 hb).1
  rw [hg.block b (Nat.lt_of_lt_of_le hlt hs.size) (fun e => ?_)]
  · exact hs.same b o hb ho
  · rcases hr b e.symm with h | h
    · omega
    · have h1 := hE b h
      have h2 := h1.2 o hb
      rcases ho with ho | ho
      · rw [h2] at ho; cases ho
      · exact ho.1 h1.1
end
def idxN (x : ByteArray) : Int := Lib.idxOfS nameL x
def daysOk (s : ByteArray) : Bool := (pieces 44 s).all fun x => decide (0 ≤ idxN x)
def daysV (s : ByteArray) : List Int := (pieces 44 s).map idxN
theorem names_at (w : World) (j : Nat) (hj : j < nameL.length) : (w.alloc (.cells namesV 9)).cell? ⟨w.heap.size, 0 + j, none⟩ = some (.string (nameL.getD j ByteArray.empty)) := by
  have h := heap_new w (.cells namesV 9)
  have hk : j = 0 ∨ j = 1 ∨ j = 2 ∨ j = 3 ∨ j = 4 ∨ j = 5 ∨ j = 6 := by simp [nameL] at hj; omega
  rcases hk with rfl | rfl | rfl | rfl | rfl | rfl | rfl <;> exact cell_of h rfl
theorem index_name (x : ByteArray) (w : World) : Calls Tryz.prog 151 #[.slice (some ⟨w.heap.size, 0, none⟩) 7 7, .string x] (w.alloc (.cells namesV 9)) fun e w' => e = .returned (.int .i64 (idxN x)) ∧ w' = w.alloc (.cells namesV 9) :=
  Tryz.slices_Index_string w.heap.size 0 7 7 nameL x _ (Nat.le_refl 7) (by decide) (names_at w)
set_option maxRecDepth 100000 in
set_option maxHeartbeats 4000000 in
theorem days_any (s : ByteArray) (w : World) (hs : s.size ≤ 1000000) :
    Calls Tryz.prog 234 #[.string s] w fun e' w' => ∃ v, e' = .returned (.tuple #[v, .bool (daysOk s)]) ∧ (daysOk s = false → v = .slice none 0 0) ∧ (daysOk s = true → Ints.Reads w' v (daysV s) ∧ ∀ b o n c, v = .slice (some ⟨b, o, none⟩) n c → w.heap.size ≤ b) ∧ Below w.heap.size w w' := by
  obtain ⟨i0, hi0, hz0, hz1, hz2⟩ := info_parts int_info
  refine (callsIn_wide (n := Rng.dp + 1)).1 ?_
  refine callsIn_of_wp_marks Tryz.func234 rfl trivial ?_ rfl
  simp only [Tryz.ntmps234, List.size_toArray, List.length_cons, List.length_nil, Nat.reduceAdd, Nat.reduceSub, Array.replicate_succ, Array.replicate_zero, List.push_toArray, List.append_toArray, List.nil_append, List.cons_append]
  gi_wp2_with (refine ⟨trivial, ?_⟩; gi_at_call 236; refine (callsIn_wide.2 (splitSeq_any s ⟨#[44]⟩ _)).mono ?_; rintro e' w2 ⟨rfl, rfl⟩)
  obtain ⟨W3, hW3⟩ : ∃ W3, ((w.alloc (.cells #[.slice none 0 0] 35)).alloc (.cells #[.bool false] 4)).alloc (.cells #[.slice none 0 0] 35) = W3 := ⟨_, rfl⟩
  have hz3 : W3.heap.size = w.heap.size + 1 + 1 + 1 := by rw [← hW3]; simp
  have hB3 : Below w.heap.size w W3 := by
    rw [← hW3]
    exact (((Below.refl _ w).alloc (Nat.le_refl _) _).alloc (by simp) _).alloc (by simp; omega) _
  have a2 : Boxed W3 w.heap.size 35 (.slice none 0 0) := by
    have h := ((Boxed.new w 35 (.slice none 0 0)).alloc (.cells #[.bool false] 4)).alloc (.cells #[.slice none 0 0] 35)
    rw [hW3] at h; exact h
  have a3 : Boxed W3 (w.heap.size + 1) 4 (.bool false) := by
    have h := (Boxed.new (w.alloc (.cells #[.slice none 0 0] 35)) 4 (.bool false)).alloc (.cells #[.slice none 0 0] 35)
    rw [hW3] at h; simpa only [World.size_alloc] using h
  have a4 : Boxed W3 (w.heap.size + 1 + 1) 35 (.slice none 0 0) := by
    have h := Boxed.new ((w.alloc (.cells #[.slice none 0 0] 35)).alloc (.cells #[.bool false] 4)) 35 (.slice none 0 0)
    rw [hW3] at h; simpa only [World.size_alloc] using h
  rw [hW3]
  have e0 := ((Boxed.new W3 9 (.string s)).alloc (.cells #[.string ⟨#[44]⟩] 9)).alloc (.cells #[.int .i64 0] 3)
  have e1 := (Boxed.new (W3.alloc (.cells #[.string s] 9)) 9 (.string ⟨#[44]⟩)).alloc (.cells #[.int .i64 0] 3)
  have e2 := Boxed.new ((W3.alloc (.cells #[.string s] 9)).alloc (.cells #[.string ⟨#[44]⟩] 9)) 3 (.int .i64 0)
  obtain ⟨W0, hW0⟩ : ∃ W0, ((W3.alloc (.cells #[.string s] 9)).alloc (.cells #[.string ⟨#[44]⟩] 9)).alloc (.cells #[.int .i64 0] 3) = W0 := ⟨_, rfl⟩
  have hB0 : Below W3.heap.size W3 W0 := by rw [← hW0]; exact (((Below.refl _ W3).alloc (Nat.le_refl _) _).alloc (by simp) _).alloc (by simp; omega) _
  have hz : W0.heap.size = w.heap.size + 1 + 1 + 1 + 1 + 1 + 1 := by rw [← hW0]; simp [hz3]
  rw [hW0] at e0 e1 e2 ⊢
  rw [hz3] at e0
  rw [World.size_alloc, hz3] at e1
  rw [World.size_alloc, World.size_alloc, hz3] at e2
  have hBw : Below w.heap.size w W0 := hB3.trans (hB0.mono (by omega))
  have b2 := a2.kept (Rng.grownBy_of_below hB0) (by simp)
  have b3 := a3.kept (Rng.grownBy_of_below hB0) (by simp)
  have b4 := a4.kept (Rng.grownBy_of_below hB0) (by simp)
  have hte : 35 ≠ 3 := by decide
  have hseq := split_seq (w.heap.size + 1 + 1 + 1) s 44 1000001 W0 e0 e1 e2 (by omega) (by omega)
  have cl : ∀ {b : Nat} {t : TypeId} {u : Value} {A : World}, Boxed A b t u → ∀ o, A.heap[b]? = some o → o.isCells = true := fun hb o ho => by
    rw [show _ = _ from hb] at ho; cases ho; rfl
  have hES : ∀ r, r = w.heap.size + 1 + 1 + 1 → (fun b => b = w.heap.size ∨ b = w.heap.size + 1 ∨ b = w.heap.size + 1 + 1 ∨ b = w.heap.size + 1 + 1 + 1) r ∧ ∀ o, W0.heap[r]? = some o → o.isCells = true := by
    rintro r rfl
    exact ⟨.inr (.inr (.inr rfl)), cl e0⟩
  have HSEQ := Lib.hid hseq
  have HES := Lib.hid hES
  clear hW0 hW3 a2 a3 a4 hseq e1 e2 hES
  refine Rge.range_law (n := Rng.dp + 1) (by decide) (gf := 296) (lb := lbS (w.heap.size + 1 + 1 + 1)) rfl (enters_of Tryz.func296 (by kernel_rfl) rfl)
    HSEQ.out (Below.refl _ _) (fun _ => rfl) (fun b hb => by omega) (fun b => b = w.heap.size ∨ b = w.heap.size + 1 ∨ b = w.heap.size + 1 + 1) (fun b hb => by omega) ⟨by omega, by omega, by omega⟩
    (fun hi pre W' => ((Boxed W' w.heap.size 35 (.slice none 0 0) ∧ Boxed W' (w.heap.size + 1) 4 (.bool false)) ∧ Holds (w.heap.size + 1 + 1) hi (pre.map idxN) W' ∧ hi ≤ W'.heap.size) ∧ Rng.Stay (fun b => b = w.heap.size ∨ b = w.heap.size + 1 ∨ b = w.heap.size + 1 + 1 ∨ b = w.heap.size + 1 + 1 + 1) W0.heap.size W0 W' ∧ (∀ x ∈ pre, 0 ≤ idxN x))
    (fun c _ pre W' => (Boxed W' w.heap.size 35 (.slice none 0 0) ∧ Boxed W' (w.heap.size + 1) 4 (.bool false)) ∧ Rng.Stay (fun b => b = w.heap.size ∨ b = w.heap.size + 1 ∨ b = w.heap.size + 1 + 1 ∨ b = w.heap.size + 1 + 1 + 1) W0.heap.size W0 W' ∧ (c = .ret ∧ ∃ x ∈ pre, ¬ 0 ≤ idxN x))
    ?hI ?hIx ?h0 (fun x => { tmps := #[.string s, undef, .pointer (some ⟨w.heap.size, 0, none⟩), .pointer (some ⟨w.heap.size + 1, 0, none⟩), .pointer (some ⟨w.heap.size + 1 + 1, 0, none⟩), .string x, undef, .string s, .func (.func 296) #[] (lbS (w.heap.size + 1 + 1 + 1)), .string x, undef, undef, undef, undef, undef, undef, undef, undef, undef, undef], defers := [] }) ?assign ?body ?done ?stop
  case hI =>
    exact rge_and (rge_and (rge_and (rge_boxed (f := fun _ => .slice none 0 0) (by omega) (by omega)) (rge_boxed (f := fun _ => .bool false) (by omega) (by omega))) (rge_and (rge_holds (fun p : List ByteArray => p.map idxN) (by omega) (by omega) (fun r hr => by omega)) rge_size)) (rge_and (rge_stay _ _ _ (Nat.le_refl _) HES.out) (rge_const (fun pre => ∀ x ∈ pre, 0 ≤ idxN x)))
  case hIx =>
    intro c
    exact rge_and (rge_and (rge_boxed (f := fun _ => .slice none 0 0) (by omega) (by omega)) (rge_boxed (f := fun _ => .bool false) (by omega) (by omega))) (rge_and (rge_stay _ _ _ (Nat.le_refl _) HES.out) (rge_const (fun pre => c = .ret ∧ ∃ x ∈ pre, ¬ 0 ≤ idxN x)))
  case h0 =>
    intro W' hW'
    refine ⟨⟨⟨b2.kept (Rng.grownBy_of_below hW') (by simp), b3.kept (Rng.grownBy_of_below hW') (by simp)⟩, ⟨.slice none 0 0, b4.kept (Rng.grownBy_of_below hW') (by simp), by simp [cellsOf], .inl ⟨rfl, rfl⟩⟩, Nat.le_refl _⟩, Rng.Stay.of_below hW', by simp⟩
  case assign =>
    intro l2 x W' K hK
    gi_wp2
    exact hK
  case body =>
    rintro hi l2 pre x W' hhi ⟨⟨⟨c2, c3⟩, hh, hsz⟩, hst, hall⟩ hlen
    obtain ⟨a, c, hbx, hown, _⟩ := holds_reads hh
    have y2 := (c2.alloc (.cells namesV 9)).cell
    have y3 := (c3.alloc (.cells namesV 9)).cell
    have y4 := (hbx.alloc (.cells namesV 9)).cell
    have f2 := (c2.alloc (.cells namesV 9)).frozen
    have f3 := (c3.alloc (.cells namesV 9)).frozen
    have f4 := (hbx.alloc (.cells namesV 9)).frozen
    have hwn : Below W'.heap.size W' (W'.alloc (.cells namesV 9)) := (Below.refl _ W').alloc (Nat.le_refl _) _
    have CL2 := Lib.hid (cl b2)
    have CL3 := Lib.hid (cl b3)
    have HWN := Lib.hid hwn
    clear hwn
    have HZ := Lib.hid hz
    have HST := Lib.hid hst
    have C2 := Lib.hid c2
    have C3 := Lib.hid c3
    have HB := Lib.hid hbx
    have HOWN := Lib.hid hown
    have HSZ := Lib.hid hsz
    have HALL := Lib.hid hall
    have HHI := Lib.hid hhi
    have hlen' : (pre.map idxN).length < 1000001 := by simpa using hlen
    have HLEN := Lib.hid hlen'
    clear hz hst c2 c3 hh hbx hown hsz hall hhi hlen hlen' cl
    obtain ⟨q, hq⟩ : ∃ q, idxN x = q := ⟨_, rfl⟩
    have hidx := index_name x W'
    rw [hq] at hidx
    have HIDX := Lib.hid hidx
    have HQ := Lib.hid hq
    clear hidx hq
    by_cases h1 : q < 0
    · gi_wp2_with (first
        | (refine ⟨trivial, ?_⟩; gi_at_call 199; refine (CallsIn.inRound l2 (callsIn_wide.2 (names_new _))).mono ?_; rintro e' w2 ⟨rfl, rfl⟩)
        | (refine ⟨trivial, ?_⟩; gi_at_call 151; refine (CallsIn.inRound l2 (callsIn_wide.2 HIDX.out)).mono ?_; rintro e' w2 ⟨rfl, rfl⟩))
      have hX : Rng.Stay (fun b => b = w.heap.size ∨ b = w.heap.size + 1 ∨ b = w.heap.size + 1 + 1 ∨ b = w.heap.size + 1 + 1 + 1) W0.heap.size W0 (W'.alloc (.cells namesV 9)) := HST.out.trans (Rng.Stay.of_below HWN.out)
      have hR : Rng.Rest W0.heap.size W' (W'.alloc (.cells namesV 9)) := fun b o hb hbo _ => by rw [HWN.out.block b (Array.getElem?_eq_some_iff.1 hbo).1]; exact hbo
      have hzz := HZ.out
      exact ⟨rest_set (rest_set hR ⟨w.heap.size, 0, none⟩ (by show w.heap.size < _; omega) _) ⟨w.heap.size + 1, 0, none⟩ (by show w.heap.size + 1 < _; omega) _,
        ⟨((C2.out.alloc _).set _).other (by omega) _, ((C3.out.alloc _).other (by omega) _).set _⟩,
        (hX.setCell (p := ⟨w.heap.size, 0, none⟩) (.inl (.inl rfl)) CL2.out _).setCell (p := ⟨w.heap.size + 1, 0, none⟩) (.inl (.inr (.inl rfl))) CL3.out _,
        rfl, x, by simp, by rw [HQ.out]; omega⟩
    · obtain ⟨L, hL⟩ : ∃ L, pre.map idxN = L := ⟨_, rfl⟩
      rw [hL] at y4 HOWN HB HLEN
      have HL := Lib.hid hL
      have hlen2 := HLEN.out
      clear hL
      gi_wp2_with (first
        | (refine ⟨trivial, ?_⟩; gi_at_call 199; refine (CallsIn.inRound l2 (callsIn_wide.2 (names_new _))).mono ?_; rintro e' w2 ⟨rfl, rfl⟩)
        | (refine ⟨trivial, ?_⟩; gi_at_call 151; refine (CallsIn.inRound l2 (callsIn_wide.2 HIDX.out)).mono ?_; rintro e' w2 ⟨rfl, rfl⟩)
        | (gi_at_builtin
           refine wpListIn_append_own _ rfl (.tmp 15) (.tmp 17) _ rfl hi 3 i0 _ 1 8 Tryz.underlying35 hi0 hz0 hz1 hz2 rfl (by omega) (.slice a L.length c) L.length (cellsOf L) rfl
             ((HOWN.out.alloc _).alloc _) ⟨W'.heap.size + 1, 0, none⟩ 1 1 [.int .i64 q] rfl rfl
             (fun j u hu => by
               cases j with
               | zero => simp at hu; subst hu; have := (Boxed.new (W'.alloc (.cells namesV 9)) 3 (.int .i64 q)).cell; rw [World.size_alloc] at this; exact this
               | succ j => simp at hu) (fun u hu => by simp at hu; subst hu; rfl) (by simp only [maxLen]; omega) (by omega) (by have := HSZ.out; simp; omega) ?_
           intro v1 wz hown' hg hnil
           have hap := holds_append (O := (fun b => b = w.heap.size ∨ b = w.heap.size + 1 ∨ b = w.heap.size + 1 + 1)) (HB.out.alloc _) (HOWN.out.alloc _) (.inr (.inr rfl)) hown' hg
           obtain ⟨a1, c1, e1⟩ : ∃ a1 c1, v1 = .slice a1 (L.length + 1) c1 := by
             have h3 := reads_own (xs := L ++ [q]) (by rw [cellsOf_snoc, List.length_append]; exact hown')
             obtain ⟨a1, c1, e⟩ := h3.shape
             exact ⟨a1, c1, by rw [e, List.length_append]; rfl⟩
           subst e1
           have z1 := hap.1.cell
           have z2 := hap.1.frozen
           have HAP := Lib.hid hap
           have hkp : ∀ (b : Nat) (t : TypeId) (u : Value), Boxed W' b t u → b < hi → Boxed wz b t u := fun b t u hb hlt => ((hb.alloc _).alloc _).kept hg (fun e => by have := ownBlock_ge HOWN.out e.symm; omega)
           have HKP := Lib.hid hkp
           clear hown' hg hnil hap hkp))
      have hs2 := (Rng.Stay.of_below HWN.out).trans HAP.out.2.2
      have hzz := HZ.out
      have hh2 := HHI.out
      refine ⟨hs2, ⟨⟨(HKP.out _ _ _ C2.out (by omega)).other (by omega) _, (HKP.out _ _ _ C3.out (by omega)).other (by omega) _⟩, ?_, Nat.le_trans HSZ.out hs2.size⟩, HST.out.trans (hs2.mono (fun b _ h => ?_) (by omega)), ?_⟩
      · rw [List.map_append, HL.out, List.map_singleton, HQ.out]; exact HAP.out.2.1
      · rcases h with h | h | h
        · exact .inl h
        · exact .inr (.inl h)
        · exact .inr (.inr (.inl h))
      · intro z hz
        rcases List.mem_append.1 hz with hz | hz
        · exact HALL.out z hz
        · simp at hz; subst hz; rw [HQ.out]; omega
  case done =>
    rintro D hi xs W' hD hDh rfl ⟨⟨⟨c2, c3⟩, hh, hsz⟩, hst, hall⟩ hK
    obtain ⟨a, c, hbx, hown, _⟩ := holds_reads hh
    have y2 := c2.cell
    have y3 := c3.cell
    have y4 := hbx.cell
    have f2 := c2.frozen
    have f3 := c3.frozen
    have HST := Lib.hid hst
    have HK := Lib.hid hK
    have C2 := Lib.hid c2
    have C3 := Lib.hid c3
    have HOWN := Lib.hid hown
    have HHZ := Lib.hid hz
    have HALL := Lib.hid hall
    have CL2 := Lib.hid (cl b2)
    have CL3 := Lib.hid (cl b3)
    clear hst hK c2 c3 hown hbx hh hz hall cl
    obtain ⟨L, hL⟩ : ∃ L, (pieces 44 s).map idxN = L := ⟨_, rfl⟩
    rw [hL] at y4 HOWN
    gi_wp2
    have hok : daysOk s = true := by unfold daysOk; rw [List.all_eq_true]; intro x hx; exact decide_eq_true (HALL.out x hx)
    have hdv : daysV s = L := hL
    have g1 : Boxed ((W'.setCell ⟨w.heap.size, 0, none⟩ (.slice a L.length c)).setCell ⟨w.heap.size + 1, 0, none⟩ (.bool true)) w.heap.size 35 (.slice a L.length c) := (C2.out.set _).other (by omega) _
    have g2 : Boxed ((W'.setCell ⟨w.heap.size, 0, none⟩ (.slice a L.length c)).setCell ⟨w.heap.size + 1, 0, none⟩ (.bool true)) (w.heap.size + 1) 4 (.bool true) := (C3.out.other (by omega) _).set _
    have hz := HHZ.out
    have hK : ((W'.setCell ⟨w.heap.size, 0, none⟩ (.slice a L.length c)).setCell ⟨w.heap.size + 1, 0, none⟩ (.bool true)).heap[D]? = some (.deferred (some [])) := by
      rw [Below.heap_setCell _ _ _ _ (by show D ≠ w.heap.size + 1; omega), Below.heap_setCell _ _ _ _ (by show D ≠ w.heap.size; omega)]; exact HK.out
    have ho2 := own_far (u := .bool true) (p := ⟨w.heap.size + 1, 0, none⟩) (own_far (u := .slice a L.length c) (p := ⟨w.heap.size, 0, none⟩) HOWN.out (by show w.heap.size < hi; omega)) (by show w.heap.size + 1 < hi; omega)
    have hst2 := (HST.out.setCell (p := ⟨w.heap.size, 0, none⟩) (.inl (.inl rfl)) CL2.out (.slice a L.length c)).setCell (p := ⟨w.heap.size + 1, 0, none⟩) (.inl (.inr (.inl rfl))) CL3.out (.bool true)
    refine ⟨by simp, .inl ⟨_, _, rfl, run_takeDeferred hK, ?_⟩⟩
    have r1 := (g1.kept (grownBy_putObj' _ D (.deferred none)) (by simp; omega)).cell
    have r2 := (g2.kept (grownBy_putObj' _ D (.deferred none)) (by simp; omega)).cell
    have hb := (stay_below hst2 (B := w.heap.size) (fun b h => by omega) (by omega) (by omega))
    refine ⟨.tuple #[.slice a L.length c, .bool true], ?_, _, by rw [hok], (fun h => by rw [hok] at h; cases h), fun _ => ?_, ?_⟩
    · simp [results, Tryz.f234, go_sem, r1, r2]
    · rw [hdv]; exact ⟨reads_own (ownsRow_putObj ho2 _ hK rfl), fun b o n c h => by have := ownBlock_ge HOWN.out (r := b) (by rw [h]; rfl); omega⟩
    · exact (hBw.trans hb).trans (belowK_b (w := w) (Nat.le_refl _) _ D _ _ (by omega) hK rfl rfl)
  case stop =>
    rintro D hi c pre W' hD hDh hpre ⟨⟨c2, c3⟩, hst, rfl, x, hx, hx0⟩ hK
    have hok : daysOk s = false := by
      rw [Bool.eq_false_iff]
      intro h
      unfold daysOk at h
      rw [List.all_eq_true] at h
      obtain ⟨t, ht⟩ := hpre
      have := of_decide_eq_true (h x (by rw [← ht]; exact List.mem_append_left _ hx))
      exact hx0 this
    have HOK := Lib.hid hok
    clear hx0 hok
    gi_wp2
    refine ⟨by simp, .inl ⟨_, _, rfl, run_takeDeferred hK, ?_⟩⟩
    have r1 := (c2.kept (grownBy_putObj' W' D (.deferred none)) (by simp; omega)).cell
    have r2 := (c3.kept (grownBy_putObj' W' D (.deferred none)) (by simp; omega)).cell
    have hb := (stay_below hst (B := w.heap.size) (fun b h => by omega) (by omega) (by omega))
    refine ⟨.tuple #[.slice none 0 0, .bool false], ?_, _, by rw [HOK.out], (fun _ => rfl), (fun h => by rw [HOK.out] at h; cases h), ?_⟩
    · simp [results, Tryz.f234, go_sem, r1, r2]
    · exact (hBw.trans hb).trans (belowK_b (w := w) (Nat.le_refl _) W' D _ _ (by omega) hK rfl rfl)
end Rul
end Go.Proofs.YtghkalamlcfnnaaGreatDoor
namespace Go.Proofs.YtghkalamlcfnnaaGreatDoor
open Go Go.RowKit Go.Shelf Lmd
namespace Rul
open Er Day Cand
structure E5 (w : World) (e : Nat → Addr) : Prop where
  four : E4 w e
  s0 : Frame.Sent w 1 (tx [116, 101, 120, 116]) (e 0)
theorem E5.below {w w' : World} {e : Nat → Addr} (h : E5 w e) (hb : Below w.heap.size w w') : E5 w' e := ⟨h.four.below hb, h.s0.below hb⟩
def dayC (l : List UInt8) : Nat := if Cal.shapeB l = true then (if Cal.okB (Cal.yOf l) (Cal.mOf l) (Cal.dOf l) = true then 0 else 2) else 1
def dayX (l : List UInt8) : Int := if dayC l = 0 then Cal.num (Cal.yOf l) (Cal.mOf l) (Cal.dOf l) else 0
theorem readDay_five (s : ByteArray) (e : Nat → Addr) (w : World) (he : E5 w e) :
    Calls Tryz.prog 186 #[.string s] w fun e' w' => e' = .returned (.tuple #[.int .i64 (dayX s.data.toList), errV e (dayC s.data.toList)]) ∧ Below w.heap.size w w' := by
  cases hs : Cal.shapeB s.data.toList with
  | false =>
    have hc : dayC s.data.toList = 1 := by unfold dayC; rw [hs]; rfl
    have hx : dayX s.data.toList = 0 := by unfold dayX; rw [hc]; rfl
    rw [hc, hx]
    refine (read_text s (e 0) w hs he.s0.cell).mono ?_
    rintro e' w' ⟨rfl, k, rfl⟩; exact ⟨rfl, below_draw (Below.refl _ _) k⟩
  | true =>
    by_cases ho : Cal.Ok (Cal.yOf s.data.toList) (Cal.mOf s.data.toList) (Cal.dOf s.data.toList)
    · have hc : dayC s.data.toList = 0 := by unfold dayC; rw [if_pos hs, if_pos (Cal.okB_true ho)]
      have hx : dayX s.data.toList = Cal.num (Cal.yOf s.data.toList) (Cal.mOf s.data.toList) (Cal.dOf s.data.toList) := by unfold dayX; rw [if_pos hc]
      rw [hc, hx]
      refine (read_ok s w hs ho).mono ?_
      rintro e' w' ⟨rfl, rfl⟩; exact ⟨rfl, Below.refl _ _⟩
    · have hc : dayC s.data.toList = 2 := by unfold dayC; rw [if_pos hs, if_neg (by rw [Cal.okB_false ho]; decide)]
      have hx : dayX s.data.toList = 0 := by unfold dayX; rw [hc]; rfl
      rw [hc, hx]
      refine (read_bound s (e 1) w hs ho he.four.s1.cell).mono ?_
      rintro e' w' ⟨rfl, k, rfl⟩; exact ⟨rfl, below_draw (Below.refl _ _) k⟩
def ReadsS (w : World) (v : Value) (xs : List ByteArray) : Prop :=
  (xs = [] ∧ ∃ a c, v = .slice a 0 c) ∨ ∃ b off c, v = .slice (some ⟨b, off, none⟩) xs.length c ∧ ∀ (j : Nat) x, xs[j]? = some x → w.cell? ⟨b, off + j, none⟩ = some (.string x)
abbrev countW : List UInt8 := [99, 111, 117, 110, 116]
abbrev untilW : List UInt8 := [117, 110, 116, 105, 108]
def tailB (l : List ByteArray) : Bool :=
  match l with
  | [] => true
  | [k, x] => if k.toList = countW then (numOk x.data.toList && decide (0 < numIs x.data.toList)) else decide (k.toList = untilW)
  | _ => false
def tailC (l : List ByteArray) : Nat :=
  match l with
  | [k, x] => if k.toList = countW then 0 else if k.toList = untilW then dayC x.data.toList else 0
  | _ => 0
def tailCt (l : List ByteArray) (ct : Int) : Int :=
  match l with
  | [k, x] => if k.toList = countW then numIs x.data.toList else ct
  | _ => ct
def tailUn (l : List ByteArray) (un : Int) : Int :=
  match l with
  | [k, x] => if k.toList = countW then un else if k.toList = untilW then dayX x.data.toList else un
  | _ => un
def TailEnd (fq : ByteArray) (ev ct un : Int) (v : Value) (b : Nat) (l : List ByteArray) (w w' : World) : Prop :=
  ∃ ct' un', w'.heap[b]? = some (.cells #[.string fq, .int .i64 ev, v, .int .i64 ct', .int .i64 un'] 37 (0, 0)) ∧ (tailB l = true → tailC l = 0 → ct' = tailCt l ct ∧ un' = tailUn l un) ∧ Rng.Stay (fun x => x = b) w.heap.size w w'
set_option maxRecDepth 100000 in
set_option maxHeartbeats 4000000 in
theorem tail_any (fq : ByteArray) (ev ct un : Int) (v : Value) (b : Nat) (l : List ByteArray) (sv : Value) (e : Nat → Addr) (w : World) (he : E5 w e) (hE : ELib w) (htab : Lib.TabIs Tryz.prog w "internal/strconv.uint64pow10" .u64 Lib.pow10Tab)
    (hrow : w.heap[b]? = some (.cells #[.string fq, .int .i64 ev, v, .int .i64 ct, .int .i64 un] 37 (0, 0))) (hl : ReadsS w sv l) (hsz : ∀ x ∈ l, x.size ≤ 1000000) :
    Calls Tryz.prog 235 #[.pointer (some ⟨b, 0, none⟩), sv] w fun e' w' => e' = .returned (.tuple #[.bool (tailB l), errV e (tailC l)]) ∧ TailEnd fq ev ct un v b l w w' := by
  have hcl : ∀ o, w.heap[b]? = some o → o.isCells = true := fun o ho => by rw [hrow] at ho; cases ho; rfl
  rcases l with _ | ⟨k, _ | ⟨x, _ | ⟨y, t⟩⟩⟩
  · -- none
    obtain ⟨a, c, rfl⟩ : ∃ a c, sv = .slice a 0 c := by
      rcases hl with ⟨_, h⟩ | ⟨b', off, c, h, _⟩
      · exact h
      · exact ⟨_, c, h⟩
    simp only [tailB, tailC, errV]
    have HROW := Lib.hid hrow
    clear he hE htab hl hrow hcl
    go_enter Tryz.func235, Tryz.ntmps235
    go_wp2
    go_ret2
    exact ⟨rfl, _, _, HROW.out, (fun _ _ => ⟨rfl, rfl⟩), Rng.Stay.refl _ _ _⟩
  · obtain ⟨b', off, c, rfl, hc⟩ := hl.resolve_left (by rintro ⟨h, _⟩; cases h)
    simp only [tailB, tailC, errV, List.length_cons, List.length_nil]
    have HROW := Lib.hid hrow
    clear he hE htab hc hrow hcl
    go_enter Tryz.func235, Tryz.ntmps235
    go_wp2
    go_ret2
    exact ⟨rfl, _, _, HROW.out, (fun h => by cases h), Rng.Stay.refl _ _ _⟩
  rotate_left
  · obtain ⟨b', off, c, rfl, hc⟩ := hl.resolve_left (by rintro ⟨h, _⟩; cases h)
    simp only [tailB, tailC, errV, List.length_cons]
    have HROW := Lib.hid hrow
    clear he hE htab hc hrow hcl
    go_enter Tryz.func235, Tryz.ntmps235
    go_wp2
    go_ret2
    exact ⟨rfl, _, _, HROW.out, (fun h => by cases h), Rng.Stay.refl _ _ _⟩
  obtain ⟨b', off, c, rfl, hc⟩ := hl.resolve_left (by rintro ⟨h, _⟩; cases h)
  have k0 := hc 0 k rfl
  have k1 := hc 1 x rfl
  simp only [Nat.add_zero] at k0
  have HROW := Lib.hid hrow
  have HCL := Lib.hid hcl
  have HE := Lib.hid he
  have HL := Lib.hid hE
  have HT := Lib.hid htab
  have hxs := hsz x (by simp)
  clear he hE htab hc hrow hcl hl hsz
  by_cases h1 : k.toList = countW
  · have hn := number_any x w hxs HL.out HT.out
    have HN := Lib.hid hn
    have ht1 : tailB [k, x] = (numOk x.data.toList && decide (0 < numIs x.data.toList)) := if_pos h1
    have ht2 : tailC [k, x] = 0 := if_pos h1
    have ht3 : ∀ ct, tailCt [k, x] ct = numIs x.data.toList := fun _ => if_pos h1
    have ht4 : ∀ un, tailUn [k, x] un = un := fun _ => if_pos h1
    rw [ht2]
    obtain ⟨q, hq⟩ : ∃ q, tailB [k, x] = q := ⟨_, rfl⟩
    rw [hq] at ht1 ⊢
    have HT1 := Lib.hid ht1
    simp only [errV]
    have H3 := Lib.hid ht3
    have H4 := Lib.hid ht4
    have HQ := Lib.hid hq
    clear hn ht1 ht2 ht3 ht4 hq
    simp only [countW] at h1
    go_enter Tryz.func235, Tryz.ntmps235
    go_wp2_with fail
    refine HN.out.mono ?_
    rintro e1 w1 ⟨n, rfl, hn, hb1⟩
    have hr1 := row_below HROW.out hb1
    obtain ⟨q0, q1, q2, q3, q4, f3, f4, _⟩ := cells5 hr1
    have HN1 := Lib.hid hn
    have HB1 := Lib.hid hb1
    have HR1 := Lib.hid hr1
    obtain ⟨p, hp⟩ : ∃ p, numOk x.data.toList = p := ⟨_, rfl⟩
    rw [hp] at HN1 HT1 ⊢
    clear hn hb1 hr1 HN
    have hst := (Rng.Stay.of_below (O := fun x => x = b) (hi := w.heap.size) HB1.out).setCell (p := ⟨b, 3, none⟩) (.inl rfl) HCL.out (.int .i64 n)
    have hrw := row_set HR1.out 3 (.int .i64 n)
    have HST := Lib.hid hst
    have HRW := Lib.hid hrw
    clear hst hrw hp
    cases p with
    | false =>
      obtain rfl : q = false := by rw [HT1.out]; rfl
      go_wp2
      go_ret2
      exact ⟨rfl, _, _, HRW.out, (fun h => by rw [HQ.out] at h; cases h), HST.out⟩
    | true =>
      have HNN := Lib.hid (HN1.out rfl)
      clear HN1
      by_cases hn0 : 0 < n
      · obtain rfl : q = true := by rw [HT1.out, ← HNN.out, decide_eq_true hn0]; rfl
        go_wp2
        go_ret2
        exact ⟨rfl, _, _, HRW.out, (fun _ _ => ⟨HNN.out.trans (H3.out _).symm, (H4.out _).symm⟩), HST.out⟩
      · obtain rfl : q = false := by rw [HT1.out, ← HNN.out, decide_eq_false hn0]; rfl
        go_wp2
        go_ret2
        exact ⟨by rw [show decide (0 < n) = false from decide_eq_false (by omega)]; rfl, _, _, HRW.out, (fun h => by rw [HQ.out] at h; cases h), HST.out⟩
  · have h1' : (k.toList == countW) = false := by simpa using h1
    by_cases h2 : k.toList = untilW
    · have hd := readDay_five x e w HE.out
      have HD := Lib.hid hd
      have ht1 : tailB [k, x] = true := (if_neg h1).trans (decide_eq_true h2)
      have ht2 : tailC [k, x] = dayC x.data.toList := (if_neg h1).trans (if_pos h2)
      have ht3 : ∀ ct, tailCt [k, x] ct = ct := fun _ => if_neg h1
      have ht4 : ∀ un, tailUn [k, x] un = dayX x.data.toList := fun _ => (if_neg h1).trans (if_pos h2)
      rw [ht1, ht2]
      have H3 := Lib.hid ht3
      have H4 := Lib.hid ht4
      obtain ⟨dv, hdv⟩ : ∃ dv, dayX x.data.toList = dv := ⟨_, rfl⟩
      obtain ⟨dc, hdc⟩ : ∃ dc, errV e (dayC x.data.toList) = dc := ⟨_, rfl⟩
      rw [hdc] at HD ⊢
      have HV := Lib.hid hdv
      rw [hdv] at HD
      clear hd ht1 ht2 ht3 ht4 hdv hdc
      simp only [countW] at h1'
      simp only [untilW] at h2
      clear h1
      go_enter Tryz.func235, Tryz.ntmps235
      go_wp2_with fail
      refine HD.out.mono ?_
      rintro e1 w1 ⟨rfl, hb1⟩
      have hr1 := row_below HROW.out hb1
      obtain ⟨q0, q1, q2, q3, q4, f3, f4, _⟩ := cells5 hr1
      have hst := (Rng.Stay.of_below (O := fun x => x = b) (hi := w.heap.size) hb1).setCell (p := ⟨b, 4, none⟩) (.inl rfl) HCL.out (.int .i64 dv)
      have hrw := row_set hr1 4 (.int .i64 dv)
      have HST := Lib.hid hst
      have HRW := Lib.hid hrw
      clear hb1 hr1 HD hst hrw
      go_wp2
      go_ret2
      exact ⟨rfl, _, _, HRW.out, (fun _ _ => ⟨(H3.out _).symm, (HV.out ▸ (H4.out _)).symm⟩), HST.out⟩
    · have h2' : (k.toList == untilW) = false := by simpa using h2
      have ht1 : tailB [k, x] = false := (if_neg h1).trans (decide_eq_false h2)
      have ht2 : tailC [k, x] = 0 := (if_neg h1).trans (if_neg h2)
      rw [ht1, ht2]
      have HQ := Lib.hid ht1
      simp only [errV]
      simp only [countW] at h1'
      simp only [untilW] at h2'
      clear h1 h2 ht1 ht2
      go_enter Tryz.func235, Tryz.ntmps235
      go_wp2
      go_ret2
      exact ⟨rfl, _, _, HROW.out, (fun h => by rw [HQ.out] at h; cases h), Rng.Stay.refl _ _ _⟩
end Rul
end Go.Proofs.YtghkalamlcfnnaaGreatDoor
namespace Go.Proofs.YtghkalamlcfnnaaGreatDoor
open Go Go.RowKit Go.Shelf Lmd
namespace Rul
open Er Day Cand
abbrev onceW : List UInt8 := [111, 110, 99, 101]
def headB (L : List ByteArray) : Bool :=
  match L with
  | f :: _ :: _ => !(f.toList == onceW) && Lib.containsS freqs f
  | _ => false
def midOf (L : List ByteArray) : List Int × List ByteArray :=
  match L with
  | d :: t => if daysOk d = true then (daysV d, t) else ([], d :: t)
  | [] => ([], [])
def ruleOf (f n : ByteArray) (t : List ByteArray) : Ru := { fq := f, ev := numIs n.data.toList, ct := tailCt (midOf t).2 0, un := tailUn (midOf t).2 (-1), ds := (midOf t).1 }
def zeroRu : Ru := { fq := ⟨#[]⟩, ev := 0, ct := 0, un := 0, ds := [] }
def readCR (L : List ByteArray) : Nat × Ru :=
  match L with
  | f :: n :: t =>
    if headB L = true ∧ numOk n.data.toList = true then
      (if tailC (midOf t).2 ≠ 0 then (tailC (midOf t).2, zeroRu)
       else if tailB (midOf t).2 = false then (1, zeroRu)
       else if bad (ruleOf f n t) ≠ 0 then (bad (ruleOf f n t), zeroRu) else (0, ruleOf f n t))
    else (1, zeroRu)
  | _ => (1, zeroRu)
def readS (s : ByteArray) : Nat × Ru := if s.toList = onceW then (0, { fq := s, ev := 1, ct := 0, un := -1, ds := [] }) else readCR (pieces 32 s)
theorem splitB_le (sep : ByteArray) : ∀ (k : Nat) (s x : ByteArray), x ∈ Lib.splitB sep 0 k s → x.size ≤ s.size
  | 0, s, x, h => by rw [Lib.splitB_zero] at h; simp at h; rw [h]; exact Nat.le_refl _
  | k + 1, s, x, h => by
    rcases Lib.indexB_cases s sep with hix | ⟨i, hix, hle⟩
    · rw [Lib.splitB_miss _ _ _ _ hix] at h; simp at h; rw [h]; exact Nat.le_refl _
    · rw [Lib.splitB_hit _ _ _ _ i hix] at h
      rcases List.mem_cons.1 h with rfl | h
      · rw [ByteArray.size_extract]; omega
      · have := splitB_le sep k _ x h
        rw [ByteArray.size_extract] at this; omega
theorem pieces_le {c : UInt8} {s x : ByteArray} (h : x ∈ pieces c s) : x.size ≤ s.size := splitB_le _ _ _ _ h
theorem split_any (s : ByteArray) (m : Int) (w : World) (hs : s.size < 4294967281) (hm : w.cell? ⟨12, 0, none⟩ = some (.int .i64 m)) :
    Calls Tryz.prog 132 #[.string s, .string ⟨#[32]⟩] w fun e w' => e = .returned (.slice (some ⟨w.heap.size, 0, none⟩) (pieces 32 s).length (pieces 32 s).length) ∧ w' = w.alloc (.cells ((pieces 32 s).map Value.string).toArray 9) := by
  have hl : (pieces 32 s).length = Lib.countB s ⟨#[32]⟩ + 1 := Lib.splitB_all ⟨#[32]⟩ (Nat.le_refl 1) _ _ _ rfl
  rw [hl]
  exact Tryz.strings_Split s ⟨#[32]⟩ m w hs hm (Nat.le_refl 1)
theorem froz5 {w : World} {b : Nat} {a0 a1 a2 a3 a4 : Value} {t : TypeId} (h : w.heap[b]? = some (.cells #[a0, a1, a2, a3, a4] t (0, 0))) : w.frozen? ⟨b, 0, none⟩ = false ∧ w.frozen? ⟨b, 2, none⟩ = false := by
  simp [World.frozen?, h]
theorem drew_row {W : World} {b : Nat} {o : Obj} (h : W.heap[b]? = some o) : W.drew.heap[b]? = some o := h
theorem below_drew {B : Nat} {a w : World} (h : Below B a w) : Below B a w.drew := below_draw h 1
theorem put5_row {W : World} {b : Nat} {c0 c1 c2 c3 c4 : Value} {t : TypeId} (h : W.heap[b]? = some (.cells #[c0, c1, c2, c3, c4] t (0, 0))) {a0 a1 a2 a3 a4 : Value} : (((((W.setCell ⟨b, 0, none⟩ a0).setCell ⟨b, 1, none⟩ a1).setCell ⟨b, 2, none⟩ a2).setCell ⟨b, 3, none⟩ a3).setCell ⟨b, 4, none⟩ a4).heap[b]? = some (.cells #[a0, a1, a2, a3, a4] t (0, 0)) :=
  row_set (row_set (row_set (row_set (row_set h 0 a0) 1 a1) 2 a2) 3 a3) 4 a4
theorem put5_rowD {W : World} {b : Nat} {c0 c1 c2 c3 c4 : Value} {t : TypeId} (h : W.heap[b]? = some (.cells #[c0, c1, c2, c3, c4] t (0, 0))) {a0 a1 a2 a3 a4 : Value} : (((((W.setCell ⟨b, 0, none⟩ a0).setCell ⟨b, 1, none⟩ a1).setCell ⟨b, 2, none⟩ a2).setCell ⟨b, 3, none⟩ a3).setCell ⟨b, 4, none⟩ a4).drew.heap[b]? = some (.cells #[a0, a1, a2, a3, a4] t (0, 0)) := drew_row (put5_row h)
theorem put5_below {B b : Nat} {w W : World} (h : Below B w W) (hb : B ≤ b) {a0 a1 a2 a3 a4 : Value} : Below B w (((((W.setCell ⟨b, 0, none⟩ a0).setCell ⟨b, 1, none⟩ a1).setCell ⟨b, 2, none⟩ a2).setCell ⟨b, 3, none⟩ a3).setCell ⟨b, 4, none⟩ a4) :=
  ((((h.setCell (p := ⟨b, 0, none⟩) hb a0).setCell (p := ⟨b, 1, none⟩) hb a1).setCell (p := ⟨b, 2, none⟩) hb a2).setCell (p := ⟨b, 3, none⟩) hb a3).setCell (p := ⟨b, 4, none⟩) hb a4
theorem put5_belowD {B b : Nat} {w W : World} (h : Below B w W) (hb : B ≤ b) {a0 a1 a2 a3 a4 : Value} : Below B w (((((W.setCell ⟨b, 0, none⟩ a0).setCell ⟨b, 1, none⟩ a1).setCell ⟨b, 2, none⟩ a2).setCell ⟨b, 3, none⟩ a3).setCell ⟨b, 4, none⟩ a4).drew := below_drew (put5_below h hb)
theorem put5_far {W : World} {b : Nat} {a0 a1 a2 a3 a4 : Value} {k : Nat} (h : k ≠ b) : (((((W.setCell ⟨b, 0, none⟩ a0).setCell ⟨b, 1, none⟩ a1).setCell ⟨b, 2, none⟩ a2).setCell ⟨b, 3, none⟩ a3).setCell ⟨b, 4, none⟩ a4).heap[k]? = W.heap[k]? := by
  rw [Below.heap_setCell _ _ _ _ h, Below.heap_setCell _ _ _ _ h, Below.heap_setCell _ _ _ _ h, Below.heap_setCell _ _ _ _ h, Below.heap_setCell _ _ _ _ h]
theorem reads_stay {O : Nat → Prop} {hi : Nat} {w w' : World} {v : Value} {xs : List Int} (h : Ints.Reads w v xs) (hs : Rng.Stay O hi w w') (hv : ∀ b o n c, v = .slice (some ⟨b, o, none⟩) n c → n ≠ 0 → ¬ O b) (hh : w.heap.size ≤ hi) : Ints.Reads w' v xs := by
  rcases h with ⟨h1, h2⟩ | ⟨b, off, cap, rfl, hc⟩
  · exact .inl ⟨h1, h2⟩
  · refine .inr ⟨b, off, cap, rfl, fun i hi' => ?_⟩
    have hc1 := hc i hi'
    exact stay_cell hs hc1 (hv _ _ _ _ rfl (by omega)) (by have := cell_lt hc1; omega)
theorem drew_cell {W : World} {p : Addr} {v : Value} (h : W.cell? p = some v) : W.drew.cell? p = some v := h
theorem put5_reads {W : World} {b : Nat} {a0 a1 a2 a3 a4 v : Value} {xs : List Int} (hr : Ints.Reads W v xs) (hv : ∀ k o n c, v = .slice (some ⟨k, o, none⟩) n c → n ≠ 0 → k ≠ b) :
    Ints.Reads (((((W.setCell ⟨b, 0, none⟩ a0).setCell ⟨b, 1, none⟩ a1).setCell ⟨b, 2, none⟩ a2).setCell ⟨b, 3, none⟩ a3).setCell ⟨b, 4, none⟩ a4) v xs := by
  rcases hr with ⟨h1, h2⟩ | ⟨k, off, cap, rfl, hc⟩
  · exact .inl ⟨h1, h2⟩
  · refine .inr ⟨k, off, cap, rfl, fun i hi => ?_⟩
    have hc1 := hc i hi
    rw [← hc1]
    simp only [World.cell?]
    rw [put5_far (hv _ _ _ _ rfl (by omega))]
theorem reads_drew {w : World} {v : Value} {xs : List Int} (h : Ints.Reads w v xs) : Ints.Reads w.drew v xs := h
theorem res_read {W : World} {b : Nat} {a0 a1 a2 a3 a4 er : Value} {tmps : Array Value} (h : W.heap[b]? = some (.cells #[a0, a1, a2, a3, a4] 37 (0, 0))) (h2 : tmps.getD 2 undef = .pointer (some ⟨b, 0, none⟩)) (h3 : tmps.getD 3 undef = er) :
    (results Tryz.f188 tmps).run Tryz.prog W = .ok (.tuple #[.agg #[a0, a1, a2, a3, a4], er]) W := by
  obtain ⟨q0, q1, q2, q3, q4, _⟩ := cells5 h
  have h2' : tmps[2]?.getD undef = .pointer (some ⟨b, 0, none⟩) := by simpa using h2
  have h3' : tmps[3]?.getD undef = er := by simpa using h3
  simp [results, Tryz.f188, go_sem, h2', h3', q0, q1, q2, q3, q4]
set_option maxRecDepth 100000 in
set_option maxHeartbeats 8000000 in
theorem readF_any (s : ByteArray) (m : Int) (e : Nat → Addr) (w : World) (hs : s.size ≤ 30000) (he : E5 w e) (hE : ELib w) (htab : Lib.TabIs Tryz.prog w "internal/strconv.uint64pow10" .u64 Lib.pow10Tab) (hm : w.cell? ⟨12, 0, none⟩ = some (.int .i64 m)) :
    Calls Tryz.prog 188 #[.string s] w fun e' w' => ∃ v, e' = .returned (.tuple #[.agg #[.string (readS s).2.fq, .int .i64 (readS s).2.ev, v, .int .i64 (readS s).2.ct, .int .i64 (readS s).2.un], errV e (readS s).1]) ∧ Ints.Reads w' v (readS s).2.ds ∧ (∀ b o n c, v = .slice (some ⟨b, o, none⟩) n c → n ≠ 0 → w.heap.size ≤ b) ∧ Below w.heap.size w w' := by
  obtain ⟨R, hR⟩ : ∃ R, readS s = R := ⟨_, rfl⟩
  rw [hR]
  have HR := Lib.hid hR
  clear hR
  have x0 := heap_new w (.cells #[.string ⟨#[]⟩, .int .i64 0, .slice none 0 0, .int .i64 0, .int .i64 0] 37)
  by_cases ho : s.toList = onceW
  · have hr : R = (0, { fq := s, ev := 1, ct := 0, un := -1, ds := [] }) := by rw [← HR.out, readS, if_pos ho]
    subst hr
    simp only [errV]
    simp only [onceW] at ho
    obtain ⟨q0, q1, q2, q3, q4, f3, f4, f1⟩ := cells5 x0
    go_enter Tryz.func188, Tryz.ntmps188
    go_wp2
    refine bodyPost_ret (v := .tuple #[.agg #[.string s, .int .i64 1, .slice none 0 0, .int .i64 0, .int .i64 (-1)], .nilIface]) ?_ rfl ?_
    · simp [results, Tryz.f188, go_sem]
    · exact ⟨_, rfl, .inl ⟨rfl, none, 0, rfl⟩, (fun b o n c h => by cases h), (Below.refl _ w).alloc (Nat.le_refl _) _⟩
  · have ho' : (s.toList == [111, 110, 99, 101]) = false := by simpa using ho
    obtain ⟨L, hL⟩ : ∃ L, pieces 32 s = L := ⟨_, rfl⟩
    have hr : R = readCR L := by rw [← HR.out, readS, if_neg ho, hL]
    obtain ⟨w1, hw1⟩ : ∃ w1, w.alloc (.cells #[.string ⟨#[]⟩, .int .i64 0, .slice none 0 0, .int .i64 0, .int .i64 0] 37) = w1 := ⟨_, rfl⟩
    have hb1 : Below w.heap.size w w1 := by rw [← hw1]; exact (Below.refl _ w).alloc (Nat.le_refl _) _
    have hz1 : w1.heap.size = w.heap.size + 1 := by rw [← hw1]; simp
    rw [hw1] at x0
    have hsp := split_any s m w1 (by omega) (cell_later hb1 hm)
    rw [hL] at hsp
    have HSP := Lib.hid hsp
    have HRR := Lib.hid hr
    have HB1 := Lib.hid hb1
    have hx0 := x0
    have HX0 := Lib.hid hx0
    have HE := Lib.hid he
    have HEL := Lib.hid hE
    have HT := Lib.hid htab
    have HL := Lib.hid hL
    clear hsp hr hb1 hx0 x0 he hE htab hL ho HR
    go_enter Tryz.func188, Tryz.ntmps188
    go_wp2_with fail
    refine HSP.out.mono ?_
    rintro e1 w2 ⟨rfl, hw2⟩
    have x2 := heap_new w1 (.cells (L.map Value.string).toArray 9)
    have hb2 : Below w1.heap.size w1 w2 := by rw [hw2]; exact (Below.refl _ w1).alloc (Nat.le_refl _) _
    rw [← hw2] at x2
    have hc2 : ∀ (j : Nat) x, L[j]? = some x → w2.cell? ⟨w.heap.size + 1, j, none⟩ = some (.string x) := fun j x hx => by rw [← hz1]; exact cell_of x2 (by simp [hx])
    have hx02 := row_below HX0.out hb2
    have HC2 := Lib.hid hc2
    have HB2 := Lib.hid (HB1.out.trans (hb2.mono (by omega)))
    have HX02 := Lib.hid hx02
    have hz2 : w1.heap.size < w2.heap.size := by rw [hw2]; simp
    clear hx02 hc2 hb2 x2 hw2 HSP HX0 HB1
    go_upto_region 4 with fail
    go_cut [33] from 17 (fun s33 wc => s33 = .bool (!headB L) ∧ Below w2.heap.size w2 wc)
    case first =>
      by_cases hlt : L.length < 2
      · have hd : decide ((L.length : Int) < 2) = true := decide_eq_true (by omega)
        have hh : headB L = false := by
          rcases L with _ | ⟨f, _ | ⟨n, t⟩⟩
          · rfl
          · rfl
          · simp at hlt; omega
        have HH := Lib.hid hh
        clear hh hlt
        go_quiet (fail)
        go_wp2_with fail
        go_meet
        exact ⟨by rw [HH.out]; rfl, below_draw (Below.refl _ w2) _⟩
      · obtain ⟨f, hf0, hh⟩ : ∃ f, L[0]? = some f ∧ headB L = (!(f.toList == [111, 110, 99, 101]) && Lib.containsS freqs f) := by
          rcases L with _ | ⟨f, _ | ⟨n, t⟩⟩
          · simp at hlt
          · simp at hlt
          · exact ⟨f, rfl, rfl⟩
        have hd : decide ((L.length : Int) < 2) = false := decide_eq_false (by omega)
        have hl0 : (0 : Int) < (L.length : Int) := by omega
        have k0 := HC2.out 0 f hf0
        have HH := Lib.hid hh
        clear hh hlt hf0
        cases hf : (f.toList == [111, 110, 99, 101]) with
        | true =>
          go_quiet (fail)
          go_wp2_with fail
          go_meet
          exact ⟨by rw [HH.out, hf]; rfl, below_draw (Below.refl _ w2) _⟩
        | false =>
          have hF := heap_new w2 (.cells freqsV 9)
          have HF := Lib.hid hF
          clear hF
          have k0b : (w2.alloc (.cells freqsV 9)).cell? ⟨w.heap.size + 1, 0, none⟩ = some (.string f) := cell_later ((Below.refl _ w2).alloc (Nat.le_refl _) _) k0
          obtain ⟨c, hc⟩ : ∃ c, Lib.containsS freqs f = c := ⟨_, rfl⟩
          have HC := Lib.hid hc
          clear hc
          go_region_with (first
            | (go_at_call 167; refine (freqs_new _).mono ?_; rintro e1 w1 ⟨rfl, rfl⟩)
            | (go_at_call 100; refine (freqs_has _ _ (by exact HF.out) _).mono ?_; rw [HC.out]; rintro e1 w1 ⟨rfl, rfl⟩))
          all_goals go_wp2_with fail
          all_goals go_meet
          all_goals exact ⟨by rw [HH.out, hf, HC.out]; rfl, below_draw ((Below.refl _ w2).alloc (Nat.le_refl _) _) 1⟩
    case rest =>
      obtain ⟨rfl, hbc⟩ := hcut
      obtain ⟨b, hb⟩ : ∃ b, headB L = b := ⟨_, rfl⟩
      rw [hb]
      have hbw := HB2.out.trans (hbc.mono (by omega))
      have hx3 := row_below HX02.out hbc
      have HBW := Lib.hid hbw
      have HX3 := Lib.hid hx3
      have HC3 := Lib.hid (fun j x h => cell_later hbc (HC2.out j x h))
      have HZ := Lib.hid hb
      obtain ⟨q0, q1, q2, q3, q4, f3, f4, f1⟩ := cells5 hx3
      obtain ⟨f0, f2⟩ := froz5 hx3
      have hzc : w.heap.size + 1 < wc.heap.size := by have := hbc.size; omega
      clear hbc hbw hx3 hb HC2 HB2 HX02
      cases b with
      | false =>
        have hr : R = (1, zeroRu) := by
          rw [HRR.out]
          rcases L with _ | ⟨f, _ | ⟨n, t⟩⟩
          · rfl
          · rfl
          · simp only [readCR, HZ.out]; exact if_neg (by simp)
        subst hr
        have cE := (HE.out.below HBW.out).s0.cell
        have hgl : 1 < w.heap.size := cell_lt HE.out.s0.cell
        clear HRR
        go_upto_region 5 with fail
        go_cut [3] from 34 (fun s3 wx => s3 = Er.ev (e 0) ∧ wx.heap[w.heap.size]? = some (.cells #[.string ⟨#[]⟩, .int .i64 0, .slice none 0 0, .int .i64 0, .int .i64 0] 37 (0, 0)) ∧ Below w.heap.size w wx)
        case first =>
          go_region_with (fail)
          all_goals go_wp2_with fail
          all_goals go_meet
          all_goals exact ⟨rfl, put5_rowD HX3.out, put5_belowD HBW.out (Nat.le_refl _)⟩
        case rest =>
          obtain ⟨rfl, hrow, hbx⟩ := hcut
          go_wp2
          exact bodyPost_ret (res_read hrow rfl rfl) rfl ⟨_, rfl, .inl ⟨rfl, none, 0, rfl⟩, (fun b o n c h => by cases h), hbx⟩
      | true =>
        obtain ⟨f, n, t, rfl⟩ : ∃ f n t, L = f :: n :: t := by
          rcases L with _ | ⟨f, _ | ⟨n, t⟩⟩
          · exact absurd HZ.out (by decide)
          · exact absurd HZ.out (by simp [headB])
          · exact ⟨f, n, t, rfl⟩
        have hLs : ∀ x ∈ f :: n :: t, x.size ≤ 30000 := fun x hx => by
          rw [← HL.out] at hx
          exact Nat.le_trans (pieces_le hx) hs
        have k0 := HC3.out 0 f rfl
        have k1 := HC3.out 1 n rfl
        have hn := number_any n wc (Nat.le_trans (hLs n (by simp)) (by decide)) (HEL.out.below HBW.out) (Frame.tab_below (g := 15) (by kernel_rfl) HBW.out HT.out)
        have HN := Lib.hid hn
        have HLS := Lib.hid hLs
        obtain ⟨N, hN⟩ : ∃ N, (f :: n :: t).length = N := ⟨_, rfl⟩
        rw [hN]
        have hN2 : N = t.length + 1 + 1 := hN.symm
        have hl0 : (0 : Int) < (N : Int) := by omega
        have hl1 : (1 : Int) < (N : Int) := by omega
        have HN2 := Lib.hid hN2
        obtain ⟨q, hq⟩ : ∃ q, numOk n.data.toList = q := ⟨_, rfl⟩
        rw [hq] at HN
        have HQ := Lib.hid hq
        clear hn hLs hN hN2 hq
        go_wp2_with fail
        refine HN.out.mono ?_
        rintro e2 w3 ⟨nn, rfl, hnn, hb3⟩
        have hx4 := row_below HX3.out hb3
        have hbw3 := HBW.out.trans (hb3.mono (by omega))
        have HX4 := Lib.hid hx4
        have HBW2 := Lib.hid hbw3
        have HC4 := Lib.hid (fun j x h => cell_later hb3 (HC3.out j x h))
        have hz3 := hb3.size
        obtain ⟨q0, q1, q2, q3, q4, f3, f4, f1⟩ := cells5 hx4
        obtain ⟨f0, f2⟩ := froz5 hx4
        have hzc3 : w.heap.size + 1 < w3.heap.size := by omega
        have HNN := Lib.hid hnn
        replace k0 := HC4.out 0 f rfl
        replace k1 := HC4.out 1 n rfl
        clear hx4 hbw3 HC3 HX3 hb3 HBW HN hnn
        cases q with
        | false =>
          have hr : R = (1, zeroRu) := by
            rw [HRR.out]
            simp only [readCR, HQ.out]; exact if_neg (by simp)
          subst hr
          have cE := (HE.out.below HBW2.out).s0.cell
          have hgl : 1 < w.heap.size := cell_lt HE.out.s0.cell
          clear HRR
          go_upto_region 8 with fail
          go_cut [3] from 45 (fun s3 wx => s3 = Er.ev (e 0) ∧ wx.heap[w.heap.size]? = some (.cells #[.string ⟨#[]⟩, .int .i64 0, .slice none 0 0, .int .i64 0, .int .i64 0] 37 (0, 0)) ∧ Below w.heap.size w wx)
          case first =>
            go_region_with (fail)
            all_goals go_wp2_with fail
            all_goals go_meet
            all_goals exact ⟨rfl, put5_rowD HX4.out, put5_belowD HBW2.out (Nat.le_refl _)⟩
          case rest =>
            obtain ⟨rfl, hrow, hbx⟩ := hcut
            go_wp2
            exact bodyPost_ret (res_read hrow rfl rfl) rfl ⟨_, rfl, .inl ⟨rfl, none, 0, rfl⟩, (fun b o n c h => by cases h), hbx⟩
        | true =>
          have HNU := Lib.hid (HNN.out rfl)
          clear HNN
          have hRu : R = (if tailC (midOf t).2 ≠ 0 then (tailC (midOf t).2, zeroRu)
              else if tailB (midOf t).2 = false then (1, zeroRu)
              else if bad (ruleOf f n t) ≠ 0 then (bad (ruleOf f n t), zeroRu) else (0, ruleOf f n t)) := by
            rw [HRR.out]
            simp only [readCR, HZ.out, HQ.out]
            exact if_pos ⟨trivial, trivial⟩
          go_upto_if 56 with fail
          obtain ⟨w4, hw4⟩ : ∃ w4, w3.alloc (.cells #[.string f, .int .i64 nn, .slice none 0 0, .int .i64 0, .int .i64 (-1)] 37) = w4 := ⟨_, rfl⟩
          have x4 := heap_new w3 (.cells #[.string f, .int .i64 nn, .slice none 0 0, .int .i64 0, .int .i64 (-1)] 37)
          have hb4 : Below w3.heap.size w3 w4 := by rw [← hw4]; exact (Below.refl _ w3).alloc (Nat.le_refl _) _
          have hz4 : w4.heap.size = w3.heap.size + 1 := by rw [← hw4]; simp
          rw [hw4] at x4 ⊢
          have HB4 := Lib.hid hb4
          have HX40 := Lib.hid x4
          have HC5 := Lib.hid (fun j x h => cell_later hb4 (HC4.out j x h))
          clear hw4 x4 hb4 HC4 k0 k1 q0 q1 q2 q3 q4 f0 f1 f2 f3 f4
          generalize hptr : (if N = 2 then some (⟨w.heap.size + 1, 0, none⟩ : Addr) else some ⟨w.heap.size + 1, 2, none⟩) = ptr
          generalize hM : N - 2 = M
          have hMt : M = t.length := by have := HN2.out; omega
          have HP := Lib.hid hptr
          have HM := Lib.hid hMt
          have HM2 := Lib.hid hM
          clear hptr hM hMt hl0 hl1
          go_cut [4] from 52 (fun s4 wx => ∃ v, ReadsS wx s4 (midOf t).2 ∧ wx.heap[w3.heap.size]? = some (.cells #[.string f, .int .i64 nn, v, .int .i64 0, .int .i64 (-1)] 37 (0, 0)) ∧ Ints.Reads wx v (midOf t).1 ∧ (∀ b o n c, v = .slice (some ⟨b, o, none⟩) n c → n ≠ 0 → w3.heap.size < b) ∧ Below w3.heap.size w3 wx)
          case first =>
            cases t with
            | nil =>
              obtain rfl : M = 0 := HM.out
              go_wp2_with fail
              go_meet
              exact ⟨.slice none 0 0, .inl ⟨rfl, _, _, rfl⟩, HX40.out, .inl ⟨rfl, none, 0, rfl⟩, (fun b o n c h => by cases h), HB4.out⟩
            | cons d t =>
              obtain rfl : ptr = some ⟨w.heap.size + 1, 2, none⟩ := by
                rw [← HP.out]
                exact if_neg (by have := HN2.out; simp at this; omega)
              have hM0 : 0 < M := by have := HM.out; simp at this; omega
              have hM1 : (0 : Int) < (M : Int) := by omega
              have hM2 : (1 : Int) ≤ (M : Int) := by omega
              have hM3 : 1 ≤ M := by omega
              have k2 := HC5.out 2 d rfl
              have hd := days_any d w4 (Nat.le_trans (HLS.out d (by simp)) (by decide))
              have HD := Lib.hid hd
              clear hd
              go_wp2_with fail
              refine HD.out.mono ?_
              rintro e3 w5 ⟨v, rfl, hv0, hv1, hb5⟩
              have hx5 := row_below HX40.out hb5
              have hs5 := hb5.size
              have hb35 := HB4.out.trans (hb5.mono HB4.out.size)
              have hc6 := fun j x h => cell_later hb5 (HC5.out j x h)
              have HC6 := Lib.hid hc6
              have HX5 := Lib.hid hx5
              have HB5 := Lib.hid hb35
              have HV := Lib.hid (And.intro hv0 hv1)
              have HMO := Lib.hid HM.out
              obtain ⟨ok, hok⟩ : ∃ ok, daysOk d = ok := ⟨_, rfl⟩
              rw [hok] at HV ⊢
              have HOK := Lib.hid hok
              clear hx5 hb5 hb35 hc6 hv0 hv1 hok HD k2
              cases ok with
              | false =>
                have hm : midOf (d :: t) = ([], d :: t) := by simp only [midOf, HOK.out]; rfl
                have HMID := Lib.hid hm
                clear hm
                go_wp2_with fail
                go_meet
                rw [HMID.out]
                refine ⟨.slice none 0 0, .inr ⟨w.heap.size + 1, 2, M, by rw [HMO.out], fun j x hx => ?_⟩, HX5.out, .inl ⟨rfl, none, 0, rfl⟩, (fun b o n c h => by cases h), HB5.out⟩
                rw [Nat.add_comm 2 j]
                exact HC6.out (j + 2) x (by simpa using hx)
              | true =>
                have hm : midOf (d :: t) = (daysV d, t) := by simp only [midOf, HOK.out]; rfl
                have HMID := Lib.hid hm
                clear hm
                obtain ⟨q0, q1, q2, q3, q4, f3, f4, f1⟩ := cells5 HX5.out
                obtain ⟨f0, f2⟩ := froz5 HX5.out
                have HV2 := Lib.hid (HV.out.2 rfl)
                clear HV
                obtain ⟨va, vc, rfl⟩ := HV2.out.1.shape
                obtain ⟨dl, hdl⟩ : ∃ dl, (daysV d).length = dl := ⟨_, rfl⟩
                rw [hdl] at HV2 ⊢
                clear hdl
                go_wp2_with fail
                go_region_with (fail)
                all_goals go_wp2_with fail
                all_goals go_meet
                all_goals (
                  rw [HMID.out]
                  have hne : ∀ b o n c, Value.slice va dl vc = .slice (some ⟨b, o, none⟩) n c → w3.heap.size < b := fun b o n c h => by have := HV2.out.2 b o n c h; omega
                  have hst5 : Rng.Stay (fun x => x = w3.heap.size) w5.heap.size w5 (w5.setCell ⟨w3.heap.size, 2, none⟩ (.slice va dl vc))  := (Rng.Stay.refl (fun x => x = w3.heap.size) w5.heap.size w5).setCell (p := ⟨w3.heap.size, 2, none⟩) (.inl rfl) (fun o ho => by rw [HX5.out] at ho; cases ho; rfl) _
                  have hml : M = t.length + 1 := HMO.out
                  have hrd := reads_drew (reads_stay HV2.out.1 hst5 (fun b o n c h _ => Nat.ne_of_gt (hne b o n c h)) (Nat.le_refl _))
                  refine ⟨.slice va dl vc, ?_, drew_row (row_set HX5.out 2 _), hrd, (fun b o n c h _ => hne b o n c h), below_drew (HB5.out.setCell (p := ⟨w3.heap.size, 2, none⟩) (Nat.le_refl _) _)⟩
                  by_cases htn : t = []
                  · first | exact .inl ⟨htn, _, _, rfl⟩ | (exfalso; rw [htn] at hml; simp at hml; omega)
                  · have htl : 0 < t.length := List.length_pos_iff.2 htn
                    first
                      | (exfalso; omega)
                      | (refine .inr ⟨w.heap.size + 1, 3, M - 1, by rw [hml]; rfl, fun j x hx => ?_⟩
                         have h6 := HC6.out (j + 3) x (by simpa using hx)
                         rw [Nat.add_comm j 3] at h6
                         exact drew_cell (stay_cell (p := ⟨w.heap.size + 1, 3 + j, none⟩) hst5 h6 (by show ¬ w.heap.size + 1 = w3.heap.size; omega) (by show w.heap.size + 1 < w5.heap.size; omega))))
          case rest =>
            obtain ⟨v, hrs, hrow, hrv, hvb, hbx⟩ := hcut
            have hbw := HBW2.out.trans (hbx.mono (by omega))
            have hrow0 : wc.heap[w.heap.size]? = _ := (hbx.block _ (by omega)).trans HX4.out
            have HBW3 := Lib.hid hbw
            have HROW0 := Lib.hid hrow0
            have ht := tail_any f nn 0 (-1) v w3.heap.size (midOf t).2 u4 e wc (HE.out.below hbw) (HEL.out.below hbw) (Frame.tab_below (g := 15) (by kernel_rfl) hbw HT.out) hrow hrs ?hsz
            case hsz =>
              intro x hx
              refine Nat.le_trans (HLS.out x ?_) (by decide)
              refine List.mem_cons_of_mem _ (List.mem_cons_of_mem _ ?_)
              cases t with
              | nil => simp [midOf] at hx
              | cons d t =>
                simp only [midOf] at hx
                split at hx
                · exact List.mem_cons_of_mem _ hx
                · exact hx
            have HTL := Lib.hid ht
            have HRV := Lib.hid hrv
            have HVB := Lib.hid hvb
            have HBX := Lib.hid hbx
            clear ht hrs hrow hrv hvb hbx hbw hrow0 HB4 HX40 HC5
            go_wp2_with fail
            refine HTL.out.mono ?_
            rintro e4 w6 ⟨rfl, ct', un', hr6, hcu, hst⟩
            have hr6' := hr6
            obtain ⟨q0, q1, q2, q3, q4, f3, f4, f1⟩ := cells5 hr6
            have hrow6 : w6.heap[w.heap.size]? = _ := (hst.same w.heap.size _ HROW0.out (.inr ⟨by omega, by have := HBX.out.size; omega⟩))
            have hbw6 : Below w.heap.size w w6 := HBW3.out.trans (stay_below hst (fun b hb => by omega) (by have := HBW3.out.size; omega) (by have := HBW3.out.size; omega))
            have hrv6 := reads_stay HRV.out hst (fun b o n c h1 h2 => Nat.ne_of_gt (HVB.out b o n c h1 h2)) (Nat.le_refl _)
            obtain ⟨z0, z1, z2, z3, z4, g3, g4, g1⟩ := cells5 hrow6
            obtain ⟨g0, g2⟩ := froz5 hrow6
            have HR6 := Lib.hid hr6
            have HROW6 := Lib.hid hrow6
            have HBW6 := Lib.hid hbw6
            have HRV6 := Lib.hid hrv6
            have HCU := Lib.hid hcu
            have HRU := Lib.hid hRu
            clear hr6 hr6' hrow6 hbw6 hrv6 hcu hst HTL HRV hRu
            obtain ⟨tb, htb⟩ : ∃ tb, tailB (midOf t).2 = tb := ⟨_, rfl⟩
            obtain ⟨tc, htc⟩ : ∃ tc, tailC (midOf t).2 = tc := ⟨_, rfl⟩
            rw [htb, htc] at HCU ⊢
            have HTB := Lib.hid htb
            have HTC := Lib.hid htc
            clear htb htc
            cases tc with
            | succ tc =>
              have hr : R = (tc + 1, zeroRu) := by rw [HRU.out, if_pos (by rw [HTC.out]; omega), HTC.out]
              subst hr
              simp only [errV]
              go_wp2
              exact bodyPost_ret (res_read (put5_row HROW6.out) rfl rfl) rfl ⟨_, rfl, .inl ⟨rfl, none, 0, rfl⟩, (fun b o n c h => by cases h), put5_below HBW6.out (Nat.le_refl _)⟩
            | zero =>
              cases tb with
              | false =>
                have hr : R = (1, zeroRu) := by rw [HRU.out, if_neg (by rw [HTC.out]; omega), if_pos HTB.out]
                subst hr
                simp only [errV]
                have cE := (HE.out.below HBW6.out).s0.cell
                go_wp2
                exact bodyPost_ret (res_read (put5_row HROW6.out) rfl rfl) rfl ⟨_, rfl, .inl ⟨rfl, none, 0, rfl⟩, (fun b o n c h => by cases h), put5_below HBW6.out (Nat.le_refl _)⟩
              | true =>
                obtain ⟨h1, h2⟩ := HCU.out rfl rfl
                have hln : (midOf t).1.length < 50000 := by
                  cases t with
                  | nil => simp [midOf]
                  | cons d t =>
                    simp only [midOf]
                    split
                    · have h3 := pieces_len 44 d
                      have h4 := HLS.out d (by simp)
                      simp only [daysV, List.length_map]; omega
                    · simp
                have hck := chk_any (ruleOf f n t) v e w6 (HE.out.below HBW6.out).four HRV6.out hln
                have hru : R = if bad (ruleOf f n t) ≠ 0 then (bad (ruleOf f n t), zeroRu) else (0, ruleOf f n t) := by
                  rw [HRU.out, if_neg (by rw [HTC.out]; omega), if_neg (by rw [HTB.out]; decide)]
                have e1 : (ruleOf f n t).ev = nn := HNU.out.symm
                have e2 : (ruleOf f n t).ct = ct' := h1.symm
                have e3 : (ruleOf f n t).un = un' := h2.symm
                have e0 : (ruleOf f n t).fq = f := rfl
                have e4 : (ruleOf f n t).ds = (midOf t).1 := rfl
                obtain ⟨ru, hrr⟩ : ∃ ru, ruleOf f n t = ru := ⟨_, rfl⟩
                rw [hrr] at hck hru e0 e1 e2 e3 e4
                rw [e0, e1, e2, e3] at hck
                obtain ⟨bq, hbq⟩ : ∃ bq, bad ru = bq := ⟨_, rfl⟩
                rw [hbq] at hck hru
                have HCK := Lib.hid hck
                have HRR2 := Lib.hid hru
                have HE4 := Lib.hid (And.intro e0 (And.intro e1 (And.intro e2 (And.intro e3 e4))))
                clear h1 h2 hln hck hru e0 e1 e2 e3 e4 hrr hbq HRU HCU
                simp only [errV]
                go_wp2_with fail
                refine HCK.out.mono ?_
                rintro e5 w7 ⟨rfl, hb7⟩
                have hr7 := row_below HR6.out hb7
                have hrow7 := row_below HROW6.out hb7
                have HBW7 := Lib.hid (HBW6.out.trans (hb7.mono HBW6.out.size))
                have HRV7 := Lib.hid (HRV6.out.below hb7)
                obtain ⟨q0, q1, q2, q3, q4, f3, f4, f1⟩ := cells5 hr7
                obtain ⟨f0, f2⟩ := froz5 hr7
                obtain ⟨z0, z1, z2, z3, z4, g3, g4, g1⟩ := cells5 hrow7
                obtain ⟨g0, g2⟩ := froz5 hrow7
                have HROW7 := Lib.hid hrow7
                have HZ7 := Lib.hid hz3
                clear hr7 hrow7 hb7 HCK HR6 HROW6 HBW6 HRV6
                obtain ⟨rfl, rfl, rfl, rfl, e4⟩ := HE4.out
                have HE5 := Lib.hid e4
                clear e4
                cases bq with
                | succ bq =>
                  have hr : R = (bq + 1, zeroRu) := by rw [HRR2.out, if_pos (by omega)]
                  subst hr
                  simp only [errV]
                  go_wp2
                  exact bodyPost_ret (res_read (put5_row HROW7.out) rfl rfl) rfl ⟨_, rfl, .inl ⟨rfl, none, 0, rfl⟩, (fun b o n c h => by cases h), put5_below HBW7.out (Nat.le_refl _)⟩
                | zero =>
                  have hr : R = (0, ru) := by rw [HRR2.out, if_neg (by omega)]
                  subst hr
                  simp only [errV]
                  obtain ⟨va, vc, rfl⟩ := HRV7.out.shape
                  obtain ⟨dl, hdl⟩ : ∃ dl, (midOf t).1.length = dl := ⟨_, rfl⟩
                  rw [hdl] at HRV7 HVB q2 ⊢
                  clear hdl
                  go_wp2
                  have hrv := HRV7.out
                  rw [← HE5.out] at hrv
                  exact bodyPost_ret (res_read (put5_row HROW7.out) rfl rfl) rfl ⟨_, rfl, put5_reads hrv (fun b o n c h1 h2 => by have := HVB.out b o n c h1 h2; have := HZ7.out; omega), (fun b o n c h1 h2 => by have := HVB.out b o n c h1 h2; have := HZ7.out; omega), put5_below HBW7.out (Nat.le_refl _)⟩
end Rul
end Go.Proofs.YtghkalamlcfnnaaGreatDoor
namespace Go.Proofs.YtghkalamlcfnnaaGreatDoor
open Go Go.RowKit Go.Shelf Lmd
namespace Rul
open Er Day Cand
theorem idx_name (k : Int) (h0 : 0 ≤ k) (h6 : k ≤ 6) : idxN (nameOf k) = k ∧ (44 : UInt8) ∉ (nameOf k).data.toList ∧ (32 : UInt8) ∉ (nameOf k).data.toList := by
  have hk : k = 0 ∨ k = 1 ∨ k = 2 ∨ k = 3 ∨ k = 4 ∨ k = 5 ∨ k = 6 := by omega
  rcases hk with rfl | rfl | rfl | rfl | rfl | rfl | rfl <;> decide
theorem days_ok {ds : List Int} (h : daysB ds = true) : ∀ k ∈ ds, 0 ≤ k ∧ k ≤ 6 := by
  intro k hk
  have := List.all_eq_true.1 h k hk
  simpa [inB] using this
noncomputable def nms (ds : List Int) : List UInt8 := Lib.join ((ds.map nameOf).map (·.data.toList)) [44]
theorem map_id_of {ds : List Int} (h : ∀ k ∈ ds, 0 ≤ k ∧ k ≤ 6) : (ds.map nameOf).map idxN = ds := by
  induction ds with
  | nil => rfl
  | cons d ds ih =>
    simp only [List.map_cons]
    rw [(idx_name d (h d (by simp)).1 (h d (by simp)).2).1, ih (fun k hk => h k (by simp [hk]))]
theorem pieces_nms {ds : List Int} (h : ∀ k ∈ ds, 0 ≤ k ∧ k ≤ 6) (hn : ds ≠ []) : pieces 44 (mk (nms ds)) = ds.map nameOf := by
  obtain ⟨d, ds, rfl⟩ := List.exists_cons_of_ne_nil hn
  unfold nms
  simp only [List.map_cons]
  rw [pieces_join]
  · simp only [List.map_cons, List.map_map]
    have : ∀ k : Int, mk (nameOf k).data.toList = nameOf k := fun k => (str_mk _).symm
    rw [this]
    congr 1
  · intro y hy
    have hy2 : y ∈ (d :: ds).map fun k => (nameOf k).data.toList := by simpa [List.map_map] using hy
    rw [List.mem_map] at hy2
    obtain ⟨k, hk, rfl⟩ := hy2
    exact (idx_name k (h k hk).1 (h k hk).2).2.1
theorem days_back {ds : List Int} (h : ∀ k ∈ ds, 0 ≤ k ∧ k ≤ 6) (hn : ds ≠ []) : daysOk (mk (nms ds)) = true ∧ daysV (mk (nms ds)) = ds := by
  unfold daysOk daysV
  rw [pieces_nms h hn]
  refine ⟨?_, map_id_of h⟩
  rw [List.all_map, List.all_eq_true]
  intro k hk
  show decide (0 ≤ idxN (nameOf k)) = true
  rw [(idx_name k (h k hk).1 (h k hk).2).1]
  exact decide_eq_true (h k hk).1
theorem nms_free {ds : List Int} (h : ∀ k ∈ ds, 0 ≤ k ∧ k ≤ 6) : (32 : UInt8) ∉ nms ds := by
  unfold nms
  induction ds with
  | nil => simp [Lib.join]
  | cons d ds ih =>
    have h1 := (idx_name d (h d (by simp)).1 (h d (by simp)).2).2.2
    have h2 := ih (fun k hk => h k (by simp [hk]))
    cases ds with
    | nil => simpa [Lib.join] using h1
    | cons e ds =>
      simp only [List.map_cons, Lib.join] at h2 ⊢
      rw [List.intercalate_cons_cons]
      simp only [List.mem_append, not_or]
      exact ⟨⟨h1, by decide⟩, h2⟩
theorem days_word {x : List UInt8} (h : (44 : UInt8) ∉ x) (hi : idxN (mk x) < 0) : daysOk (mk x) = false := by
  unfold daysOk
  rw [pieces_last h]
  simp; omega
theorem day_back {n y m d : Int} (h : Cal.At n y m d) : dayC (Cal.text y m d) = 0 ∧ dayX (Cal.text y m d) = n ∧ (32 : UInt8) ∉ Cal.text y m d := by
  obtain ⟨ho, hn⟩ := h
  have hr := Cal.ok_range ho
  obtain ⟨hs, h1, h2, h3⟩ := Cal.text_shape y m d (by omega) (by omega) (by omega) (by omega) (by omega) (by omega)
  have hc : dayC (Cal.text y m d) = 0 := by
    unfold dayC
    rw [if_pos hs, h1, h2, h3, if_pos (Cal.okB_true ho)]
  refine ⟨hc, ?_, ?_⟩
  · unfold dayX
    rw [if_pos hc, h1, h2, h3]; exact hn
  · have hdg : ∀ k : Int, 0 ≤ k → k ≤ 9 → Cal.dg k ≠ 32 := fun k a b e => by
      have := Cal.dg_nat k a b
      rw [e] at this
      have h32 : ((32 : UInt8).toNat : Int) = 32 := rfl
      omega
    unfold Cal.text Cal.fourT Cal.twoT
    simp only [List.mem_cons, List.not_mem_nil, or_false, List.cons_append, List.nil_append, not_or]
    refine ⟨?_, ?_, ?_, ?_, by decide, ?_, ?_, by decide, ?_, ?_⟩ <;> exact (hdg _ (by omega) (by omega)).symm
noncomputable def dW (r : Ru) : List (List UInt8) := if r.ds = [] then [] else [nms r.ds]
noncomputable def cW (r : Ru) : List (List UInt8) := if 0 < r.ct then [countW, Lib.itoa r.ct] else []
noncomputable def uW (r : Ru) : List (List UInt8) := if r.un ≠ -1 then [untilW, dayT r.un] else []
theorem text_words (r : Ru) (h : ¬ r.fq.toList = onceW) : textL r = Lib.join (r.fq.data.toList :: Lib.itoa r.ev :: (dW r ++ cW r ++ uW r)) [32] := by
  unfold textL
  rw [if_neg h]
  unfold headL daysL countL untilL dW cW uW Lib.join
  by_cases h1 : r.ds = [] <;> by_cases h2 : 0 < r.ct <;> by_cases h3 : r.un = -1 <;> simp [h1, h2, h3, nms, Lib.join, untilW]
theorem ru_ext {a b : Ru} (h1 : a.fq = b.fq) (h2 : a.ev = b.ev) (h3 : a.ct = b.ct) (h4 : a.un = b.un) (h5 : a.ds = b.ds) : a = b := by
  cases a; cases b; simp_all
theorem words_free (r : Ru) (h : bad r = 0) : ∀ y ∈ r.fq.data.toList :: Lib.itoa r.ev :: (dW r ++ cW r ++ uW r), (32 : UInt8) ∉ y := by
  obtain ⟨h1, h2, h3, h4, h5⟩ := bad_parts h
  obtain ⟨⟨e1, e2⟩, ⟨c1, c2⟩, u1, u2⟩ := bound_parts h2
  intro y hy
  simp only [List.mem_cons, List.mem_append] at hy
  rcases hy with rfl | rfl | (hy | hy) | hy
  · rcases freqs_mem h1 with e | e | e | e | e <;> rw [e] <;> decide
  · exact itoa_free (by omega) (by decide)
  · unfold dW at hy
    split at hy
    · simp at hy
    · simp at hy; subst hy; exact nms_free (days_ok h3)
  · unfold cW at hy
    split at hy
    · simp at hy
      rcases hy with rfl | rfl
      · decide
      · exact itoa_free (by omega) (by decide)
    · simp at hy
  · unfold uW at hy
    split at hy
    · rename_i hu
      simp at hy
      rcases hy with rfl | rfl
      · decide
      · obtain ⟨y, m, d, ha⟩ := Cal.at_exists r.un (by omega) (by omega)
        rw [dayT_at ha]
        exact (day_back ha).2.2
    · simp at hy
theorem toList_mk (l : List UInt8) : (mk l).toList = l := by rw [ByteArray.toList_eq]
theorem tail_back (r : Ru) (h : bad r = 0) : tailC ((cW r ++ uW r).map mk) = 0 ∧ tailB ((cW r ++ uW r).map mk) = true ∧ tailCt ((cW r ++ uW r).map mk) 0 = r.ct ∧ tailUn ((cW r ++ uW r).map mk) (-1) = r.un ∧
    ∀ d t, (cW r ++ uW r).map mk = d :: t → daysOk d = false := by
  obtain ⟨h1, h2, h3, h4, h5⟩ := bad_parts h
  obtain ⟨⟨e1, e2⟩, ⟨c1, c2⟩, u1, u2⟩ := bound_parts h2
  have hcu : r.ct = 0 ∨ r.un = -1 := by
    simp only [shapeB, Bool.and_eq_true, Bool.or_eq_true, decide_eq_true_eq] at h4
    exact h4.2
  have hne : (mk untilW).toList ≠ countW := by rw [toList_mk]; decide
  by_cases hc : 0 < r.ct
  · have hu : r.un = -1 := by omega
    have e : (cW r ++ uW r).map mk = [mk countW, mk (Lib.itoa r.ct)] := by
      unfold cW uW
      rw [if_pos hc, if_neg (by simp [hu])]; rfl
    obtain ⟨n1, n2⟩ := num_back r.ct (by omega) (by omega)
    rw [e]
    refine ⟨?_, ?_, ?_, ?_, ?_⟩
    · simp only [tailC]; rw [if_pos (toList_mk _)]
    · simp only [tailB]; rw [if_pos (toList_mk _)]; simp [n1, n2, hc]
    · simp only [tailCt]; rw [if_pos (toList_mk _)]; simpa using n2
    · simp only [tailUn]; rw [if_pos (toList_mk _), hu]
    · rintro d t hd
      cases hd
      exact days_word (by decide) (by decide)
  · have hct : r.ct = 0 := by omega
    by_cases hu : r.un = -1
    · have e : (cW r ++ uW r).map mk = [] := by
        unfold cW uW
        rw [if_neg hc, if_neg (by simp [hu])]; rfl
      rw [e, hct, hu]
      exact ⟨rfl, rfl, rfl, rfl, fun d t h => by cases h⟩
    · obtain ⟨y, m, d, ha⟩ := Cal.at_exists r.un (by omega) (by omega)
      obtain ⟨d1, d2, _⟩ := day_back ha
      have e : (cW r ++ uW r).map mk = [mk untilW, mk (Cal.text y m d)] := by
        unfold cW uW
        rw [if_neg hc, if_pos hu, dayT_at ha]; rfl
      rw [e]
      refine ⟨?_, ?_, ?_, ?_, ?_⟩
      · simp only [tailC]; rw [if_neg hne, if_pos (toList_mk _)]; simpa using d1
      · simp only [tailB]; rw [if_neg hne]; exact decide_eq_true (toList_mk _)
      · simp only [tailCt]; rw [if_neg hne, hct]
      · simp only [tailUn]; rw [if_neg hne, if_pos (toList_mk _)]; simpa using d2
      · rintro d t hd
        cases hd
        exact days_word (by decide) (by decide)
theorem read_text (r : Ru) (h : bad r = 0) : readS (mk (textL r)) = (0, r) := by
  obtain ⟨h1, h2, h3, h4, h5⟩ := bad_parts h
  obtain ⟨⟨e1, e2⟩, ⟨c1, c2⟩, u1, u2⟩ := bound_parts h2
  by_cases ho : r.fq.toList = onceW
  · have ht : textL r = r.fq.data.toList := by unfold textL; rw [if_pos ho]
    have hm : mk (textL r) = r.fq := by rw [ht]
    rw [hm, readS, if_pos ho]
    simp only [shapeB, ho, Bool.and_eq_true, Bool.or_eq_true, decide_eq_true_eq] at h4
    obtain ⟨⟨h6, h7⟩, h8⟩ := h4
    have h6' : (r.ev = 1 ∧ r.ct = 0) ∧ r.un = -1 := by simpa using h6
    have h7' : r.ds = [] := by rcases h7 with h7 | h7
                               · exact absurd h7 (by decide)
                               · exact h7
    refine Prod.ext rfl (ru_ext rfl h6'.1.1.symm h6'.1.2.symm h6'.2.symm h7'.symm)
  · have hw := words_free r h
    rw [readS, text_words r ho, if_neg ?hno]
    case hno =>
      intro e
      rw [toList_mk] at e
      have : (32 : UInt8) ∈ onceW := by
        rw [← e]
        unfold Lib.join
        rw [List.intercalate_cons_cons]
        simp
      revert this; decide
    rw [pieces_join hw]
    obtain ⟨n1, n2⟩ := num_back r.ev (by omega) (by omega)
    obtain ⟨t1, t2, t3, t4, t5⟩ := tail_back r h
    have hf : mk r.fq.data.toList = r.fq := (str_mk _).symm
    simp only [List.map_cons, hf]
    have hmid : midOf ((dW r ++ cW r ++ uW r).map mk) = (r.ds, (cW r ++ uW r).map mk) := by
      rw [List.append_assoc, List.map_append]
      by_cases hd : r.ds = []
      · have : dW r = [] := by unfold dW; rw [if_pos hd]
        rw [this, hd, List.map_nil, List.nil_append]
        cases hx : (cW r ++ uW r).map mk with
        | nil => rfl
        | cons d t => simp only [midOf]; rw [t5 d t hx]; rfl
      · have : dW r = [nms r.ds] := by unfold dW; rw [if_neg hd]
        obtain ⟨d1, d2⟩ := days_back (days_ok h3) hd
        rw [this]
        simp only [List.map_cons, List.map_nil, List.cons_append, List.nil_append, midOf, d1, d2]
        rfl
    have hru : ruleOf r.fq (mk (Lib.itoa r.ev)) ((dW r ++ cW r ++ uW r).map mk) = r := by
      unfold ruleOf
      rw [hmid]
      exact ru_ext rfl (by simpa using n2) t3 t4 rfl
    have hh : headB (r.fq :: mk (Lib.itoa r.ev) :: (dW r ++ cW r ++ uW r).map mk) = true := by
      simp only [headB, h1, Bool.and_true]
      simpa using ho
    have hn1 : numOk (mk (Lib.itoa r.ev)).data.toList = true := by simpa using n1
    simp only [readCR]
    rw [if_pos ⟨hh, hn1⟩, hmid, if_neg (by rw [t1]; decide), if_neg (by rw [t2]; decide), hru, if_neg (by rw [h]; decide)]
end Rul
end Go.Proofs.YtghkalamlcfnnaaGreatDoor
