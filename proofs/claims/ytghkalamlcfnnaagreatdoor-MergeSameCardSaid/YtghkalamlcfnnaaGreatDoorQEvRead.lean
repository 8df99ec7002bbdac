/- package event: readSkips, readMoves, of any text. -/
import Derived.Test.YtghkalamlcfnnaaGreatDoorQRuleRead
import Derived.Test.YtghkalamlcfnnaaGreatDoorQA7
namespace Go.Proofs.YtghkalamlcfnnaaGreatDoor
open Go Go.RowKit Go.Shelf Lmd
attribute [local go_sem] Oper.semAt_some
namespace Evt
open Rul Day Cand Er
section
variable {α : Type} {E : Nat → Prop} {B : Nat} {ι : Type}
theorem rge_ex {J : ι → Nat → α → World → Prop} (h : ∀ q, Rge.Stable E B (J q)) : Rge.Stable E B (fun hi s W => ∃ q, J q hi s W) := by
  intro hi s A C row hB ⟨q, hq⟩ hg hr
  exact ⟨q, h q hi s A C row hB hq hg hr⟩
end
structure Env (w : World) (er : Nat → Addr) (m : Int) : Prop where
  errs : E7 w er
  tab : Lib.TabIs Tryz.prog w "internal/strconv.uint64pow10" .u64 Lib.pow10Tab
  lib : ELib w
  ml : w.cell? ⟨12, 0, none⟩ = some (.int .i64 m)
theorem Env.tb {w : World} {er : Nat → Addr} {m : Int} (h : Env w er m) : Tb w er := ⟨h.errs, h.tab⟩
theorem Env.five {w : World} {er : Nat → Addr} {m : Int} (h : Env w er m) : E5 w er := ⟨h.errs.four, h.errs.s0⟩
theorem Env.below {w w' : World} {er : Nat → Addr} {m : Int} (h : Env w er m) (hb : Below w.heap.size w w') : Env w' er m :=
  ⟨h.errs.below hb, (h.tb.below hb).tab, h.lib.below hb, cell_later hb h.ml⟩
def skC : List ByteArray → Nat
  | [] => 0
  | x :: t => if dayC x.data.toList ≠ 0 then dayC x.data.toList else skC t
def skV (L : List ByteArray) : List Int := L.map fun x => dayX x.data.toList
theorem skC_ok {L : List ByteArray} (h : ∀ x ∈ L, dayC x.data.toList = 0) : skC L = 0 := by
  induction L with
  | nil => rfl
  | cons x t ih => unfold skC; rw [if_neg (by rw [h x (by simp)]; simp)]; exact ih (fun y hy => h y (by simp [hy]))
theorem skC_bad {p t : List ByteArray} {x : ByteArray} (h : ∀ y ∈ p, dayC y.data.toList = 0) (hx : dayC x.data.toList ≠ 0) : skC (p ++ x :: t) = dayC x.data.toList := by
  induction p with
  | nil => show skC (x :: t) = _; unfold skC; rw [if_pos hx]
  | cons y p ih => show skC (y :: (p ++ x :: t)) = _; unfold skC; rw [if_neg (by rw [h y (by simp)]; simp)]; exact ih (fun z hz => h z (by simp [hz]))
def listP (s : ByteArray) : List ByteArray := if s.toList = [] then [] else pieces 44 s
theorem listP_len (s : ByteArray) : (listP s).length ≤ s.size + 1 := by
  unfold listP
  split
  · simp
  · exact pieces_len 44 s
def SkPost (er : Nat → Addr) (s : ByteArray) (w : World) (e' : Ending) (w' : World) : Prop :=
  ∃ v, e' = .returned (.tuple #[v, errV er (skC (listP s))]) ∧ (skC (listP s) ≠ 0 → v = .slice none 0 0) ∧ (skC (listP s) = 0 → Ints.Reads w' v (skV (listP s)) ∧ ∀ b o n c, v = .slice (some ⟨b, o, none⟩) n c → w.heap.size ≤ b) ∧ Below w.heap.size w w'
set_option maxRecDepth 100000 in
set_option maxHeartbeats 4000000 in
theorem readSkips_none (s : ByteArray) (er : Nat → Addr) (w : World) (h0 : s.toList = []) :
    Calls Tryz.prog 189 #[.string s] w (SkPost er s w) := by
  have hl : listP s = [] := by unfold listP; rw [if_pos h0]
  have HL := Lib.hid hl
  clear hl
  go_enter Tryz.func189, Tryz.ntmps189
  go_wp2
  have y2 := ((Boxed.new w 35 (.slice none 0 0)).alloc (.cells #[.nilIface] 60)).cell
  have y3 := (Boxed.new (w.alloc (.cells #[.slice none 0 0] 35)) 60 .nilIface).cell
  rw [World.size_alloc] at y3
  refine bodyPost_ret (v := .tuple #[.slice none 0 0, .nilIface]) (by simp [results, Tryz.f189, go_sem, y2, y3]) rfl ?_
  refine ⟨_, ?_, fun h => rfl, fun _ => ⟨?_, fun b o n c h => by cases h⟩, ((Below.refl _ w).alloc (Nat.le_refl _) _).alloc (by simp) _⟩
  · rw [HL.out]; rfl
  · rw [HL.out]; exact .inl ⟨rfl, _, _, rfl⟩
set_option maxRecDepth 100000 in
set_option maxHeartbeats 8000000 in
theorem readSkips_any (s : ByteArray) (er : Nat → Addr) (w : World) (hs : s.size ≤ 1000000) (he : E5 w er) :
    Calls Tryz.prog 189 #[.string s] w (SkPost er s w) := by
  by_cases h00 : s.toList = []
  · exact readSkips_none s er w h00
  obtain ⟨i0, hi0, hz0, hz1, hz2⟩ := info_parts int_info
  have hLP : listP s = pieces 44 s := by unfold listP; rw [if_neg h00]
  have HLP := Lib.hid hLP
  have HE := Lib.hid he
  have hne : (s.toList == []) = false := by simpa using h00
  have hne2 : s.toList.isEmpty = false := by simpa using h00
  clear he hLP
  refine (callsIn_wide (n := Rng.dp + 1)).1 ?_
  refine callsIn_of_wp_marks Tryz.func189 rfl trivial ?_ rfl
  simp only [Tryz.ntmps189, List.size_toArray, List.length_cons, List.length_nil, Nat.reduceAdd, Nat.reduceSub, Array.replicate_succ, Array.replicate_zero, List.push_toArray, List.append_toArray, List.nil_append, List.cons_append]
  gi_wp2_with (refine ⟨trivial, ?_⟩; gi_at_call 236; refine (callsIn_wide.2 (splitSeq_any s ⟨#[44]⟩ _)).mono ?_; rintro e' w2 ⟨rfl, rfl⟩)
  obtain ⟨W3, hW3⟩ : ∃ W3, ((w.alloc (.cells #[.slice none 0 0] 35)).alloc (.cells #[.nilIface] 60)).alloc (.cells #[.slice none 0 0] 35) = W3 := ⟨_, rfl⟩
  have hz3 : W3.heap.size = w.heap.size + 1 + 1 + 1 := by rw [← hW3]; simp
  have hB3 : Below w.heap.size w W3 := by
    rw [← hW3]
    exact (((Below.refl _ w).alloc (Nat.le_refl _) _).alloc (by simp) _).alloc (by simp; omega) _
  have a2 : Boxed W3 w.heap.size 35 (.slice none 0 0) := by
    have h := ((Boxed.new w 35 (.slice none 0 0)).alloc (.cells #[.nilIface] 60)).alloc (.cells #[.slice none 0 0] 35)
    rw [hW3] at h; exact h
  have a3 : Boxed W3 (w.heap.size + 1) 60 .nilIface := by
    have h := (Boxed.new (w.alloc (.cells #[.slice none 0 0] 35)) 60 .nilIface).alloc (.cells #[.slice none 0 0] 35)
    rw [hW3] at h; simpa only [World.size_alloc] using h
  have a4 : Boxed W3 (w.heap.size + 1 + 1) 35 (.slice none 0 0) := by
    have h := Boxed.new ((w.alloc (.cells #[.slice none 0 0] 35)).alloc (.cells #[.nilIface] 60)) 35 (.slice none 0 0)
    rw [hW3] at h; simpa only [World.size_alloc] using h
  rw [hW3]
  have e0 := ((Boxed.new W3 9 (.string s)).alloc (.cells #[.string ⟨#[44]⟩] 9)).alloc (.cells #[.int .i64 0] 3)
  have e1 := (Boxed.new (W3.alloc (.cells #[.string s] 9)) 9 (.string ⟨#[44]⟩)).alloc (.cells #[.int .i64 0] 3)
  have e2 := Boxed.new ((W3.alloc (.cells #[.string s] 9)).alloc (.cells #[.string ⟨#[44]⟩] 9)) 3 (.int .i64 0)
  obtain ⟨W0, hW0⟩ : ∃ W0, ((W3.alloc (.cells #[.string s] 9)).alloc (.cells #[.string ⟨#[44]⟩] 9)).alloc (.cells #[.int .i64 0] 3) = W0 := ⟨_, rfl⟩
  have hB0 : Below W3.heap.size W3 W0 := by rw [← hW0]; exact (((Below.refl _ W3).alloc (Nat.le_refl _) _).alloc (by simp) _).alloc (by simp; omega) _
  have hz : W0.heap.size = w.heap.size + 1 + 1 + 1 + 1 + 1 + 1 := by rw [← hW0]; simp [hz3]
  rw [hW0] at e0 e1 e2 ⊢
  rw [hz3] at e0
  rw [World.size_alloc, hz3] at e1
  rw [World.size_alloc, World.size_alloc, hz3] at e2
  have hBw : Below w.heap.size w W0 := hB3.trans (hB0.mono (by omega))
  have b2 := a2.kept (Rng.grownBy_of_below hB0) (by simp)
  have b3 := a3.kept (Rng.grownBy_of_below hB0) (by simp)
  have b4 := a4.kept (Rng.grownBy_of_below hB0) (by simp)
  have hseq := split_seq (w.heap.size + 1 + 1 + 1) s 44 1000001 W0 e0 e1 e2 (by omega) (by omega)
  have cl : ∀ {b : Nat} {t : TypeId} {u : Value} {A : World}, Boxed A b t u → ∀ o, A.heap[b]? = some o → o.isCells = true := fun hb o ho => by
    rw [show _ = _ from hb] at ho; cases ho; rfl
  have hES : ∀ r, r = w.heap.size + 1 + 1 + 1 → (fun b => b = w.heap.size ∨ b = w.heap.size + 1 ∨ b = w.heap.size + 1 + 1 ∨ b = w.heap.size + 1 + 1 + 1) r ∧ ∀ o, W0.heap[r]? = some o → o.isCells = true := by
    rintro r rfl
    exact ⟨.inr (.inr (.inr rfl)), cl e0⟩
  have HSEQ := Lib.hid hseq
  have HES := Lib.hid hES
  have HBW := Lib.hid hBw
  clear hW0 hW3 a2 a3 a4 hseq e1 e2 hES hne hne2
  refine Rge.range_law (n := Rng.dp + 1) (by decide) (gf := 296) (lb := lbS (w.heap.size + 1 + 1 + 1)) rfl (enters_of Tryz.func296 (by kernel_rfl) rfl)
    HSEQ.out (Below.refl _ _) (fun _ => rfl) (fun b hb => by omega) (fun b => b = w.heap.size ∨ b = w.heap.size + 1 ∨ b = w.heap.size + 1 + 1) (fun b hb => by omega) ⟨by omega, by omega, by omega⟩
    (fun hi pre W' => ((Boxed W' w.heap.size 35 (.slice none 0 0) ∧ Boxed W' (w.heap.size + 1) 60 .nilIface) ∧ Holds (w.heap.size + 1 + 1) hi (skV pre) W' ∧ hi ≤ W'.heap.size) ∧ Rng.Stay (fun b => b = w.heap.size ∨ b = w.heap.size + 1 ∨ b = w.heap.size + 1 + 1 ∨ b = w.heap.size + 1 + 1 + 1) W0.heap.size W0 W' ∧ (∀ x ∈ (pre : List ByteArray), dayC x.data.toList = 0))
    (fun c _ pre W' => ∃ q, (Boxed W' w.heap.size 35 (.slice none 0 0) ∧ Boxed W' (w.heap.size + 1) 60 (ev (er q))) ∧ Rng.Stay (fun b => b = w.heap.size ∨ b = w.heap.size + 1 ∨ b = w.heap.size + 1 + 1 ∨ b = w.heap.size + 1 + 1 + 1) W0.heap.size W0 W' ∧ (c = .ret ∧ ∃ (p : List ByteArray) (x : ByteArray), pre = p ++ [x] ∧ (∀ y ∈ p, dayC y.data.toList = 0) ∧ dayC x.data.toList = q + 1))
    ?hI ?hIx ?h0 (fun x => { tmps := #[.string s, undef, .pointer (some ⟨w.heap.size, 0, none⟩), .pointer (some ⟨w.heap.size + 1, 0, none⟩), .pointer (some ⟨w.heap.size + 1 + 1, 0, none⟩), .string x, undef, undef, .string s, .bool false, .string s, .func (.func 296) #[] (lbS (w.heap.size + 1 + 1 + 1)), .string x, undef, undef, undef, undef, undef, undef, undef, undef, undef, undef, undef, undef, undef], defers := [] }) ?assign ?body ?done ?stop
  case hI =>
    exact rge_and (rge_and (rge_and (rge_boxed (f := fun _ => .slice none 0 0) (by omega) (by omega)) (rge_boxed (f := fun _ => .nilIface) (by omega) (by omega))) (rge_and (rge_holds (fun p : List ByteArray => skV p) (by omega) (by omega) (fun r hr => by omega)) rge_size)) (rge_and (rge_stay _ _ _ (Nat.le_refl _) HES.out) (rge_const (fun pre : List ByteArray => ∀ x ∈ pre, dayC x.data.toList = 0)))
  case hIx =>
    intro c
    refine rge_ex fun q => ?_
    exact rge_and (rge_and (rge_boxed (f := fun _ => .slice none 0 0) (by omega) (by omega)) (rge_boxed (f := fun _ => ev (er q)) (by omega) (by omega))) (rge_and (rge_stay _ _ _ (Nat.le_refl _) HES.out) (rge_const (fun pre => c = .ret ∧ ∃ (p : List ByteArray) (x : ByteArray), pre = p ++ [x] ∧ (∀ y ∈ p, dayC y.data.toList = 0) ∧ dayC x.data.toList = q + 1)))
  case h0 =>
    intro W' hW'
    refine ⟨⟨⟨b2.kept (Rng.grownBy_of_below hW') (by simp), b3.kept (Rng.grownBy_of_below hW') (by simp)⟩, ⟨.slice none 0 0, b4.kept (Rng.grownBy_of_below hW') (by simp), by simp [cellsOf, skV], .inl ⟨rfl, rfl⟩⟩, Nat.le_refl _⟩, Rng.Stay.of_below hW', by simp⟩
  case assign =>
    intro l2 x W' K hK
    gi_wp2
    exact hK
  case body =>
    rintro hi l2 pre x W' hhi ⟨⟨⟨c2, c3⟩, hh, hsz⟩, hst, hall⟩ hlen
    obtain ⟨a, c, hbx, hown, _⟩ := holds_reads hh
    have hbW : Below w.heap.size w W' := HBW.out.trans (stay_below hst (fun b h => by omega) (by omega) (by omega))
    have hrd := readDay_five x er W' (HE.out.below hbW)
    have CL2 := Lib.hid (cl b2)
    have CL3 := Lib.hid (cl b3)
    have HZ := Lib.hid hz
    have HST := Lib.hid hst
    have C2 := Lib.hid c2
    have C3 := Lib.hid c3
    have HB := Lib.hid hbx
    have HOWN := Lib.hid hown
    have HSZ := Lib.hid hsz
    have HALL := Lib.hid hall
    have HHI := Lib.hid hhi
    have hlen' : (skV pre).length < 1000001 := by simpa [skV] using hlen
    have HLEN := Lib.hid hlen'
    obtain ⟨q, hq⟩ : ∃ q, dayC x.data.toList = q := ⟨_, rfl⟩
    obtain ⟨dx, hdx⟩ : ∃ d, dayX x.data.toList = d := ⟨_, rfl⟩
    rw [hq, hdx] at hrd
    have HRD := Lib.hid hrd
    have HQ := Lib.hid hq
    have HDX := Lib.hid hdx
    clear hz hst c2 c3 hh hbx hown hsz hall hhi hlen hlen' cl hrd hq hdx hbW
    cases q with
    | succ q =>
      gi_wp2_with (refine ⟨trivial, ?_⟩; gi_at_call 186; refine (CallsIn.inRound l2 (callsIn_wide.2 HRD.out)).mono ?_; rintro e' w2 ⟨rfl, hb2⟩; have HB2 := Lib.hid hb2; have z2 := (C2.out.kept (Rng.grownBy_of_below hb2) (by simp)).cell; have z3 := (C3.out.kept (Rng.grownBy_of_below hb2) (by simp)).cell; have f2 := (C2.out.kept (Rng.grownBy_of_below hb2) (by simp)).frozen; have f3 := (C3.out.kept (Rng.grownBy_of_below hb2) (by simp)).frozen; clear hb2; simp only [errV])
      have hX : Rng.Stay (fun b => b = w.heap.size ∨ b = w.heap.size + 1 ∨ b = w.heap.size + 1 + 1 ∨ b = w.heap.size + 1 + 1 + 1) W0.heap.size W0 w2 := HST.out.trans ((Rng.Stay.of_below HB2.out).mono (fun _ _ h => h) (by have := HST.out.size; omega))
      have hR : Rng.Rest W0.heap.size W' w2 := fun b o hb hbo _ => by rw [HB2.out.block b (Array.getElem?_eq_some_iff.1 hbo).1]; exact hbo
      have hzz := HZ.out
      have g2 := C2.out.kept (Rng.grownBy_of_below HB2.out) (by simp)
      have g3 := C3.out.kept (Rng.grownBy_of_below HB2.out) (by simp)
      exact ⟨rest_set (rest_set hR ⟨w.heap.size, 0, none⟩ (by show w.heap.size < _; omega) _) ⟨w.heap.size + 1, 0, none⟩ (by show w.heap.size + 1 < _; omega) _,
        q, ⟨(g2.set _).other (by omega) _, (g3.other (by omega) _).set _⟩,
        (hX.setCell (p := ⟨w.heap.size, 0, none⟩) (.inl (.inl rfl)) CL2.out _).setCell (p := ⟨w.heap.size + 1, 0, none⟩) (.inl (.inr (.inl rfl))) CL3.out _,
        rfl, pre, x, rfl, HALL.out, HQ.out⟩
    | zero =>
      obtain ⟨L, hL⟩ : ∃ L, skV pre = L := ⟨_, rfl⟩
      rw [hL] at HOWN HB HLEN
      have HL := Lib.hid hL
      have hlen2 := HLEN.out
      clear hL
      gi_wp2_with (first
        | (refine ⟨trivial, ?_⟩; gi_at_call 186; refine (CallsIn.inRound l2 (callsIn_wide.2 HRD.out)).mono ?_; rintro e' w2 ⟨rfl, hb2⟩; have HB2 := Lib.hid hb2; have z4 := (HB.out.kept (Rng.grownBy_of_below hb2) (by simp)).cell; have f4 := (HB.out.kept (Rng.grownBy_of_below hb2) (by simp)).frozen; have hs2 := hb2.size; clear hb2; simp only [errV])
        | (gi_at_builtin
           refine wpListIn_append_own _ rfl (.tmp 21) (.tmp 23) _ rfl hi 3 i0 _ 1 8 Tryz.underlying35 hi0 hz0 hz1 hz2 rfl (by omega) (.slice a L.length c) L.length (cellsOf L) rfl
             ((own_below HOWN.out HB2.out).alloc _) ⟨w2.heap.size, 0, none⟩ 1 1 [.int .i64 dx] rfl rfl
             (fun j u hu => by
               cases j with
               | zero => simp at hu; subst hu; exact (Boxed.new w2 3 (.int .i64 dx)).cell
               | succ j => simp at hu) (fun u hu => by simp at hu; subst hu; rfl) (by simp only [maxLen]; omega) (by omega) (by have := HSZ.out; simp; omega) ?_
           intro v1 wz hown' hg hnil
           have hap := holds_append (O := (fun b => b = w.heap.size ∨ b = w.heap.size + 1 ∨ b = w.heap.size + 1 + 1)) (HB.out.kept (Rng.grownBy_of_below HB2.out) (by simp)) (own_below HOWN.out HB2.out) (.inr (.inr rfl)) hown' hg
           obtain ⟨a1, c1, e1⟩ : ∃ a1 c1, v1 = .slice a1 (L.length + 1) c1 := by
             have h3 := reads_own (xs := L ++ [dx]) (by rw [cellsOf_snoc, List.length_append]; exact hown')
             obtain ⟨a1, c1, e⟩ := h3.shape
             exact ⟨a1, c1, by rw [e, List.length_append]; rfl⟩
           subst e1
           have z1 := hap.1.cell
           have z2 := hap.1.frozen
           have HAP := Lib.hid hap
           have hkp : ∀ (b : Nat) (t : TypeId) (u : Value), Boxed W' b t u → b < hi → Boxed wz b t u := fun b t u hb hlt => ((hb.kept (Rng.grownBy_of_below HB2.out) (by simp)).alloc _).kept hg (fun e => by have := ownBlock_ge HOWN.out e.symm; omega)
           have HKP := Lib.hid hkp
           clear hown' hg hnil hap hkp))
      have hs2 := (Rng.Stay.of_below HB2.out).trans HAP.out.2.2
      have hzz := HZ.out
      have hh2 := HHI.out
      refine ⟨hs2.mono (fun _ _ h => h) (by omega), ⟨⟨(HKP.out _ _ _ C2.out (by omega)).other (by omega) _, (HKP.out _ _ _ C3.out (by omega)).other (by omega) _⟩, ?_, Nat.le_trans HSZ.out hs2.size⟩, HST.out.trans (hs2.mono (fun b _ h => ?_) (by omega)), ?_⟩
      · unfold skV; rw [List.map_append, List.map_singleton, HDX.out]; have hl := HL.out; unfold skV at hl; rw [hl]; exact HAP.out.2.1
      · rcases h with h | h | h
        · exact .inl h
        · exact .inr (.inl h)
        · exact .inr (.inr (.inl h))
      · intro z hz
        rcases List.mem_append.1 hz with hz | hz
        · exact HALL.out z hz
        · simp at hz; subst hz; exact HQ.out
  case done =>
    rintro D hi xs W' hD hDh rfl ⟨⟨⟨c2, c3⟩, hh, hsz⟩, hst, hall⟩ hK
    obtain ⟨a, c, hbx, hown, _⟩ := holds_reads hh
    have y2 := c2.cell
    have y3 := c3.cell
    have y4 := hbx.cell
    have f2 := c2.frozen
    have f3 := c3.frozen
    have HST := Lib.hid hst
    have HK := Lib.hid hK
    have C2 := Lib.hid c2
    have C3 := Lib.hid c3
    have HOWN := Lib.hid hown
    have HHZ := Lib.hid hz
    have HALL := Lib.hid hall
    have CL2 := Lib.hid (cl b2)
    have CL3 := Lib.hid (cl b3)
    clear hst hK c2 c3 hown hbx hh hz hall cl
    obtain ⟨L, hL⟩ : ∃ L, skV (pieces 44 s) = L := ⟨_, rfl⟩
    rw [hL] at y4 HOWN
    have HL := Lib.hid hL
    clear hL
    gi_wp2
    have hok : skC (listP s) = 0 := by rw [HLP.out]; exact skC_ok HALL.out
    have hdv : skV (listP s) = L := by rw [HLP.out]; exact HL.out
    have g1 : Boxed ((W'.setCell ⟨w.heap.size, 0, none⟩ (.slice a L.length c)).setCell ⟨w.heap.size + 1, 0, none⟩ .nilIface) w.heap.size 35 (.slice a L.length c) := (C2.out.set _).other (by omega) _
    have g2 : Boxed ((W'.setCell ⟨w.heap.size, 0, none⟩ (.slice a L.length c)).setCell ⟨w.heap.size + 1, 0, none⟩ .nilIface) (w.heap.size + 1) 60 .nilIface := (C3.out.other (by omega) _).set _
    have hz := HHZ.out
    have hK : ((W'.setCell ⟨w.heap.size, 0, none⟩ (.slice a L.length c)).setCell ⟨w.heap.size + 1, 0, none⟩ .nilIface).heap[D]? = some (.deferred (some [])) := by
      rw [Below.heap_setCell _ _ _ _ (by show D ≠ w.heap.size + 1; omega), Below.heap_setCell _ _ _ _ (by show D ≠ w.heap.size; omega)]; exact HK.out
    have ho2 := own_far (u := .nilIface) (p := ⟨w.heap.size + 1, 0, none⟩) (own_far (u := .slice a L.length c) (p := ⟨w.heap.size, 0, none⟩) HOWN.out (by show w.heap.size < hi; omega)) (by show w.heap.size + 1 < hi; omega)
    have hst2 := (HST.out.setCell (p := ⟨w.heap.size, 0, none⟩) (.inl (.inl rfl)) CL2.out (.slice a L.length c)).setCell (p := ⟨w.heap.size + 1, 0, none⟩) (.inl (.inr (.inl rfl))) CL3.out .nilIface
    refine ⟨by simp, .inl ⟨_, _, rfl, run_takeDeferred hK, ?_⟩⟩
    have r1 := (g1.kept (grownBy_putObj' _ D (.deferred none)) (by simp; omega)).cell
    have r2 := (g2.kept (grownBy_putObj' _ D (.deferred none)) (by simp; omega)).cell
    have hb := (stay_below hst2 (B := w.heap.size) (fun b h => by omega) (by omega) (by omega))
    refine ⟨.tuple #[.slice a L.length c, .nilIface], ?_, _, by rw [hok]; rfl, (fun h => absurd hok h), fun _ => ?_, ?_⟩
    · simp [results, Tryz.f189, go_sem, r1, r2]
    · rw [hdv]; exact ⟨reads_own (ownsRow_putObj ho2 _ hK rfl), fun b o n c h => by have := ownBlock_ge HOWN.out (r := b) (by rw [h]; rfl); omega⟩
    · exact (hBw.trans hb).trans (belowK_b (w := w) (Nat.le_refl _) _ D _ _ (by omega) hK rfl rfl)
  case stop =>
    rintro D hi c pre W' hD hDh hpre ⟨q, ⟨c2, c3⟩, hst, rfl, p, x, rfl, hp, hx⟩ hK
    have hok : skC (listP s) = q + 1 := by
      obtain ⟨t, ht⟩ := hpre
      rw [HLP.out, ← ht, List.append_assoc, ← hx]
      exact skC_bad hp (by rw [hx]; omega)
    have HOK := Lib.hid hok
    clear hx hok
    gi_wp2
    refine ⟨by simp, .inl ⟨_, _, rfl, run_takeDeferred hK, ?_⟩⟩
    have r1 := (c2.kept (grownBy_putObj' W' D (.deferred none)) (by simp; omega)).cell
    have r2 := (c3.kept (grownBy_putObj' W' D (.deferred none)) (by simp; omega)).cell
    have hb := (stay_below hst (B := w.heap.size) (fun b h => by omega) (by omega) (by omega))
    refine ⟨.tuple #[.slice none 0 0, ev (er q)], ?_, _, by rw [HOK.out]; rfl, (fun _ => rfl), (fun h => by rw [HOK.out] at h; cases h), ?_⟩
    · simp [results, Tryz.f189, go_sem, r1, r2, ev]
    · exact (hBw.trans hb).trans (belowK_b (w := w) (Nat.le_refl _) W' D _ _ (by omega) hK rfl rfl)
end Evt
end Go.Proofs.YtghkalamlcfnnaaGreatDoor
