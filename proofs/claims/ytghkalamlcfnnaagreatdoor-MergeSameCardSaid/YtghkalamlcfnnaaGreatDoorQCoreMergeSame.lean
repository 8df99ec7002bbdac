/- The card of the law MergeSame: the frame of its proof. No condition beyond the row's own. -/
import Derived.Test.YtghkalamlcfnnaaGreatDoorCards
import Derived.Test.YtghkalamlcfnnaaGreatDoorTie
import Derived.Test.YtghkalamlcfnnaaGreatDoorQA1
import Derived.Test.YtghkalamlcfnnaaGreatDoorQLibErr
import Derived.Test.YtghkalamlcfnnaaGreatDoorQOpenEvents
import Derived.Test.YtghkalamlcfnnaaGreatDoorQMergeSame
import Derived.WalkKit
import Derived.Deep.DeepHandedRow
import Derived.Deep.DeepWitnessRowRef
import Derived.SevenTiedAt
namespace Go.Proofs.YtghkalamlcfnnaaGreatDoor.MergeSameCard
open Go Go.ChangeShapes Go.WideShapes Go.ChangeAt Go.RowKit Lmd
open Go.ChangeMaps (open_string shut_string)
def plainLaid : List (String × DataW Unit) := Rows.mergeSameRow.laid.filter fun x => x.2.handleName?.isNone
noncomputable def hWorld (os : Os) : World :=
  { (World.holding Tryz.prog os ⟨#[], #[], []⟩) with heap := (World.holding Tryz.prog os ⟨#[], #[], []⟩).heap.modify 11 fun
      | .cells _ t frozen => .cells #[.iface 246 (.agg #[typeHandle Tryz.prog 60])] t frozen
      | o => o }
noncomputable def laidWorld (os : Os) : World := (hWorld os).layVars Tryz.prog plainLaid
theorem filterAll : (plainLaid.filter fun x => (plainLaid.map (·.1)).contains x.1) = plainLaid := List.filter_eq_self.2 fun x hx => List.contains_iff_mem.2 (List.mem_map.2 ⟨x, hx, rfl⟩)
theorem filterNone : (plainLaid.filter fun x => !(plainLaid.map (·.1)).contains x.1) = [] := List.filter_eq_nil_iff.2 fun x hx => by rw [List.contains_iff_mem.2 (List.mem_map.2 ⟨x, hx, rfl⟩)]; simp
theorem fits (os : Os) : (hWorld os).layFits Tryz.prog plainLaid [] = true := by kernel_rfl
theorem ifaces (os : Os) : (hWorld os).layIfaces Tryz.prog plainLaid (laidWorld os) = true := by kernel_rfl
theorem plain_met (os : Os) : laidMet Tryz.prog plainLaid (laidWorld os) :=
  laidMet_layVars (w0 := hWorld os) (plainLaid.map (·.1)) [] (by rw [filterAll]; rfl) (by rw [filterAll]; exact fits os) (by rw [filterAll]; exact ifaces os) (by rw [filterNone]; exact LaidIn.none)
theorem laid_met (os : Os) : laidMetH Tryz.prog Rows.mergeSameRow.laid ((laidWorld os).forCall (fun _ _ => 0) ⟨#[], #[.slice none 0 0, .slice none 0 0, .slice none 0 0], []⟩).memory :=
  laidMetH_of_parts ((plain_met os).of_heap (by simp [World.memory, World.forCall, Input.heap])) (by kernel_rfl)
theorem world_os (os : Os) : (laidWorld os).os = os := World.layVars_os _ _ _
theorem reads (os : Os) {H : Type} (enc : TypeId × Value → H) : ∃ places, DataW.whole enc Tryz.prog ((laidWorld os).forCall (fun _ _ => 0) ⟨#[], #[.slice none 0 0, .slice none 0 0, .slice none 0 0], []⟩).memory Tryz.f5.params.toList Rows.mergeSameSpec.vars false (#[.slice none 0 0, .slice none 0 0, .slice none 0 0] : Array Value).toList 8 = some ([.nil, .nil, .nil], [], places) :=
  ⟨[], by kernel_rfl⟩
set_option maxHeartbeats 1000000 in
set_option maxRecDepth 100000 in
theorem contract (H : Type) (enc : TypeId × Value → H) (W : World) (base : Nat) (args : Array Value) (ds gs : List (DataW H)) (before : List MemPlace)
    (hval : ∀ (j : Nat) t v, Tryz.f5.params[j]? = some t → args[j]? = some v → Value.okWide Tryz.prog W .any base t v)
    (hW : DataW.Whole enc Tryz.prog Tryz.f5.params.toList Rows.mergeSameSpec.vars false W args.toList ds gs before) (hL : laidMetH Tryz.prog Rows.mergeSameRow.laid W) (hsh : W.ShapedOpen Tryz.prog) :
    Calls Tryz.prog 5 args W fun e W' => ∃ v, e = .returned v ∧ Rows.mergeSameSpec.post enc Tryz.prog Tryz.f5 false true false false W args v W' := by
  have hW' := hW
  obtain ⟨p, q, hA0, hV, rfl, hfz, hnd⟩ := hW
  have hA : DataW.TrodAll enc Tryz.prog W 0 (fun _ => true) true Tryz.f5.params.toList args.toList ds p := hA0
  rw [Tryz.params5] at hA hval
  obtain ⟨v0, vs0, d0, ds0, p0, q0, hargs, rfl, rfl, h0, r0⟩ := trodAll_cons hA
  obtain ⟨v1, vs1, d1, ds1, p1, q1, rfl, rfl, rfl, h1, r1⟩ := trodAll_cons r0
  obtain ⟨v2, vs2, d2, ds2, p2, q2, rfl, rfl, rfl, h2, r2⟩ := trodAll_cons r1
  obtain ⟨rfl, rfl, rfl⟩ := trodAll_nil r2
  obtain rfl : args = #[v0, v1, v2] := by cases args; simp_all
  obtain ⟨rfl, rfl⟩ := trodVars_none hV
  obtain ⟨xs0, hrd0, hxl0, hxs0⟩ := Bk.open_events (hval 0 22 v0 rfl rfl) h0
  obtain ⟨xs1, hrd1, hxl1, hxs1⟩ := Bk.open_events (hval 1 22 v1 rfl rfl) h1
  obtain ⟨xs2, hrd2, hxl2, hxs2⟩ := Bk.open_events (hval 2 22 v2 rfl rfl) h2
  clear hA0
  obtain ⟨aText, hText⟩ := Frame.sent (n := "lammastide/api.ErrText") (g := 1) (text := [108, 97, 109, 109, 97, 115, 116, 105, 100, 101, 58, 32, 116, 101, 120, 116]) hL (by kernel_rfl) (by kernel_rfl) (by kernel_rfl)
  obtain ⟨aBound, hBound⟩ := Frame.sent (n := "lammastide/api.ErrBound") (g := 0) (text := [108, 97, 109, 109, 97, 115, 116, 105, 100, 101, 58, 32, 98, 111, 117, 110, 100]) hL (by kernel_rfl) (by kernel_rfl) (by kernel_rfl)
  obtain ⟨aShape, hShape⟩ := Frame.sent (n := "lammastide/api.ErrShape") (g := 6) (text := [108, 97, 109, 109, 97, 115, 116, 105, 100, 101, 58, 32, 115, 104, 97, 112, 101]) hL (by kernel_rfl) (by kernel_rfl) (by kernel_rfl)
  obtain ⟨aName, hName⟩ := Frame.sent (n := "lammastide/api.ErrName") (g := 3) (text := [108, 97, 109, 109, 97, 115, 116, 105, 100, 101, 58, 32, 110, 97, 109, 101]) hL (by kernel_rfl) (by kernel_rfl) (by kernel_rfl)
  obtain ⟨aExist, hExist⟩ := Frame.sent (n := "lammastide/api.ErrExist") (g := 7) (text := [108, 97, 109, 109, 97, 115, 116, 105, 100, 101, 58, 32, 101, 120, 105, 115, 116]) hL (by kernel_rfl) (by kernel_rfl) (by kernel_rfl)
  obtain ⟨aFull, hFull⟩ := Frame.sent (n := "lammastide/api.ErrFull") (g := 2) (text := [108, 97, 109, 109, 97, 115, 116, 105, 100, 101, 58, 32, 102, 117, 108, 108]) hL (by kernel_rfl) (by kernel_rfl) (by kernel_rfl)
  obtain ⟨aOrder, hOrder⟩ := Frame.sent (n := "lammastide/api.ErrOrder") (g := 8) (text := [108, 97, 109, 109, 97, 115, 116, 105, 100, 101, 58, 32, 111, 114, 100, 101, 114]) hL (by kernel_rfl) (by kernel_rfl) (by kernel_rfl)
  have he : Evt.E7 W (fun k => [aText, aBound, aShape, aName, default, aExist, aFull, aOrder].getD k default) := ⟨hText, hBound, hShape, hName, hExist, hFull, hOrder⟩
  have hlib : Rul.ELib W := ⟨(Rul.var_of (n := "strconv.ErrSyntax") (g := 13) (text := [105, 110, 118, 97, 108, 105, 100, 32, 115, 121, 110, 116, 97, 120]) hL (by kernel_rfl) (by kernel_rfl) (by kernel_rfl)), (Rul.var_of (n := "strconv.ErrRange") (g := 14) (text := [118, 97, 108, 117, 101, 32, 111, 117, 116, 32, 111, 102, 32, 114, 97, 110, 103, 101]) hL (by kernel_rfl) (by kernel_rfl) (by kernel_rfl))⟩
  obtain ⟨m, hm0⟩ := Tryz.laysM146.s1_3 W hsh
  have hm : W.cell? ⟨12, 0, none⟩ = some (.int .i64 m) := hm0
  have htab := Frame.table (n := "internal/strconv.uint64pow10") (k := .u64) (zs := Lib.pow10Tab) (g := 15) hL (by kernel_rfl) (by kernel_rfl) (by kernel_rfl) (by kernel_rfl) Tryz.underlying338 Tryz.underlying179 (by kernel_rfl) (by kernel_rfl)
  refine (Mg.mergeSame_any xs0 xs1 xs2 v0 v1 v2 _ m W ⟨he, htab, hlib, hm⟩ hrd0 hrd1 hrd2 hxs0 hxs1 hxs2).mono fun e W' ⟨he, hb⟩ => ?_
  exact ⟨_, he, Frame.law_post (by kernel_rfl) rfl (by kernel_rfl) hW' rfl hb⟩
set_option maxRecDepth 100000 in
theorem lifted (os : Os) (started : os.Started) (H : Type) (enc : TypeId × Value → H) (F : Stop.Interp) :
    ReturnsInHanded {} Tryz.checked os 5 .any ((OpenSpec.ofChange Rows.mergeSameSpec).preRow enc Tryz.prog Tryz.f5 Rows.mergeSameRow.domain false Rows.mergeSameRow.laid) (((OpenSpec.ofChange Rows.mergeSameSpec).at F).post enc Tryz.prog Tryz.f5 false true false false) := by
  obtain ⟨places, hx⟩ := reads os enc
  refine returnsInHanded_of_row (C := Tryz.checked) (s := (OpenSpec.ofChange Rows.mergeSameSpec)) Frame.own started (by kernel_rfl) Tryz.func5
    (witness_row_atRef (enc := enc) (C := Tryz.checked) false (laidWorld os) #[.slice none 0 0, .slice none 0 0, .slice none 0 0] (world_os os) (by kernel_rfl) (by kernel_rfl) (by kernel_rfl)
      (OpenSpec.preRow_of_cond 8 hx (by kernel_rfl) (fun k hk => by cases hk) (by kernel_rfl) (laid_met os))) ?_
  intro W base args ds gs before hval hW _ _ _ hL hsh _
  exact contract H enc W base args ds gs before hval hW hL hsh
set_option maxRecDepth 100000 in
set_option maxHeartbeats 20000000 in
theorem closed : joinedFacts Tryz.pinned.checked.prog 5 Tryz.f5 ((OpenSpec.ofChange Rows.mergeSameSpec)).bare Rows.mergeSameRow = true := by
  simp only [joinedFacts, Bool.and_eq_true]
  repeat' with_reducible apply And.intro
  all_goals (as_aux_lemma => kernel_rfl)
set_option maxHeartbeats 20000000 in
theorem said : Rows.MergeSameSaid :=
  OpenClaim.holds_of_cond 5 Tryz.f5 rfl rfl rfl rfl rfl rfl rfl ⟨rfl, rfl, rfl, rfl, rfl⟩ rfl rfl rfl rfl rfl (by as_aux_lemma => kernel_rfl) Tryz.func5 closed
    (of_decide_eq_true (by as_aux_lemma => kernel_rfl)) (by unfold Func.isWrapper; rw [if_neg (of_decide_eq_false (by as_aux_lemma => kernel_rfl))]; exact ⟨rfl, rfl⟩)
    (fun os started H enc _ F => by rw [OpenClaim.pre_eq_preRow]; exact lifted os started H enc F)
theorem plain (f : FuncId) (fn : Func) (hf : Tryz.pinned.checked.prog.funcNamed Rows.mergeSameRow.func = some f) (hfn : Tryz.pinned.checked.prog.funcs[f]? = some fn) :
    true = Tryz.pinned.checked.prog.looks [] ∧ ∀ (j : Nat) t, fn.params[j]? = some t → Tryz.pinned.checked.prog.wantsStandIn t = false := by
  obtain rfl : f = 5 := Option.some.inj ((show Tryz.prog.funcNamed Rows.mergeSameRow.func = some 5 by kernel_rfl).symm.trans hf) |>.symm
  obtain rfl : fn = Tryz.f5 := (Option.some.inj (Tryz.func5.symm.trans hfn)).symm
  refine ⟨by kernel_rfl, fun j t ht => ?_⟩
  have hall : (Tryz.f5.params.toList.all fun t => !Tryz.prog.wantsStandIn t) = true := by kernel_rfl
  have := List.all_eq_true.1 hall t (by simpa using Array.mem_of_getElem? ht)
  show Tryz.prog.wantsStandIn t = false
  simpa using this
end Go.Proofs.YtghkalamlcfnnaaGreatDoor.MergeSameCard
