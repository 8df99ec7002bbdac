/- The card of the law ExpandDays: the frame of its proof. No condition beyond the row's own. -/
import Derived.Test.YtkgmojaecaghmaaDoorCards
import Derived.Test.YtkgmojaecaghmaaDoorTie
import Derived.Test.YtkgmojaecaghmaaDoorFrame
import Derived.Test.YtkgmojaecaghmaaDoorDays
import Derived.Test.YtkgmojaecaghmaaDoorOpenRule
import Derived.Test.YtkgmojaecaghmaaDoorErrsLaid
import Derived.WalkKit
import Derived.Deep.DeepHandedRow
import Derived.Deep.DeepWitnessRowRef
import Derived.SevenTiedAt
namespace Go.Proofs.YtkgmojaecaghmaaDoor.ExpandDaysCard
open Go Go.ChangeShapes Go.WideShapes Go.ChangeAt Go.RowKit Lmd
open Go.ChangeMaps (open_string shut_string)

/-- the listed variables that are no handles -/
def plainLaid : List (String × DataW Unit) := Rows.expandDaysRow.laid.filter fun x => x.2.handleName?.isNone
/-- a world in which the handle of the type 'error' is laid -/
noncomputable def hWorld (os : Os) : World :=
  { (World.holding Tryd.prog os ⟨#[], #[], []⟩) with heap := (World.holding Tryd.prog os ⟨#[], #[], []⟩).heap.modify 11 fun
      | .cells _ t frozen => .cells #[.iface 123 (.agg #[typeHandle Tryd.prog 29])] t frozen
      | o => o }
noncomputable def laidWorld (os : Os) : World := (hWorld os).layVars Tryd.prog plainLaid
theorem filterAll : (plainLaid.filter fun x => (plainLaid.map (·.1)).contains x.1) = plainLaid := List.filter_eq_self.2 fun x hx => List.contains_iff_mem.2 (List.mem_map.2 ⟨x, hx, rfl⟩)
theorem filterNone : (plainLaid.filter fun x => !(plainLaid.map (·.1)).contains x.1) = [] := List.filter_eq_nil_iff.2 fun x hx => by rw [List.contains_iff_mem.2 (List.mem_map.2 ⟨x, hx, rfl⟩)]; simp
theorem fits (os : Os) : (hWorld os).layFits Tryd.prog plainLaid [] = true := by kernel_rfl
theorem ifaces (os : Os) : (hWorld os).layIfaces Tryd.prog plainLaid (laidWorld os) = true := by kernel_rfl
theorem plain_met (os : Os) : laidMet Tryd.prog plainLaid (laidWorld os) :=
  laidMet_layVars (w0 := hWorld os) (plainLaid.map (·.1)) [] (by rw [filterAll]; rfl) (by rw [filterAll]; exact fits os) (by rw [filterAll]; exact ifaces os) (by rw [filterNone]; exact LaidIn.none)
theorem laid_met (os : Os) : laidMetH Tryd.prog Rows.expandDaysRow.laid ((laidWorld os).forCall (fun _ _ => 0) ⟨#[], #[.int .i64 0, .agg #[.string ⟨#[]⟩, .int .i64 0, .slice none 0 0, .int .i64 0, .int .i64 0], .int .i64 0, .int .i64 0, .int .i64 0, .int .i64 0], []⟩).memory :=
  laidMetH_of_parts ((plain_met os).of_heap (by simp [World.memory, World.forCall, Input.heap])) (by kernel_rfl)
theorem world_os (os : Os) : (laidWorld os).os = os := World.layVars_os _ _ _
theorem reads (os : Os) {H : Type} (enc : TypeId × Value → H) : ∃ places, DataW.whole enc Tryd.prog ((laidWorld os).forCall (fun _ _ => 0) ⟨#[], #[.int .i64 0, .agg #[.string ⟨#[]⟩, .int .i64 0, .slice none 0 0, .int .i64 0, .int .i64 0], .int .i64 0, .int .i64 0, .int .i64 0, .int .i64 0], []⟩).memory Tryd.f8.params.toList Rows.expandDaysSpec.vars false (#[.int .i64 0, .agg #[.string ⟨#[]⟩, .int .i64 0, .slice none 0 0, .int .i64 0, .int .i64 0], .int .i64 0, .int .i64 0, .int .i64 0, .int .i64 0] : Array Value).toList 8 = some ([.lit (.int .i64 0), .agg [.lit (.string []), .lit (.int .i64 0), .nil, .lit (.int .i64 0), .lit (.int .i64 0)], .lit (.int .i64 0), .lit (.int .i64 0), .lit (.int .i64 0), .lit (.int .i64 0)], [], places) :=
  ⟨[], by kernel_rfl⟩

set_option maxHeartbeats 1000000 in
set_option maxRecDepth 100000 in
/-- What the walk gives, for every argument and every world that holds the listed variables. -/
theorem contract (H : Type) (enc : TypeId × Value → H) (W : World) (base : Nat) (args : Array Value) (ds gs : List (DataW H)) (before : List MemPlace)
    (hval : ∀ (j : Nat) t v, Tryd.f8.params[j]? = some t → args[j]? = some v → Value.okWide Tryd.prog W .any base t v)
    (hW : DataW.Whole enc Tryd.prog Tryd.f8.params.toList Rows.expandDaysSpec.vars false W args.toList ds gs before) (hL : laidMetH Tryd.prog Rows.expandDaysRow.laid W) :
    Calls Tryd.prog 8 args W fun e W' => ∃ v, e = .returned v ∧ Rows.expandDaysSpec.post enc Tryd.prog Tryd.f8 false true false false W args v W' := by
  have hW' := hW
  obtain ⟨p, q, hA0, hV, rfl, hfz, hnd⟩ := hW
  have hA : DataW.TrodAll enc Tryd.prog W 0 (fun _ => true) true Tryd.f8.params.toList args.toList ds p := hA0
  rw [Tryd.params8] at hA hval
  obtain ⟨v0, vs0, d0, ds0, p0, q0, hargs, rfl, rfl, h0, r0⟩ := trodAll_cons hA
  obtain ⟨v1, vs1, d1, ds1, p1, q1, rfl, rfl, rfl, h1, r1⟩ := trodAll_cons r0
  obtain ⟨v2, vs2, d2, ds2, p2, q2, rfl, rfl, rfl, h2, r2⟩ := trodAll_cons r1
  obtain ⟨v3, vs3, d3, ds3, p3, q3, rfl, rfl, rfl, h3, r3⟩ := trodAll_cons r2
  obtain ⟨v4, vs4, d4, ds4, p4, q4, rfl, rfl, rfl, h4, r4⟩ := trodAll_cons r3
  obtain ⟨v5, vs5, d5, ds5, p5, q5, rfl, rfl, rfl, h5, r5⟩ := trodAll_cons r4
  obtain ⟨rfl, rfl, rfl⟩ := trodAll_nil r5
  obtain rfl : args = #[v0, v1, v2, v3, v4, v5] := by cases args; simp_all
  obtain ⟨rfl, rfl⟩ := trodVars_none hV
  obtain ⟨x0, rfl, rfl, rfl, wx0⟩ := open_int Tryd.underlying3 (hval 0 3 v0 rfl rfl) h0
  obtain ⟨ru1, sl1, rfl, hru1, hfu1, hnu1⟩ := Rul.open_rule (hval 1 24 v1 rfl rfl) h1
  obtain ⟨x2, rfl, rfl, rfl, wx2⟩ := open_int Tryd.underlying3 (hval 2 3 v2 rfl rfl) h2
  obtain ⟨x3, rfl, rfl, rfl, wx3⟩ := open_int Tryd.underlying3 (hval 3 3 v3 rfl rfl) h3
  obtain ⟨x4, rfl, rfl, rfl, wx4⟩ := open_int Tryd.underlying3 (hval 4 3 v4 rfl rfl) h4
  obtain ⟨x5, rfl, rfl, rfl, wx5⟩ := open_int Tryd.underlying3 (hval 5 3 v5 rfl rfl) h5
  clear hA0
  obtain ⟨aText, hText⟩ := Frame.sent (n := "lammastide/api.ErrText") (g := 0) (text := [108, 97, 109, 109, 97, 115, 116, 105, 100, 101, 58, 32, 116, 101, 120, 116]) hL (by kernel_rfl) (by kernel_rfl) (by kernel_rfl)
  obtain ⟨aBound, hBound⟩ := Frame.sent (n := "lammastide/api.ErrBound") (g := 1) (text := [108, 97, 109, 109, 97, 115, 116, 105, 100, 101, 58, 32, 98, 111, 117, 110, 100]) hL (by kernel_rfl) (by kernel_rfl) (by kernel_rfl)
  obtain ⟨aShape, hShape⟩ := Frame.sent (n := "lammastide/api.ErrShape") (g := 2) (text := [108, 97, 109, 109, 97, 115, 116, 105, 100, 101, 58, 32, 115, 104, 97, 112, 101]) hL (by kernel_rfl) (by kernel_rfl) (by kernel_rfl)
  obtain ⟨aName, hName⟩ := Frame.sent (n := "lammastide/api.ErrName") (g := 3) (text := [108, 97, 109, 109, 97, 115, 116, 105, 100, 101, 58, 32, 110, 97, 109, 101]) hL (by kernel_rfl) (by kernel_rfl) (by kernel_rfl)
  obtain ⟨aNone, hNone⟩ := Frame.sent (n := "lammastide/api.ErrNone") (g := 4) (text := [108, 97, 109, 109, 97, 115, 116, 105, 100, 101, 58, 32, 110, 111, 110, 101]) hL (by kernel_rfl) (by kernel_rfl) (by kernel_rfl)
  obtain ⟨aExist, hExist⟩ := Frame.sent (n := "lammastide/api.ErrExist") (g := 5) (text := [108, 97, 109, 109, 97, 115, 116, 105, 100, 101, 58, 32, 101, 120, 105, 115, 116]) hL (by kernel_rfl) (by kernel_rfl) (by kernel_rfl)
  obtain ⟨aFull, hFull⟩ := Frame.sent (n := "lammastide/api.ErrFull") (g := 6) (text := [108, 97, 109, 109, 97, 115, 116, 105, 100, 101, 58, 32, 102, 117, 108, 108]) hL (by kernel_rfl) (by kernel_rfl) (by kernel_rfl)
  obtain ⟨aOrder, hOrder⟩ := Frame.sent (n := "lammastide/api.ErrOrder") (g := 7) (text := [108, 97, 109, 109, 97, 115, 116, 105, 100, 101, 58, 32, 111, 114, 100, 101, 114]) hL (by kernel_rfl) (by kernel_rfl) (by kernel_rfl)
  obtain ⟨aStale, hStale⟩ := Frame.sent (n := "lammastide/api.ErrStale") (g := 8) (text := [108, 97, 109, 109, 97, 115, 116, 105, 100, 101, 58, 32, 115, 116, 97, 108, 101]) hL (by kernel_rfl) (by kernel_rfl) (by kernel_rfl)
  obtain ⟨aClash, hClash⟩ := Frame.sent (n := "lammastide/api.ErrClash") (g := 9) (text := [108, 97, 109, 109, 97, 115, 116, 105, 100, 101, 58, 32, 99, 108, 97, 115, 104]) hL (by kernel_rfl) (by kernel_rfl) (by kernel_rfl)
  obtain ⟨aOff, hOff⟩ := Frame.sent (n := "lammastide/api.ErrOff") (g := 10) (text := [108, 97, 109, 109, 97, 115, 116, 105, 100, 101, 58, 32, 111, 102, 102]) hL (by kernel_rfl) (by kernel_rfl) (by kernel_rfl)
  have hHandle := Er.handle_of hL (by kernel_rfl)
  have he : Er.Errs W (fun k => [aText, aBound, aShape, aName, aNone, aExist, aFull, aOrder, aStale, aClash, aOff].getD k default) := ⟨hText, hBound, hShape, hName, hNone, hExist, hFull, hOrder, hStale, hClash, hOff, hHandle⟩
  refine (Cand.expandDays_any x0 ru1 sl1 x2 x3 x4 x5 _ W he hru1 hfu1 hnu1).mono fun e W' ⟨he, hb⟩ => ?_
  exact ⟨_, he, Frame.law_post (by kernel_rfl) rfl (by kernel_rfl) hW' rfl hb⟩

set_option maxRecDepth 100000 in
theorem lifted (os : Os) (started : os.Started) (H : Type) (enc : TypeId × Value → H) (F : Stop.Interp) :
    ReturnsInHanded {} Tryd.checked os 8 .any ((OpenSpec.ofChange Rows.expandDaysSpec).preRow enc Tryd.prog Tryd.f8 Rows.expandDaysRow.domain false Rows.expandDaysRow.laid) (((OpenSpec.ofChange Rows.expandDaysSpec).at F).post enc Tryd.prog Tryd.f8 false true false false) := by
  obtain ⟨places, hx⟩ := reads os enc
  refine returnsInHanded_of_row (C := Tryd.checked) (s := (OpenSpec.ofChange Rows.expandDaysSpec)) Frame.own started (by kernel_rfl) Tryd.func8
    (witness_row_atRef (enc := enc) (C := Tryd.checked) false (laidWorld os) #[.int .i64 0, .agg #[.string ⟨#[]⟩, .int .i64 0, .slice none 0 0, .int .i64 0, .int .i64 0], .int .i64 0, .int .i64 0, .int .i64 0, .int .i64 0] (world_os os) (by kernel_rfl) (by kernel_rfl) (by kernel_rfl)
      (OpenSpec.preRow_of_cond 8 hx (by kernel_rfl) (fun k hk => by cases hk) (by kernel_rfl) (laid_met os))) ?_
  intro W base args ds gs before hval hW _ _ _ hL _ _
  exact contract H enc W base args ds gs before hval hW hL

theorem said : Rows.ExpandDaysSaid :=
  OpenClaim.holds_of_cond 8 Tryd.f8 rfl rfl rfl rfl rfl rfl rfl ⟨rfl, rfl, rfl, rfl, rfl⟩ rfl rfl rfl rfl rfl (by kernel_rfl) Tryd.func8 (by kernel_rfl)
    (of_decide_eq_true (by kernel_rfl)) (by unfold Func.isWrapper; rw [if_neg (of_decide_eq_false (by kernel_rfl))]; exact ⟨rfl, rfl⟩)
    (fun os started H enc _ F => by rw [OpenClaim.pre_eq_preRow]; exact lifted os started H enc F)

theorem plain (f : FuncId) (fn : Func) (hf : Tryd.pinned.checked.prog.funcNamed Rows.expandDaysRow.func = some f) (hfn : Tryd.pinned.checked.prog.funcs[f]? = some fn) :
    true = Tryd.pinned.checked.prog.looks [] ∧ ∀ (j : Nat) t, fn.params[j]? = some t → Tryd.pinned.checked.prog.wantsStandIn t = false := by
  obtain rfl : f = 8 := Option.some.inj ((show Tryd.prog.funcNamed Rows.expandDaysRow.func = some 8 by kernel_rfl).symm.trans hf) |>.symm
  obtain rfl : fn = Tryd.f8 := (Option.some.inj (Tryd.func8.symm.trans hfn)).symm
  refine ⟨by kernel_rfl, fun j t ht => ?_⟩
  have hall : (Tryd.f8.params.toList.all fun t => !Tryd.prog.wantsStandIn t) = true := by kernel_rfl
  have := List.all_eq_true.1 hall t (by simpa using Array.mem_of_getElem? ht)
  show Tryd.prog.wantsStandIn t = false
  simpa using this

/-- THE CARD -/
theorem card : Rows.ExpandDaysCardSaid :=
  Claim7.holds_tied_plain_at .later [] _ _ _ _ said (fun _ h => by cases h) (by kernel_rfl) (fun _ h => by cases h) expandDays_row_tie rfl ⟨rfl, rfl⟩ (by kernel_rfl) rfl plain (by kernel_rfl)
end Go.Proofs.YtkgmojaecaghmaaDoor.ExpandDaysCard
