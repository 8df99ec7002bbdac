/- The card of the law PackDeltas: the frame of its proof. No condition beyond the row's own. -/
import Derived.Test.YtmlndamkcipebaaDoorCards
import Derived.Test.YtmlndamkcipebaaDoorTie
import Derived.Test.YtmlndamkcipebaaDoorFrame
import Derived.Test.YtmlndamkcipebaaDoorPackDeltas
import Derived.Test.YtmlndamkcipebaaDoorOpenTexts
import Derived.Test.YtmlndamkcipebaaDoorLibErr
import Derived.WalkKit
import Derived.Deep.DeepHandedRow
import Derived.Deep.DeepWitnessRowRef
import Derived.SevenTiedAt
namespace Go.Proofs.YtmlndamkcipebaaDoor.PackDeltasCard
open Go Go.ChangeShapes Go.WideShapes Go.ChangeAt Go.RowKit Lmd
open Go.ChangeMaps (open_string shut_string)

/-- the listed variables that are no handles -/
def plainLaid : List (String × DataW Unit) := Rows.packDeltasRow.laid.filter fun x => x.2.handleName?.isNone
noncomputable def hWorld (os : Os) : World := World.holding Tryd.prog os ⟨#[], #[], []⟩
noncomputable def laidWorld (os : Os) : World := (hWorld os).layVars Tryd.prog plainLaid
theorem filterAll : (plainLaid.filter fun x => (plainLaid.map (·.1)).contains x.1) = plainLaid := List.filter_eq_self.2 fun x hx => List.contains_iff_mem.2 (List.mem_map.2 ⟨x, hx, rfl⟩)
theorem filterNone : (plainLaid.filter fun x => !(plainLaid.map (·.1)).contains x.1) = [] := List.filter_eq_nil_iff.2 fun x hx => by rw [List.contains_iff_mem.2 (List.mem_map.2 ⟨x, hx, rfl⟩)]; simp
theorem fits (os : Os) : (hWorld os).layFits Tryd.prog plainLaid [] = true := by kernel_rfl
theorem ifaces (os : Os) : (hWorld os).layIfaces Tryd.prog plainLaid (laidWorld os) = true := by kernel_rfl
theorem plain_met (os : Os) : laidMet Tryd.prog plainLaid (laidWorld os) :=
  laidMet_layVars (w0 := hWorld os) (plainLaid.map (·.1)) [] (by rw [filterAll]; rfl) (by rw [filterAll]; exact fits os) (by rw [filterAll]; exact ifaces os) (by rw [filterNone]; exact LaidIn.none)
theorem laid_met (os : Os) : laidMetH Tryd.prog Rows.packDeltasRow.laid ((laidWorld os).forCall (fun _ _ => 0) ⟨#[], #[.slice none 0 0], []⟩).memory :=
  laidMetH_of_parts ((plain_met os).of_heap (by simp [World.memory, World.forCall, Input.heap])) (by kernel_rfl)
theorem world_os (os : Os) : (laidWorld os).os = os := World.layVars_os _ _ _
theorem reads (os : Os) {H : Type} (enc : TypeId × Value → H) : ∃ places, DataW.whole enc Tryd.prog ((laidWorld os).forCall (fun _ _ => 0) ⟨#[], #[.slice none 0 0], []⟩).memory Tryd.f7.params.toList Rows.packDeltasSpec.vars false (#[.slice none 0 0] : Array Value).toList 8 = some ([.nil], [], places) :=
  ⟨[], by kernel_rfl⟩

set_option maxHeartbeats 1000000 in
set_option maxRecDepth 100000 in
/-- What the walk gives, for every argument and every world that holds the listed variables. -/
theorem contract (H : Type) (enc : TypeId × Value → H) (W : World) (base : Nat) (args : Array Value) (ds gs : List (DataW H)) (before : List MemPlace)
    (hval : ∀ (j : Nat) t v, Tryd.f7.params[j]? = some t → args[j]? = some v → Value.okWide Tryd.prog W .any base t v)
    (hW : DataW.Whole enc Tryd.prog Tryd.f7.params.toList Rows.packDeltasSpec.vars false W args.toList ds gs before) (hL : laidMetH Tryd.prog Rows.packDeltasRow.laid W) (hsh : W.ShapedOpen Tryd.prog) :
    Calls Tryd.prog 7 args W fun e W' => ∃ v, e = .returned v ∧ Rows.packDeltasSpec.post enc Tryd.prog Tryd.f7 false true false false W args v W' := by
  have hW' := hW
  obtain ⟨p, q, hA0, hV, rfl, hfz, hnd⟩ := hW
  have hA : DataW.TrodAll enc Tryd.prog W 0 (fun _ => true) true Tryd.f7.params.toList args.toList ds p := hA0
  rw [Tryd.params7] at hA hval
  obtain ⟨v0, vs0, d0, ds0, p0, q0, hargs, rfl, rfl, h0, r0⟩ := trodAll_cons hA
  obtain ⟨rfl, rfl, rfl⟩ := trodAll_nil r0
  obtain rfl : args = #[v0] := by cases args; simp_all
  obtain ⟨rfl, rfl⟩ := trodVars_none hV
  obtain ⟨xs0, hrd0, hxl0, hxs0⟩ := Tx.open_texts (hval 0 22 v0 rfl rfl) h0
  clear hA0
  obtain ⟨aText, hText⟩ := Frame.sent (n := "lammastide/api.ErrText") (g := 3) (text := [108, 97, 109, 109, 97, 115, 116, 105, 100, 101, 58, 32, 116, 101, 120, 116]) hL (by kernel_rfl) (by kernel_rfl) (by kernel_rfl)
  obtain ⟨aBound, hBound⟩ := Frame.sent (n := "lammastide/api.ErrBound") (g := 0) (text := [108, 97, 109, 109, 97, 115, 116, 105, 100, 101, 58, 32, 98, 111, 117, 110, 100]) hL (by kernel_rfl) (by kernel_rfl) (by kernel_rfl)
  have hep : Pk.EP W (fun k => [aText, aBound].getD k default) := ⟨hText, hBound⟩
  obtain ⟨aFull, hFull⟩ := Frame.sent (n := "lammastide/api.ErrFull") (g := 2) (text := [108, 97, 109, 109, 97, 115, 116, 105, 100, 101, 58, 32, 102, 117, 108, 108]) hL (by kernel_rfl) (by kernel_rfl) (by kernel_rfl)
  have hlib : Rul.ELib W := ⟨(Rul.var_of (n := "strconv.ErrSyntax") (g := 14) (text := [105, 110, 118, 97, 108, 105, 100, 32, 115, 121, 110, 116, 97, 120]) hL (by kernel_rfl) (by kernel_rfl) (by kernel_rfl)), (Rul.var_of (n := "strconv.ErrRange") (g := 15) (text := [118, 97, 108, 117, 101, 32, 111, 117, 116, 32, 111, 102, 32, 114, 97, 110, 103, 101]) hL (by kernel_rfl) (by kernel_rfl) (by kernel_rfl))⟩
  obtain ⟨m, hm0⟩ := Tryd.laysM146.s1_3 W hsh
  have hm : W.cell? ⟨13, 0, none⟩ = some (.int .i64 m) := hm0
  have htab := Frame.table (n := "internal/strconv.uint64pow10") (k := .u64) (zs := Lib.pow10Tab) (g := 12) hL (by kernel_rfl) (by kernel_rfl) (by kernel_rfl) (by kernel_rfl) Tryd.underlying213 Tryd.underlying181 (by kernel_rfl) (by kernel_rfl)
  refine (Pk.packDeltas_any xs0 v0 (fun k => [aText, aBound, default, default, default, default, aFull].getD k default) m W ⟨⟨⟨hText, hBound⟩, hlib, htab, hm⟩, ⟨hBound, hFull⟩⟩ hrd0 hxl0).mono fun e W' ⟨he, hb⟩ => ?_
  exact ⟨_, he, Frame.law_post (by kernel_rfl) rfl (by kernel_rfl) hW' rfl hb⟩

set_option maxRecDepth 100000 in
theorem lifted (os : Os) (started : os.Started) (H : Type) (enc : TypeId × Value → H) (F : Stop.Interp) :
    ReturnsInHanded {} Tryd.checked os 7 .any ((OpenSpec.ofChange Rows.packDeltasSpec).preRow enc Tryd.prog Tryd.f7 Rows.packDeltasRow.domain false Rows.packDeltasRow.laid) (((OpenSpec.ofChange Rows.packDeltasSpec).at F).post enc Tryd.prog Tryd.f7 false true false false) := by
  obtain ⟨places, hx⟩ := reads os enc
  refine returnsInHanded_of_row (C := Tryd.checked) (s := (OpenSpec.ofChange Rows.packDeltasSpec)) Frame.own started (by kernel_rfl) Tryd.func7
    (witness_row_atRef (enc := enc) (C := Tryd.checked) false (laidWorld os) #[.slice none 0 0] (world_os os) (by kernel_rfl) (by kernel_rfl) (by kernel_rfl)
      (OpenSpec.preRow_of_cond 8 hx (by kernel_rfl) (fun k hk => by cases hk) (by kernel_rfl) (laid_met os))) ?_
  intro W base args ds gs before hval hW _ _ _ hL hsh _
  exact contract H enc W base args ds gs before hval hW hL hsh

theorem said : Rows.PackDeltasSaid :=
  OpenClaim.holds_of_cond 7 Tryd.f7 rfl rfl rfl rfl rfl rfl rfl ⟨rfl, rfl, rfl, rfl, rfl⟩ rfl rfl rfl rfl rfl (by kernel_rfl) Tryd.func7 (by kernel_rfl)
    (of_decide_eq_true (by kernel_rfl)) (by unfold Func.isWrapper; rw [if_neg (of_decide_eq_false (by kernel_rfl))]; exact ⟨rfl, rfl⟩)
    (fun os started H enc _ F => by rw [OpenClaim.pre_eq_preRow]; exact lifted os started H enc F)

theorem plain (f : FuncId) (fn : Func) (hf : Tryd.pinned.checked.prog.funcNamed Rows.packDeltasRow.func = some f) (hfn : Tryd.pinned.checked.prog.funcs[f]? = some fn) :
    true = Tryd.pinned.checked.prog.looks [] ∧ ∀ (j : Nat) t, fn.params[j]? = some t → Tryd.pinned.checked.prog.wantsStandIn t = false := by
  obtain rfl : f = 7 := Option.some.inj ((show Tryd.prog.funcNamed Rows.packDeltasRow.func = some 7 by kernel_rfl).symm.trans hf) |>.symm
  obtain rfl : fn = Tryd.f7 := (Option.some.inj (Tryd.func7.symm.trans hfn)).symm
  refine ⟨by kernel_rfl, fun j t ht => ?_⟩
  have hall : (Tryd.f7.params.toList.all fun t => !Tryd.prog.wantsStandIn t) = true := by kernel_rfl
  have := List.all_eq_true.1 hall t (by simpa using Array.mem_of_getElem? ht)
  show Tryd.prog.wantsStandIn t = false
  simpa using this

/-- THE CARD -/
theorem card : Rows.PackDeltasCardSaid :=
  Claim7.holds_tied_plain_at .later [] _ _ _ _ said (fun _ h => by cases h) (by kernel_rfl) (fun _ h => by cases h) packDeltas_row_tie rfl ⟨rfl, rfl⟩ (by kernel_rfl) rfl plain (by kernel_rfl)
end Go.Proofs.YtmlndamkcipebaaDoor.PackDeltasCard
