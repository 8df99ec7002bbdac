/- From the rows' lists of variables to what the walks ask of the errors' variables and of the handle of the type error. -/
import Derived.Test.YtenmeaoagepfnaaGreatDoorCode
namespace Go.Proofs.YtenmeaoagepfnaaGreatDoor
open Go Go.RowKit
namespace Er

theorem etNamed : Tryz.prog.globalNamed "errors.errorType" = some 11 := by kernel_rfl
theorem rtOf : (Tryz.prog.cutTypes.find? (·.1 == "internal/reflectlite.rtype")).map (·.2) = some 245 := by kernel_rfl
theorem oneRow : ((List.range 395).filter fun t => Tryz.prog.rowNamed t [101, 114, 114, 111, 114]) = [42] := by kernel_rfl
theorem typesSize : Tryz.prog.types.size = 395 := by kernel_rfl
theorem handleIs : typeHandle Tryz.prog 42 = .pointer (some ⟨20, 42, none⟩) := by kernel_rfl

theorem handle_of {W : World} {laid : List (String × DataW Unit)} (h : laidMetH Tryz.prog laid W)
    (hf : (laid.filter fun x => x.2.handleName?.isSome) = [("errors.errorType", .iface "internal/reflectlite.rtype" (.agg [.ptr (.lit (.string [101, 114, 114, 111, 114]))]))]) :
    W.cell? ⟨11, 0, none⟩ = some (.iface 245 (.agg #[.pointer (some ⟨20, 42, none⟩)])) := by
  have h' := (laidMetH_iff.1 h).2
  rw [hf] at h'
  obtain ⟨name, u, ty, e1, e2, e3, e4, e5⟩ := h' _ (List.mem_singleton.2 rfl)
  have en : name = [101, 114, 114, 111, 114] := (Option.some.inj e1).symm
  subst en
  obtain rfl := Option.some.inj (rtOf.symm.trans e2)
  have hm : ty ∈ (List.range 395).filter fun t => Tryz.prog.rowNamed t [101, 114, 114, 111, 114] := List.mem_filter.2 ⟨List.mem_range.2 (by rw [← typesSize]; exact e3), e4⟩
  rw [oneRow] at hm
  obtain rfl := List.mem_singleton.1 hm
  rw [handleIs] at e5
  simpa using World.var?_cell etNamed e5 0
end Er
end Go.Proofs.YtenmeaoagepfnaaGreatDoor
