/- errors.Is at the errors of this program: a plain one, or an api.Fault that holds one, against a plain one. -/
import Derived.Test.YtmlndamkcipebaaDoorAsMiss
namespace Go.Proofs.YtmlndamkcipebaaDoor
open Go.RowKit Go.Extern.Stop Go.Stop Go.Extern
namespace Er

/-- what the model has for the method Comparable -/
def cmpEntry : Array Value → Sem Value := Extern.ReflectliteType.method fun t => do Go.Extern.Rtype.noPackHeld "Comparable" t; pure (.bool (← typeInfo t).comparable)
theorem isComparable (w : World) : (cmpEntry #[.agg #[.pointer (some ⟨20, 230, none⟩)]]).run Tryd.prog w = .ok (.bool true) w := by kernel_rfl
theorem isMethodComparable (v : Value) (w : World) : (Go.method 361 198 v "Comparable").run Tryd.prog w = .ok (194, v) w := by kernel_rfl
theorem isComp : (Tryd.prog.info? 230).map (·.comparable) = some true := by kernel_rfl
theorem isSize : (Tryd.prog.info? 232).map (·.size) = some 1 := by kernel_rfl
theorem noIsE (v : Value) (xT : TypeId) (w : World) : (Instr.typeAssert (.iface 230 v) xT 209 true).run Tryd.prog w = .ok (.tuple #[.nilIface, .bool false]) w := run_typeAssert_lacksB Tryd.underlying209 (by kernel_rfl) (by kernel_rfl) v xT w
theorem noIsF (v : Value) (xT : TypeId) (w : World) : (Instr.typeAssert (.iface 107 v) xT 209 true).run Tryd.prog w = .ok (.tuple #[.nilIface, .bool false]) w := run_typeAssert_lacksB Tryd.underlying209 (by kernel_rfl) (by kernel_rfl) v xT w
theorem hasUnwrapF (v : Value) (xT : TypeId) (w : World) : (Instr.typeAssert (.iface 107 v) xT 205 true).run Tryd.prog w = .ok (.tuple #[.iface 107 v, .bool true]) w := run_typeAssert_hasB Tryd.underlying205 (by kernel_rfl) v xT w
theorem methodUnwrapF (v : Value) (w : World) : (Go.method 361 107 v "Unwrap").run Tryd.prog w = .ok (185, v) w := by kernel_rfl

set_option maxHeartbeats 1000000 in
theorem is_same (a : Addr) (w : World) :
    Calls Tryd.prog 127 #[.iface 230 (.pointer (some a)), .iface 230 (.pointer (some a)), .bool true] w fun e w' => e = .returned (.bool true) ∧ w = w' := by
  obtain ⟨i, hi, hcmp⟩ := Option.map_eq_some_iff.1 isComp
  obtain ⟨j, hj, hjs⟩ := Option.map_eq_some_iff.1 isSize
  have he := run_eql_iface_ptr_same w a Tryd.underlying26 Tryd.underlying230 hi hcmp hj
  clear hi hcmp hj hjs
  go_enter Tryd.func127, Tryd.ntmps127
  go_wp2
  refine wp_loop_rounds 1 ?_
  rw [rounds_succ]
  go_wp2
  go_ret
  exact ⟨rfl, rfl⟩

set_option maxHeartbeats 1000000 in
theorem is_other (a b : Addr) (ca cb : Array Value) (ta tb : TypeId) (w : World) (hne : a ≠ b) (ha : w.heap[a.block]? = some (.cells ca ta (0, 0))) (hb : w.heap[b.block]? = some (.cells cb tb (0, 0))) :
    Calls Tryd.prog 127 #[.iface 230 (.pointer (some a)), .iface 230 (.pointer (some b)), .bool true] w fun e w' => e = .returned (.bool false) ∧ w = w' := by
  obtain ⟨i, hi, hcmp⟩ := Option.map_eq_some_iff.1 isComp
  obtain ⟨j, hj, hjs⟩ := Option.map_eq_some_iff.1 isSize
  have he := run_eql_iface_ptr_other w Tryd.underlying26 Tryd.underlying230 hi hcmp hj (by rw [hjs]; decide) hne ha hb
  have n1 := noIsE
  have n2 := noUnwrap
  have n3 := noUnwraps
  clear hi hcmp hj hjs hne ha hb
  go_enter Tryd.func127, Tryd.ntmps127
  go_wp2
  refine wp_loop_rounds 1 ?_
  rw [rounds_succ]
  go_wp2
  go_ret
  exact ⟨rfl, rfl⟩

set_option maxRecDepth 100000 in
set_option maxHeartbeats 2000000 in
theorem is_fault_same (f a : Addr) (w : World) (hf : w.cell? ⟨f.block, f.off + 1, none⟩ = some (.iface 230 (.pointer (some a)))) :
    Calls Tryd.prog 127 #[.iface 107 (.pointer (some f)), .iface 230 (.pointer (some a)), .bool true] w fun e w' => e = .returned (.bool true) ∧ w = w' := by
  obtain ⟨i, hi, hcmp⟩ := Option.map_eq_some_iff.1 isComp
  obtain ⟨j, hj, hjs⟩ := Option.map_eq_some_iff.1 isSize
  have he := run_eql_iface_ptr_same w a Tryd.underlying26 Tryd.underlying230 hi hcmp hj
  have hd := run_eql_iface_types 107 230 (.pointer (some f)) (.pointer (some a)) Tryd.underlying26 (by decide) w
  have n1 := noIsF
  have n2 := hasUnwrapF
  have n3 := methodUnwrapF
  clear hi hcmp hj hjs
  go_enter Tryd.func127, Tryd.ntmps127
  go_wp2
  refine wp_loop_rounds 2 ?_
  rw [rounds_succ]
  go_wp2
  rw [rounds_succ]
  go_wp2
  go_ret
  exact ⟨rfl, rfl⟩

set_option maxRecDepth 100000 in
set_option maxHeartbeats 2000000 in
theorem is_fault_other (f a b : Addr) (ca cb : Array Value) (ta tb : TypeId) (w : World) (hf : w.cell? ⟨f.block, f.off + 1, none⟩ = some (.iface 230 (.pointer (some a)))) (hne : a ≠ b) (ha : w.heap[a.block]? = some (.cells ca ta (0, 0))) (hb : w.heap[b.block]? = some (.cells cb tb (0, 0))) :
    Calls Tryd.prog 127 #[.iface 107 (.pointer (some f)), .iface 230 (.pointer (some b)), .bool true] w fun e w' => e = .returned (.bool false) ∧ w = w' := by
  obtain ⟨i, hi, hcmp⟩ := Option.map_eq_some_iff.1 isComp
  obtain ⟨j, hj, hjs⟩ := Option.map_eq_some_iff.1 isSize
  have he := run_eql_iface_ptr_other w Tryd.underlying26 Tryd.underlying230 hi hcmp hj (by rw [hjs]; decide) hne ha hb
  have hd := run_eql_iface_types 107 230 (.pointer (some f)) (.pointer (some b)) Tryd.underlying26 (by decide) w
  have n1 := noIsF
  have n2 := hasUnwrapF
  have n3 := methodUnwrapF
  have m1 := noIsE
  have m2 := noUnwrap
  have m3 := noUnwraps
  clear hi hcmp hj hjs hne ha hb
  go_enter Tryd.func127, Tryd.ntmps127
  go_wp2
  refine wp_loop_rounds 2 ?_
  rw [rounds_succ]
  go_wp2
  rw [rounds_succ]
  go_wp2
  go_ret
  exact ⟨rfl, rfl⟩

/-- errors.Is, where errors.is answers and leaves the world alone -/
theorem Is_of (err : Value) (u : TypeId) (v : Value) (b : Addr) (r : Bool) (w : World) (he : err = .iface u v)
    (h : Calls Tryd.prog 127 #[err, .iface 230 (.pointer (some b)), .bool true] w fun e w' => e = .returned (.bool r) ∧ w = w') :
    Calls Tryd.prog 105 #[err, .iface 230 (.pointer (some b))] w fun e w' => e = .returned (.bool r) ∧ w = w' := by
  subst he
  have h10 := @run_callFunc_extern Tryd.prog 126 _ Extern.ReflectliteType.typeOf Tryd.func126 (by kernel_rfl) (by kernel_rfl) (by kernel_rfl) (by kernel_rfl)
  have h30 := @run_callFunc_extern Tryd.prog 194 _ cmpEntry Tryd.func194 (by kernel_rfl) (by kernel_rfl) (by kernel_rfl) (by kernel_rfl)
  have tT := typeOfE
  have cT := isComparable
  have mR := isMethodComparable
  have H := Lib.hid h
  clear h
  go_enter Tryd.func105, Tryd.ntmps105
  go_wp2_with (first | (go_at_call 127; refine H.out.mono ?_; rintro e w' ⟨rfl, rfl⟩) | go_in)
  go_ret
  exact ⟨rfl, rfl⟩

theorem Is_same (a : Addr) (w : World) :
    Calls Tryd.prog 105 #[.iface 230 (.pointer (some a)), .iface 230 (.pointer (some a))] w fun e w' => e = .returned (.bool true) ∧ w = w' :=
  Is_of _ _ _ a true w rfl (is_same a w)
theorem Is_other (a b : Addr) (ca cb : Array Value) (ta tb : TypeId) (w : World) (hne : a ≠ b) (ha : w.heap[a.block]? = some (.cells ca ta (0, 0))) (hb : w.heap[b.block]? = some (.cells cb tb (0, 0))) :
    Calls Tryd.prog 105 #[.iface 230 (.pointer (some a)), .iface 230 (.pointer (some b))] w fun e w' => e = .returned (.bool false) ∧ w = w' :=
  Is_of _ _ _ b false w rfl (is_other a b ca cb ta tb w hne ha hb)
theorem Is_fault_same (f a : Addr) (w : World) (hf : w.cell? ⟨f.block, f.off + 1, none⟩ = some (.iface 230 (.pointer (some a)))) :
    Calls Tryd.prog 105 #[.iface 107 (.pointer (some f)), .iface 230 (.pointer (some a))] w fun e w' => e = .returned (.bool true) ∧ w = w' :=
  Is_of _ _ _ a true w rfl (is_fault_same f a w hf)
theorem Is_fault_other (f a b : Addr) (ca cb : Array Value) (ta tb : TypeId) (w : World) (hf : w.cell? ⟨f.block, f.off + 1, none⟩ = some (.iface 230 (.pointer (some a)))) (hne : a ≠ b) (ha : w.heap[a.block]? = some (.cells ca ta (0, 0))) (hb : w.heap[b.block]? = some (.cells cb tb (0, 0))) :
    Calls Tryd.prog 105 #[.iface 107 (.pointer (some f)), .iface 230 (.pointer (some b))] w fun e w' => e = .returned (.bool false) ∧ w = w' :=
  Is_of _ _ _ b false w rfl (is_fault_other f a b ca cb ta tb w hf hne ha hb)
end Er
end Go.Proofs.YtmlndamkcipebaaDoor
