/- Code, ErrsLaid, CodedL2, FaultedL2: texts joined. -/
import Derived.Test.YtghkalamlcfnnaaGreatDoorRows
import Derived.Test.YtghkalamlcfnnaaGreatDoorQA1
import Derived.Test.YtghkalamlcfnnaaGreatDoorQRuleText
import Derived.WalkKit
import Derived.LaidEql
import Derived.Stop.Asserts
import Derived.RowKitTokens
import Derived.WalkSpells
import Derived.WalkLawsBesides
import Derived.Lib.Hide
import Derived.Test.YtghkalamlcfnnaaGreatDoorQRefFault
section
namespace Go.Proofs.YtghkalamlcfnnaaGreatDoor
open Go.RowKit Go.Extern.Stop Go.Stop Go.Extern
namespace Er
theorem valueOf27 (t : Addr) (w : World) : (ReflectliteValue.unpack (.iface 156 (.pointer (some t)))).run Tryz.prog w
    = .ok (.agg #[.pointer (some ⟨20, 156, none⟩), .pointer (some ⟨w.heap.size, 0, none⟩), .int .u64 150]) (w.alloc (.cells #[.pointer (some t)] 156)) := by kernel_rfl
theorem type27 (a : Addr) (w : World) : (ReflectliteValue.methodAny (ReflectliteValue.valueError "reflectlite.Value.Type" 0) (fun t _ _ _ => ReflectliteType.toType t) #[.agg #[.pointer (some ⟨20, 156, none⟩), .pointer (some a), .int .u64 150]]).run Tryz.prog w
    = .ok (.iface 246 (.agg #[.pointer (some ⟨20, 156, none⟩)])) w := by kernel_rfl
theorem methodKind (h : Value) (w : World) : (Go.method 481 246 (.agg #[h]) "Kind").run Tryz.prog w = .ok (328, h) w := by kernel_rfl
theorem kind27 (w : World) : ((ReflectliteType.abiMethod fun t => (fun a : Nat => Value.int IntKind.u8 (a : Int)) <$> Rtype.kind t) #[.pointer (some ⟨20, 156, none⟩)]).run Tryz.prog w = .ok (.int .u8 22) w := by kernel_rfl
theorem kind25 (w : World) : ((ReflectliteType.abiMethod fun t => (fun a : Nat => Value.int IntKind.u8 (a : Int)) <$> Rtype.kind t) #[.pointer (some ⟨20, 110, none⟩)]).run Tryz.prog w = .ok (.int .u8 22) w := by kernel_rfl
theorem rlm (z : Sem Value) (f : TypeId → Addr → Nat → Nat → Sem Value) (v : Value) :
    ReflectliteValue.method z f #[v] = (do match ← ReflectliteValue.parts v with | none => z | some (t, a, fl) => f t a fl (fl % 32)) := rfl
theorem parts27 (a : Addr) (w : World) : (ReflectliteValue.parts (.agg #[.pointer (some ⟨20, 156, none⟩), .pointer (some a), .int .u64 150])).run Tryz.prog w = .ok (some (156, a, 150)) w := by kernel_rfl
theorem isNil27 (a p : Addr) (W : World) (ha : W.cell? a = some (.pointer (some p))) :
    (ReflectliteValue.method (ReflectliteValue.valueError "reflectlite.Value.IsNil" 0) ReflectliteValue.isNil #[.agg #[.pointer (some ⟨20, 156, none⟩), .pointer (some a), .int .u64 150]]).run Tryz.prog W = .ok (.bool false) W := by
  rw [rlm]
  simp only [Sem.run_bind, parts27, Result.andThen]
  simp [ReflectliteValue.isNil, loadVar, isAgg, underlying, Tryz.underlying156, ha, Result.andThen]
theorem methodElem (h : Value) (w : World) : (Go.method 481 246 (.agg #[h]) "Elem").run Tryz.prog w = .ok (340, .agg #[h]) w := by kernel_rfl
theorem methodImplements (h : Value) (w : World) : (Go.method 481 246 (.agg #[h]) "Implements").run Tryz.prog w = .ok (341, .agg #[h]) w := by kernel_rfl
theorem methodAssignableTo (h : Value) (w : World) : (Go.method 481 246 (.agg #[h]) "AssignableTo").run Tryz.prog w = .ok (338, .agg #[h]) w := by kernel_rfl
theorem elem27 (w : World) : (ReflectliteType.method ReflectliteType.elem #[.agg #[.pointer (some ⟨20, 156, none⟩)]]).run Tryz.prog w = .ok (.iface 246 (.agg #[.pointer (some ⟨20, 110, none⟩)])) w := by kernel_rfl
theorem implements25 (w : World) : (ReflectliteType.relation "Implements" ReflectliteType.implements_ #[.agg #[.pointer (some ⟨20, 110, none⟩)], .iface 246 (.agg #[.pointer (some ⟨20, 60, none⟩)])]).run Tryz.prog w = .ok (.bool true) w := by kernel_rfl
theorem typeOf25 (v : Value) (w : World) : (ReflectliteType.typeOf #[.iface 110 v]).run Tryz.prog w = .ok (.iface 246 (.agg #[.pointer (some ⟨20, 110, none⟩)])) w := by kernel_rfl
theorem assignable25 (w : World) : (ReflectliteType.relation "AssignableTo" ReflectliteType.assignableTo #[.agg #[.pointer (some ⟨20, 110, none⟩)], .iface 246 (.agg #[.pointer (some ⟨20, 110, none⟩)])]).run Tryz.prog w = .ok (.bool true) w := by kernel_rfl
theorem valueOf25 (e : Addr) (w : World) : (ReflectliteValue.unpack (.iface 110 (.pointer (some e)))).run Tryz.prog w
    = .ok (.agg #[.pointer (some ⟨20, 110, none⟩), .pointer (some ⟨w.heap.size, 0, none⟩), .int .u64 150]) (w.alloc (.cells #[.pointer (some e)] 110)) := by kernel_rfl
theorem elemOf27 (w : World) : (Rtype.elem? 156).run Tryz.prog w = .ok (some 110) w := by kernel_rfl
theorem mk25 (p : Addr) (w : World) : (ReflectliteValue.mk 110 p ReflectliteValue.flagAddr).run Tryz.prog w = .ok (.agg #[.pointer (some ⟨20, 110, none⟩), .pointer (some p), .int .u64 406]) w := by kernel_rfl
theorem elemV27 (a p : Addr) (W : World) (ha : W.cell? a = some (.pointer (some p))) :
    (ReflectliteValue.method (ReflectliteValue.valueError "reflectlite.Value.Elem" 0) ReflectliteValue.elem #[.agg #[.pointer (some ⟨20, 156, none⟩), .pointer (some a), .int .u64 150]]).run Tryz.prog W
      = .ok (.agg #[.pointer (some ⟨20, 110, none⟩), .pointer (some p), .int .u64 406]) W := by
  rw [rlm]
  simp only [Sem.run_bind, parts27, Result.andThen]
  simp [ReflectliteValue.elem, loadVar, isAgg, underlying, Tryz.underlying156, ha, Result.andThen, elemOf27, mk25]
theorem rls (v x : Value) : ReflectliteValue.set #[v, x] = (do
    let (some (dst, a, fl), some (src, b, _)) := (← ReflectliteValue.parts v, ← ReflectliteValue.parts x)
      | unsupported (.noEntry "extern/(internal/reflectlite.Value).Set.zeroValue")
    if fl / ReflectliteValue.flagAddr % 2 == 0 then unsupported (.noEntry "extern/(internal/reflectlite.Value).Set.unaddressable")
    let val ← loadVar src b
    if ← Rtype.directlyAssignable dst src then storeVar dst a val
    else if ← Rtype.implements dst src then
      if (← Rtype.kind src) == 20 then
        match val with
        | .nilIface => unsupported (.noEntry "extern/reflectlite: a nil value of one interface type handed on as a value of another")
        | _ => storeVar dst a val
      else storeVar dst a (.iface src val)
    else panicString ("reflectlite.Set: value of type " ++ (← Rtype.spelt src) ++ " is not assignable to type " ++ (← Rtype.spelt dst))
    pure (.tuple #[])) := rfl
theorem parts25a (a : Addr) (w : World) : (ReflectliteValue.parts (.agg #[.pointer (some ⟨20, 110, none⟩), .pointer (some a), .int .u64 406])).run Tryz.prog w = .ok (some (110, a, 406)) w := by kernel_rfl
theorem parts25 (a : Addr) (w : World) : (ReflectliteValue.parts (.agg #[.pointer (some ⟨20, 110, none⟩), .pointer (some a), .int .u64 150])).run Tryz.prog w = .ok (some (110, a, 150)) w := by kernel_rfl
theorem direct25 (w : World) : (Rtype.directlyAssignable 110 110).run Tryz.prog w = .ok true w := by kernel_rfl
theorem set25 (ta b e : Addr) (old : Value) (W : World) (hb : W.cell? b = some (.pointer (some e))) (ht : W.cell? ta = some old) (hf : W.frozen? ta = false) :
    (ReflectliteValue.set #[.agg #[.pointer (some ⟨20, 110, none⟩), .pointer (some ta), .int .u64 406], .agg #[.pointer (some ⟨20, 110, none⟩), .pointer (some b), .int .u64 150]]).run Tryz.prog W
      = .ok (.tuple #[]) (W.setCell ta (.pointer (some e))) := by
  rw [rls]
  simp only [Sem.run_bind, parts25a, parts25, Result.andThen]
  simp [ReflectliteValue.flagAddr, loadVar, isAgg, underlying, Tryz.underlying110, hb, Result.andThen, direct25, storeVar, Value.cells, storeCells, Addr.add]
  rw [run_store Tryz.prog W ta _ _ (by rfl)]
  simp [ht, hf]
end Er
end Go.Proofs.YtghkalamlcfnnaaGreatDoor
namespace Go.Proofs.YtghkalamlcfnnaaGreatDoor
open Go.RowKit Go.Extern.Stop Go.Stop Go.Extern
namespace Er
set_option maxHeartbeats 4000000 in
theorem as_hit (e t : Addr) (old : Value) (w : World) (hg : w.cell? ⟨11, 0, none⟩ = some (.iface 246 (.agg #[.pointer (some ⟨20, 60, none⟩)]))) (ht0 : w.cell? t = some old) (hf0 : w.frozen? t = false) :
    Calls Tryz.prog 103 #[.iface 110 (.pointer (some e)), .iface 156 (.pointer (some t))] w fun ev w' => ev = .returned (.bool true) ∧ w' = ((((w.alloc (.cells #[.pointer (some t)] 156)).alloc (.cells #[.pointer (some ⟨20, 156, none⟩), .pointer (some ⟨w.heap.size, 0, none⟩), .int .u64 150] 199)).alloc (.cells #[.pointer (some ⟨20, 156, none⟩), .pointer (some ⟨w.heap.size, 0, none⟩), .int .u64 150] 199)).alloc (.cells #[.pointer (some e)] 110)).setCell t (.pointer (some e)) := by
  have h6 := @run_callFunc_extern Tryz.prog 153 _ (fun args => ReflectliteValue.unpack (args.getD 0 (.tuple #[]))) Tryz.func153 (by kernel_rfl) (by kernel_rfl) (by kernel_rfl) (by kernel_rfl)
  have h7 := @run_callFunc_extern Tryz.prog 154 _ (ReflectliteValue.methodAny (ReflectliteValue.valueError "reflectlite.Value.Type" 0) (fun t _ _ _ => ReflectliteType.toType t)) Tryz.func154 (by kernel_rfl) (by kernel_rfl) (by kernel_rfl) (by kernel_rfl)
  have h8 := @run_callFunc_extern Tryz.prog 155 _ (ReflectliteValue.method (ReflectliteValue.valueError "reflectlite.Value.IsNil" 0) ReflectliteValue.isNil) Tryz.func155 (by kernel_rfl) (by kernel_rfl) (by kernel_rfl) (by kernel_rfl)
  have h27 := @run_callFunc_extern Tryz.prog 328 _ (ReflectliteType.abiMethod fun t => do pure (.int .u8 (← Rtype.kind t))) Tryz.func328 (by kernel_rfl) (by kernel_rfl) (by kernel_rfl) (by kernel_rfl)
  have h37 := @run_callFunc_extern Tryz.prog 340 _ (ReflectliteType.method ReflectliteType.elem) Tryz.func340 (by kernel_rfl) (by kernel_rfl) (by kernel_rfl) (by kernel_rfl)
  have h38 := @run_callFunc_extern Tryz.prog 341 _ (ReflectliteType.relation "Implements" ReflectliteType.implements_) Tryz.func341 (by kernel_rfl) (by kernel_rfl) (by kernel_rfl) (by kernel_rfl)
  have h10 := @run_callFunc_extern Tryz.prog 157 _ ReflectliteType.typeOf Tryz.func157 (by kernel_rfl) (by kernel_rfl) (by kernel_rfl) (by kernel_rfl)
  have h35 := @run_callFunc_extern Tryz.prog 338 _ (ReflectliteType.relation "AssignableTo" ReflectliteType.assignableTo) Tryz.func338 (by kernel_rfl) (by kernel_rfl) (by kernel_rfl) (by kernel_rfl)
  have h11 := @run_callFunc_extern Tryz.prog 202 _ (ReflectliteValue.method (ReflectliteValue.valueError "reflectlite.Value.Elem" 0) ReflectliteValue.elem) Tryz.func202 (by kernel_rfl) (by kernel_rfl) (by kernel_rfl) (by kernel_rfl)
  have h12 := @run_callFunc_extern Tryz.prog 203 _ ReflectliteValue.set Tryz.func203 (by kernel_rfl) (by kernel_rfl) (by kernel_rfl) (by kernel_rfl)
  have tO := typeOf25
  have mA := methodAssignableTo
  have a25 := assignable25
  have v25 := valueOf25
  have f6 := valueOf27
  have f7 := type27
  have mK := methodKind
  have mE := methodElem
  have mI := methodImplements
  have k27 := kind27
  have k25 := kind25
  have e27 := elem27
  have i25 := implements25
  have n8 := isNil27 ⟨w.heap.size, 0, none⟩ t ((w.alloc (.cells #[.pointer (some t)] 156)).alloc (.cells #[.pointer (some ⟨20, 156, none⟩), .pointer (some ⟨w.heap.size, 0, none⟩), .int .u64 150] 199)) (by simp)
  have hlt : 11 < w.heap.size := by
    rcases Nat.lt_or_ge 11 w.heap.size with h | h
    · exact h
    · simp [World.cell?, Array.getElem?_eq_none h] at hg
  have hg2 : ((w.alloc (.cells #[.pointer (some t)] 156)).alloc (.cells #[.pointer (some ⟨20, 156, none⟩), .pointer (some ⟨w.heap.size, 0, none⟩), .int .u64 150] 199)).cell? ⟨11, 0, none⟩ = some (.iface 246 (.agg #[.pointer (some ⟨20, 60, none⟩)])) := by
    rw [World.cell?_alloc_lt _ _ ⟨11, 0, none⟩ (by simp; omega), World.cell?_alloc_lt _ _ ⟨11, 0, none⟩ hlt]; exact hg
  have htl : t.block < w.heap.size := by
    rcases Nat.lt_or_ge t.block w.heap.size with h | h
    · exact h
    · simp [World.cell?, Array.getElem?_eq_none h] at ht0
  have el := elemV27 ⟨w.heap.size, 0, none⟩ t (((w.alloc (.cells #[.pointer (some t)] 156)).alloc (.cells #[.pointer (some ⟨20, 156, none⟩), .pointer (some ⟨w.heap.size, 0, none⟩), .int .u64 150] 199)).alloc (.cells #[.pointer (some ⟨20, 156, none⟩), .pointer (some ⟨w.heap.size, 0, none⟩), .int .u64 150] 199)) (by rw [World.cell?_alloc_lt _ _ ⟨w.heap.size, 0, none⟩ (by simp; omega)]; simp)
  have st := set25 t ⟨w.heap.size + 1 + 1 + 1, 0, none⟩ e old ((((w.alloc (.cells #[.pointer (some t)] 156)).alloc (.cells #[.pointer (some ⟨20, 156, none⟩), .pointer (some ⟨w.heap.size, 0, none⟩), .int .u64 150] 199)).alloc (.cells #[.pointer (some ⟨20, 156, none⟩), .pointer (some ⟨w.heap.size, 0, none⟩), .int .u64 150] 199)).alloc (.cells #[.pointer (some e)] 110))
    (by rw [World.cell?_alloc_at _ _ _ _ (by simp)]; rfl)
    (by rw [World.cell?_alloc_lt _ _ t (by simp; omega), World.cell?_alloc_lt _ _ t (by simp; omega), World.cell?_alloc_lt _ _ t (by simp; omega), World.cell?_alloc_lt _ _ t htl]; exact ht0)
    (by rw [World.frozen?_alloc_old _ _ t (by simp; omega), World.frozen?_alloc_old _ _ t (by simp; omega), World.frozen?_alloc_old _ _ t (by simp; omega), World.frozen?_alloc_old _ _ t (Nat.ne_of_lt htl)]; exact hf0)
  go_enter Tryz.func103, Tryz.ntmps103
  go_wp2
  refine wp_loop_rounds 1 ?_
  rw [rounds_succ]
  go_wp2
  go_ret
  exact ⟨rfl, rfl⟩
end Er
end Go.Proofs.YtghkalamlcfnnaaGreatDoor
namespace Go.Proofs.YtghkalamlcfnnaaGreatDoor
open Go.RowKit Go.Extern.Stop Go.Stop Go.Extern
namespace Er
theorem typeOfE (v : Value) (w : World) : (ReflectliteType.typeOf #[.iface 348 v]).run Tryz.prog w = .ok (.iface 246 (.agg #[.pointer (some ⟨20, 348, none⟩)])) w := by kernel_rfl
theorem noUnwrap (v : Value) (xT : TypeId) (w : World) : (Instr.typeAssert (.iface 348 v) xT 253 true).run Tryz.prog w = .ok (.tuple #[.nilIface, .bool false]) w := run_typeAssert_lacksB Tryz.underlying253 (by kernel_rfl) (by kernel_rfl) v xT w
theorem noUnwraps (v : Value) (xT : TypeId) (w : World) : (Instr.typeAssert (.iface 348 v) xT 255 true).run Tryz.prog w = .ok (.tuple #[.nilIface, .bool false]) w := run_typeAssert_lacksB Tryz.underlying255 (by kernel_rfl) (by kernel_rfl) v xT w
end Er
end Go.Proofs.YtghkalamlcfnnaaGreatDoor
namespace Go.Proofs.YtghkalamlcfnnaaGreatDoor
open Go.RowKit Go.Extern.Stop Go.Stop Go.Extern
namespace Er
def cmpEntry : Array Value → Sem Value := Extern.ReflectliteType.method fun t => do Go.Extern.Rtype.noPackHeld "Comparable" t; pure (.bool (← typeInfo t).comparable)
theorem isComparable (w : World) : (cmpEntry #[.agg #[.pointer (some ⟨20, 348, none⟩)]]).run Tryz.prog w = .ok (.bool true) w := by kernel_rfl
theorem isMethodComparable (v : Value) (w : World) : (Go.method 481 246 v "Comparable").run Tryz.prog w = .ok (339, v) w := by kernel_rfl
theorem isComp : (Tryz.prog.info? 348).map (·.comparable) = some true := by kernel_rfl
theorem isSize : (Tryz.prog.info? 350).map (·.size) = some 1 := by kernel_rfl
theorem noIsE (v : Value) (xT : TypeId) (w : World) : (Instr.typeAssert (.iface 348 v) xT 257 true).run Tryz.prog w = .ok (.tuple #[.nilIface, .bool false]) w := run_typeAssert_lacksB Tryz.underlying257 (by kernel_rfl) (by kernel_rfl) v xT w
theorem noIsF (v : Value) (xT : TypeId) (w : World) : (Instr.typeAssert (.iface 110 v) xT 257 true).run Tryz.prog w = .ok (.tuple #[.nilIface, .bool false]) w := run_typeAssert_lacksB Tryz.underlying257 (by kernel_rfl) (by kernel_rfl) v xT w
theorem hasUnwrapF (v : Value) (xT : TypeId) (w : World) : (Instr.typeAssert (.iface 110 v) xT 253 true).run Tryz.prog w = .ok (.tuple #[.iface 110 v, .bool true]) w := run_typeAssert_hasB Tryz.underlying253 (by kernel_rfl) v xT w
theorem methodUnwrapF (v : Value) (w : World) : (Go.method 481 110 v "Unwrap").run Tryz.prog w = .ok (332, v) w := by kernel_rfl
set_option maxRecDepth 100000 in
set_option maxHeartbeats 2000000 in
theorem is_fault_same (f a : Addr) (w : World) (hf : w.cell? ⟨f.block, f.off + 1, none⟩ = some (.iface 348 (.pointer (some a)))) :
    Calls Tryz.prog 158 #[.iface 110 (.pointer (some f)), .iface 348 (.pointer (some a)), .bool true] w fun e w' => e = .returned (.bool true) ∧ w = w' := by
  obtain ⟨i, hi, hcmp⟩ := Option.map_eq_some_iff.1 isComp
  obtain ⟨j, hj, hjs⟩ := Option.map_eq_some_iff.1 isSize
  have he := run_eql_iface_ptr_same w a Tryz.underlying60 Tryz.underlying348 hi hcmp hj
  have hd := run_eql_iface_types 110 348 (.pointer (some f)) (.pointer (some a)) Tryz.underlying60 (by decide) w
  have n1 := noIsF
  have n2 := hasUnwrapF
  have n3 := methodUnwrapF
  clear hi hcmp hj hjs
  go_enter Tryz.func158, Tryz.ntmps158
  go_wp2
  refine wp_loop_rounds 2 ?_
  rw [rounds_succ]
  go_wp2
  rw [rounds_succ]
  go_wp2
  go_ret
  exact ⟨rfl, rfl⟩
set_option maxRecDepth 100000 in
set_option maxHeartbeats 2000000 in
theorem is_fault_other (f a b : Addr) (ca cb : Array Value) (ta tb : TypeId) (w : World) (hf : w.cell? ⟨f.block, f.off + 1, none⟩ = some (.iface 348 (.pointer (some a)))) (hne : a ≠ b) (ha : w.heap[a.block]? = some (.cells ca ta (0, 0))) (hb : w.heap[b.block]? = some (.cells cb tb (0, 0))) :
    Calls Tryz.prog 158 #[.iface 110 (.pointer (some f)), .iface 348 (.pointer (some b)), .bool true] w fun e w' => e = .returned (.bool false) ∧ w = w' := by
  obtain ⟨i, hi, hcmp⟩ := Option.map_eq_some_iff.1 isComp
  obtain ⟨j, hj, hjs⟩ := Option.map_eq_some_iff.1 isSize
  have he := run_eql_iface_ptr_other w Tryz.underlying60 Tryz.underlying348 hi hcmp hj (by rw [hjs]; decide) hne ha hb
  have hd := run_eql_iface_types 110 348 (.pointer (some f)) (.pointer (some b)) Tryz.underlying60 (by decide) w
  have n1 := noIsF
  have n2 := hasUnwrapF
  have n3 := methodUnwrapF
  have m1 := noIsE
  have m2 := noUnwrap
  have m3 := noUnwraps
  clear hi hcmp hj hjs hne ha hb
  go_enter Tryz.func158, Tryz.ntmps158
  go_wp2
  refine wp_loop_rounds 2 ?_
  rw [rounds_succ]
  go_wp2
  rw [rounds_succ]
  go_wp2
  go_ret
  exact ⟨rfl, rfl⟩
theorem Is_of (err : Value) (u : TypeId) (v : Value) (b : Addr) (r : Bool) (w : World) (he : err = .iface u v)
    (h : Calls Tryz.prog 158 #[err, .iface 348 (.pointer (some b)), .bool true] w fun e w' => e = .returned (.bool r) ∧ w = w') :
    Calls Tryz.prog 104 #[err, .iface 348 (.pointer (some b))] w fun e w' => e = .returned (.bool r) ∧ w = w' := by
  subst he
  have h10 := @run_callFunc_extern Tryz.prog 157 _ Extern.ReflectliteType.typeOf Tryz.func157 (by kernel_rfl) (by kernel_rfl) (by kernel_rfl) (by kernel_rfl)
  have h30 := @run_callFunc_extern Tryz.prog 339 _ cmpEntry Tryz.func339 (by kernel_rfl) (by kernel_rfl) (by kernel_rfl) (by kernel_rfl)
  have tT := typeOfE
  have cT := isComparable
  have mR := isMethodComparable
  have H := Lib.hid h
  clear h
  go_enter Tryz.func104, Tryz.ntmps104
  go_wp2_with (first | (go_at_call 158; refine H.out.mono ?_; rintro e w' ⟨rfl, rfl⟩) | go_in)
  go_ret
  exact ⟨rfl, rfl⟩
theorem Is_fault_same (f a : Addr) (w : World) (hf : w.cell? ⟨f.block, f.off + 1, none⟩ = some (.iface 348 (.pointer (some a)))) :
    Calls Tryz.prog 104 #[.iface 110 (.pointer (some f)), .iface 348 (.pointer (some a))] w fun e w' => e = .returned (.bool true) ∧ w = w' :=
  Is_of _ _ _ a true w rfl (is_fault_same f a w hf)
theorem Is_fault_other (f a b : Addr) (ca cb : Array Value) (ta tb : TypeId) (w : World) (hf : w.cell? ⟨f.block, f.off + 1, none⟩ = some (.iface 348 (.pointer (some a)))) (hne : a ≠ b) (ha : w.heap[a.block]? = some (.cells ca ta (0, 0))) (hb : w.heap[b.block]? = some (.cells cb tb (0, 0))) :
    Calls Tryz.prog 104 #[.iface 110 (.pointer (some f)), .iface 348 (.pointer (some b))] w fun e w' => e = .returned (.bool false) ∧ w = w' :=
  Is_of _ _ _ b false w rfl (is_fault_other f a b ca cb ta tb w hf hne ha hb)
end Er
end Go.Proofs.YtghkalamlcfnnaaGreatDoor
namespace Go.Proofs.YtghkalamlcfnnaaGreatDoor
open Go.RowKit
namespace Er
open Go.Proofs.YtghkalamlcfnnaaGreatDoor.Frame (Sent)
theorem Errs.below {w w' : World} {e : Nat → Addr} (h : Errs w e) (hb : Below w.heap.size w w') : Errs w' e :=
  ⟨h.s0.below hb, h.s1.below hb, h.s2.below hb, h.s3.below hb, h.s4.below hb, h.s5.below hb, h.s6.below hb, h.s7.below hb, h.s8.below hb, h.s9.below hb, h.s10.below hb, cell_later hb h.handle⟩
theorem Errs.row {w : World} {e : Nat → Addr} (h : Errs w e) (k : Nat) (hk : k < 11) : ∃ c t, w.heap[(e k).block]? = some (.cells c t (0, 0)) := by
  match k, hk with
  | 0, _ => exact h.s0.row
  | 1, _ => exact h.s1.row
  | 2, _ => exact h.s2.row
  | 3, _ => exact h.s3.row
  | 4, _ => exact h.s4.row
  | 5, _ => exact h.s5.row
  | 6, _ => exact h.s6.row
  | 7, _ => exact h.s7.row
  | 8, _ => exact h.s8.row
  | 9, _ => exact h.s9.row
  | 10, _ => exact h.s10.row
def txt (k : Nat) : List UInt8 := tx (([[116, 101, 120, 116], [98, 111, 117, 110, 100], [115, 104, 97, 112, 101], [110, 97, 109, 101], [110, 111, 110, 101], [101, 120, 105, 115, 116], [102, 117, 108, 108], [111, 114, 100, 101, 114], [115, 116, 97, 108, 101], [99, 108, 97, 115, 104], [111, 102, 102]] : List (List UInt8)).getD k [])
theorem Errs.str {w : World} {e : Nat → Addr} (h : Errs w e) (k : Nat) (hk : k < 11) : ∃ s : ByteArray, w.cell? (e k) = some (.string s) ∧ s.data.toList = txt k := by
  match k, hk with
  | 0, _ => exact h.s0.str
  | 1, _ => exact h.s1.str
  | 2, _ => exact h.s2.str
  | 3, _ => exact h.s3.str
  | 4, _ => exact h.s4.str
  | 5, _ => exact h.s5.str
  | 6, _ => exact h.s6.str
  | 7, _ => exact h.s7.str
  | 8, _ => exact h.s8.str
  | 9, _ => exact h.s9.str
  | 10, _ => exact h.s10.str
theorem txt_inj : ∀ i, i < 11 → ∀ j, j < 11 → txt i = txt j → i = j := by decide
theorem Errs.ne {w : World} {e : Nat → Addr} (h : Errs w e) {i j : Nat} (hi : i < 11) (hj : j < 11) (hne : i ≠ j) : e i ≠ e j := by
  intro he
  obtain ⟨s, a1, a2⟩ := h.str i hi
  obtain ⟨s', b1, b2⟩ := h.str j hj
  rw [he, b1] at a1
  injection a1 with a1
  injection a1 with a1
  subst a1
  exact hne (txt_inj i hi j hj (a2.symm.trans b2))
abbrev evs (e : Nat → Addr) : Array Value := #[ev (e 0), ev (e 1), ev (e 2), ev (e 3), ev (e 4), ev (e 5), ev (e 6), ev (e 7), ev (e 8), ev (e 9), ev (e 10)]
theorem evs_at (e : Nat → Addr) (k : Nat) (hk : k < 11) : (evs e)[k]? = some (ev (e k)) := by
  match k, hk with
  | 0, _ => rfl
  | 1, _ => rfl
  | 2, _ => rfl
  | 3, _ => rfl
  | 4, _ => rfl
  | 5, _ => rfl
  | 6, _ => rfl
  | 7, _ => rfl
  | 8, _ => rfl
  | 9, _ => rfl
  | 10, _ => rfl
theorem evs_cell (e : Nat → Addr) (w : World) (k : Nat) (hk : k < 11) : (w.alloc (.cells (evs e) 60)).cell? ⟨w.heap.size, k, none⟩ = some (ev (e k)) := by
  have h1 : (w.alloc (.cells (evs e) 60)).heap[w.heap.size]? = some (.cells (evs e) 60) := by
    show (w.heap.push _)[w.heap.size]? = _
    simp
  simp only [World.cell?, h1]
  exact evs_at e k hk
theorem alloc4 (w : World) (a b c d : Obj) (t : Addr) (v : Value) (ht : t.block < w.heap.size) (B : Nat) (hB : B ≤ t.block) : Below B w (((((w.alloc a).alloc b).alloc c).alloc d).setCell t v) :=
  (((((Below.refl B w).alloc (by omega) _).alloc (by simp; omega) _).alloc (by simp; omega) _).alloc (by simp; omega) _).setCell hB _
theorem as_hit_box (f : Addr) (w : World) (hg : (w.alloc (.cells #[.pointer none] 110)).cell? ⟨11, 0, none⟩ = some (.iface 246 (.agg #[.pointer (some ⟨20, 60, none⟩)]))) :
    Calls Tryz.prog 103 #[.iface 110 (.pointer (some f)), .iface 156 (.pointer (some ⟨w.heap.size, 0, none⟩))] (w.alloc (.cells #[.pointer none] 110)) fun e w' => e = .returned (.bool true) ∧
      Below w.heap.size (w.alloc (.cells #[.pointer none] 110)) w' ∧ w'.cell? ⟨w.heap.size, 0, none⟩ = some (.pointer (some f)) ∧ w.heap.size < w'.heap.size := by
  have hc : (w.alloc (.cells #[.pointer none] 110)).cell? ⟨w.heap.size, 0, none⟩ = some (.pointer none) ∧ (w.alloc (.cells #[.pointer none] 110)).frozen? ⟨w.heap.size, 0, none⟩ = false := ⟨by simp, by simp⟩
  refine (as_hit f ⟨w.heap.size, 0, none⟩ (.pointer none) _ hg hc.1 hc.2).mono ?_
  rintro e w' ⟨rfl, rfl⟩
  refine ⟨rfl, alloc4 _ _ _ _ _ _ _ (by simp) _ (Nat.le_refl _), ?_, ?_⟩
  · refine World.cell?_setCell_same' _ _ _ ?_
    rw [World.cell?_alloc_lt _ _ _ (by simp; omega), World.cell?_alloc_lt _ _ _ (by simp; omega), World.cell?_alloc_lt _ _ _ (by simp; omega), World.cell?_alloc_lt _ _ _ (by simp), hc.1]
    rfl
  · simp [World.setCell]; omega
set_option maxRecDepth 100000 in
set_option maxHeartbeats 1000000 in
theorem code_fault (e : Nat → Addr) (k : Nat) (hk : k < 11) (f : Addr) (at' : Int) (w : World) (he : Errs w e) (h1 : w.cell? f = some (.int .i64 at')) (h2 : w.cell? ⟨f.block, f.off + 1, none⟩ = some (ev (e k))) :
    Calls Tryz.prog 63 #[.iface 110 (.pointer (some f))] w fun e' w' => e' = .returned (.tuple #[.int .i64 (k + 1), .int .i64 at']) ∧ Below w.heap.size w w' := by
  have hb0 : Below w.heap.size w (w.alloc (.cells #[.pointer none] 110)) := (Below.refl _ w).alloc (Nat.le_refl _) _
  have he0 := he.below hb0
  have ha := as_hit_box f w he0.handle
  have HA := Lib.hid ha
  clear ha
  go_enter Tryz.func63, Tryz.ntmps63
  go_wp2_with fail
  refine HA.out.mono ?_
  rintro e' w1 ⟨rfl, hb1, hbox, hz1⟩
  have hb2 : Below w.heap.size w w1 := hb0.trans hb1
  have he1 := he.below hb2
  have k1 := cell_later hb2 h1
  have k2 := cell_later hb2 h2
  clear h1 h2
  have g0 := he1.s0.cell
  have g1 := he1.s1.cell
  have g2 := he1.s2.cell
  have g3 := he1.s3.cell
  have g4 := he1.s4.cell
  have g5 := he1.s5.cell
  have g6 := he1.s6.cell
  have g7 := he1.s7.cell
  have g8 := he1.s8.cell
  have g9 := he1.s9.cell
  have g10 := he1.s10.cell
  go_wp2_with fail
  have hcell := evs_cell e w1
  have hE : Errs (w1.alloc (.cells (evs e) 60)) e := he1.below ((Below.refl _ w1).alloc (Nat.le_refl _) _)
  have hbW : Below w.heap.size w (w1.alloc (.cells (evs e) 60)) := hb2.alloc hb2.size _
  have k3 : (w1.alloc (.cells (evs e) 60)).cell? ⟨f.block, f.off + 1, none⟩ = some (ev (e k)) := cell_later ((Below.refl _ w1).alloc (Nat.le_refl _) _) k2
  clear k1 k2 hbox hz1
  generalize w1.alloc (.cells (evs e) 60) = W at *
  generalize w1.heap.size = B at *
  clear g0 g1 g2 g3 g4 g5 g6 g7 g8 g9 g10 he1 hb1 hb2 hb0 he0 HA he
  go_loop [3, 29] (fun a i => a = .int .i64 at' ∧ ∃ j : Nat, j ≤ k ∧ i = .int .i64 j) (fun _ i => 11 - (intOf i).toNat)
  case atStart => exact ⟨rfl, 0, Nat.zero_le _, rfl⟩
  case round =>
    obtain ⟨rfl, j, hj, rfl⟩ := hrel
    have hc := hcell j (by omega)
    have hj1 : (j : Int) < 11 := by omega
    clear hcell
    by_cases hlt : j = k
    · subst hlt
      have hI := Is_fault_same f (e j) W k3
      have HI := Lib.hid hI
      clear hI
      go_wp2_with (go_at_call 104; refine HI.out.mono ?_; rintro e' w' ⟨rfl, rfl⟩)
      go_ret2
      exact ⟨rfl, hbW⟩
    · obtain ⟨c1, t1, r1⟩ := hE.row k hk
      obtain ⟨c2, t2, r2⟩ := hE.row j (by omega)
      have hI := Is_fault_other f (e k) (e j) c1 c2 t1 t2 W k3 (hE.ne hk (by omega) (by omega)) r1 r2
      have HI := Lib.hid hI
      clear hI r1 r2
      go_wp2_with (go_at_call 104; refine HI.out.mono ?_; rintro e' w' ⟨rfl, rfl⟩)
      go_round
      case rel => exact ⟨rfl, j + 1, by omega, by go_num⟩
      case measure => simp [intOf]; omega
end Er
end Go.Proofs.YtghkalamlcfnnaaGreatDoor
end
section
namespace Go.Proofs.YtghkalamlcfnnaaGreatDoor
open Go Go.RowKit
namespace Er
theorem etNamed : Tryz.prog.globalNamed "errors.errorType" = some 11 := by kernel_rfl
theorem rtOf : (Tryz.prog.cutTypes.find? (·.1 == "internal/reflectlite.rtype")).map (·.2) = some 246 := by kernel_rfl
theorem oneRow : ((List.range 381).filter fun t => Tryz.prog.rowNamed t [101, 114, 114, 111, 114]) = [60] := by kernel_rfl
theorem typesSize : Tryz.prog.types.size = 381 := by kernel_rfl
theorem handleIs : typeHandle Tryz.prog 60 = .pointer (some ⟨20, 60, none⟩) := by kernel_rfl
theorem handle_of {W : World} {laid : List (String × DataW Unit)} (h : laidMetH Tryz.prog laid W)
    (hf : (laid.filter fun x => x.2.handleName?.isSome) = [("errors.errorType", .iface "internal/reflectlite.rtype" (.agg [.ptr (.lit (.string [101, 114, 114, 111, 114]))]))]) :
    W.cell? ⟨11, 0, none⟩ = some (.iface 246 (.agg #[.pointer (some ⟨20, 60, none⟩)])) := by
  have h' := (laidMetH_iff.1 h).2
  rw [hf] at h'
  obtain ⟨name, u, ty, e1, e2, e3, e4, e5⟩ := h' _ (List.mem_singleton.2 rfl)
  have en : name = [101, 114, 114, 111, 114] := (Option.some.inj e1).symm
  subst en
  obtain rfl := Option.some.inj (rtOf.symm.trans e2)
  have hm : ty ∈ (List.range 381).filter fun t => Tryz.prog.rowNamed t [101, 114, 114, 111, 114] := List.mem_filter.2 ⟨List.mem_range.2 (by rw [← typesSize]; exact e3), e4⟩
  rw [oneRow] at hm
  obtain rfl := List.mem_singleton.1 hm
  rw [handleIs] at e5
  simpa using World.var?_cell etNamed e5 0
end Er
end Go.Proofs.YtghkalamlcfnnaaGreatDoor
end
section
namespace Go.Proofs.YtghkalamlcfnnaaGreatDoor
open Go Go.RowKit Lmd
namespace Cd2
open Rul Day Cand Er Rp
theorem faulted_at (e : Nat → Addr) (k : Nat) (hk : k < 11) (f : Nat) (n : Int) (w : World) (he : Errs w e) (hx : w.heap[f]? = some (.cells #[.int .i64 n, errV e (k + 1)] 112 (0, 0))) :
    Calls Tryz.prog 25 #[.iface 110 (.pointer (some ⟨f, 0, none⟩)), .agg #[.int .i64 ((k + 1 : Nat) : Int), .int .i64 n]] w fun e' w' => e' = .returned (.bool true) ∧ Below w.heap.size w w' := by
  have hk2 : ((k + 1 : Nat) : Int) = (k : Int) + 1 := by omega
  rw [hk2]
  obtain ⟨W1, hW1⟩ : ∃ W1, w.alloc (.cells #[.int .i64 ((k : Int) + 1), .int .i64 n] 64) = W1 := ⟨_, rfl⟩
  have hb1 : Below w.heap.size w W1 := by rw [← hW1]; exact (Below.refl _ w).alloc (Nat.le_refl _) _
  have hx1 := heap_new w (.cells #[.int .i64 ((k : Int) + 1), .int .i64 n] 64)
  rw [hW1] at hx1
  have hf1 := row_below' hx hb1
  obtain ⟨p0, p1, _⟩ := cells2 hf1
  have H := Lib.hid (code_fault e k hk ⟨f, 0, none⟩ n W1 (he.below hb1) p0 p1)
  have HW1 := Lib.hid hW1
  have HB1 := Lib.hid hb1
  have HX1 := Lib.hid hx1
  have hkk : (((k : Int) + 1) == 0) = false := by rw [beq_eq_false_iff_ne]; omega
  clear he hk2 hW1 hb1 hx1 hf1 p0 p1 hx
  go_enter Tryz.func25, Tryz.ntmps25
  go_wp2_with fail
  rw [HW1.out]
  (with_reducible refine H.out.mono ?_)
  rintro e1 w1 ⟨rfl, hb⟩
  have hx2 := row_below' HX1.out hb
  obtain ⟨q0, q1, _⟩ := cells2 hx2
  have HB := Lib.hid (HB1.out.trans (hb.mono HB1.out.size))
  clear hb hx2
  go_wp2_with fail
  go_ret
  exact ⟨rfl, HB.out⟩
end Cd2
end Go.Proofs.YtghkalamlcfnnaaGreatDoor
end
