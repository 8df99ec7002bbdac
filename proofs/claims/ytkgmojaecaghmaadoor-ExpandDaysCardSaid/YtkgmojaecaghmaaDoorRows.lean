/-
  NARROWER THAN 'FOR EVERY INPUT', by the rows' own cells (each row's printed sentence says how): ExpandCounts: laid · Names: laid · ExpandRises: laid · DayMonths: laid · DayBack: laid · ExpandDays: laid · DayDates: laid · DayAdds: laid · RuleBack: laid.
  DERIVED. THE GIVEN ROWS OF THIS SEAT. 9 by the template 'for every input the law returns true; each argument reads behind the call as it read before'; 0 by the template 'total and deterministic' (their statements: YtkgmojaecaghmaaDoorTotals.lean).
  GIVEN WITH THE SEED: the statements are not yours to turn. If you find one false, say at which input.
  Laid BY PROGRAM, IN A SANDBOX (cutbox-rows.mjs): the forced cells as the released guide's own fill.sh prints them over the translation 4ea52fb2dfa39c78… (all of the seat's roots in one cut). By AI agents, Wed Nov 11 2026. No macro, syntax, notation, axiom, sorry.
-/
import Derived.Test.YtkgmojaecaghmaaDoorChecked
import GoSem.PinnedTables
import GoSem.Claim
import GoSem.ClaimJoined
import GoSem.ClaimMapViews
import Derived.JoinedTies
import Derived.KernelRfl
namespace Go.Proofs.YtkgmojaecaghmaaDoor
/- THE CELL 'sum', in the pinned program and in every row, IS THE sha256 OF THE DUMP (.gsa) THAT YtkgmojaecaghmaaDoorProg.lean LOADS. Nothing in Lean hashes anything: it is a label: what it is worth is what the hold of that sum in a sandbox is worth. -/
noncomputable def Tryd.pinned : Pinned := { name := "ytkgmojaecaghmaadoor", sum := "4ea52fb2dfa39c7839e2a04bfc37546ac86c7b3be2c02e296df412f01e9ff7a0", checked := Tryd.checked }
namespace Rows
def none {H : Type} : Left H := { results := [], args := [] }

/- WHAT THE LISTED PACKAGE-LEVEL VARIABLES READ AS WHEN THE CALL BEGINS. Each datum BY PROGRAM (the guide's laid-datum.mjs) off the statement by which the dump's own 'gosem.cut.vars' lays the variable. In a bare row this is a premise. The card (YtkgmojaecaghmaaDoorCards.lean) ties it to the program's text. -/
def laid_lammastide_api_ErrBound {H : Type} : DataW H := .iface "*errors.errorString" (.ptr (.agg [.lit (.string [108, 97, 109, 109, 97, 115, 116, 105, 100, 101, 58, 32, 98, 111, 117, 110, 100])]))
def laid_lammastide_api_ErrShape {H : Type} : DataW H := .iface "*errors.errorString" (.ptr (.agg [.lit (.string [108, 97, 109, 109, 97, 115, 116, 105, 100, 101, 58, 32, 115, 104, 97, 112, 101])]))
def laid_lammastide_api_ErrName {H : Type} : DataW H := .iface "*errors.errorString" (.ptr (.agg [.lit (.string [108, 97, 109, 109, 97, 115, 116, 105, 100, 101, 58, 32, 110, 97, 109, 101])]))
def laid_lammastide_api_ErrOrder {H : Type} : DataW H := .iface "*errors.errorString" (.ptr (.agg [.lit (.string [108, 97, 109, 109, 97, 115, 116, 105, 100, 101, 58, 32, 111, 114, 100, 101, 114])]))
def laid_errors_errorType {H : Type} : DataW H := .iface "internal/reflectlite.rtype" (.agg [.ptr (.lit (.string [101, 114, 114, 111, 114]))])
def laid_lammastide_api_ErrText {H : Type} : DataW H := .iface "*errors.errorString" (.ptr (.agg [.lit (.string [108, 97, 109, 109, 97, 115, 116, 105, 100, 101, 58, 32, 116, 101, 120, 116])]))
def laid_lammastide_api_ErrNone {H : Type} : DataW H := .iface "*errors.errorString" (.ptr (.agg [.lit (.string [108, 97, 109, 109, 97, 115, 116, 105, 100, 101, 58, 32, 110, 111, 110, 101])]))
def laid_lammastide_api_ErrExist {H : Type} : DataW H := .iface "*errors.errorString" (.ptr (.agg [.lit (.string [108, 97, 109, 109, 97, 115, 116, 105, 100, 101, 58, 32, 101, 120, 105, 115, 116])]))
def laid_lammastide_api_ErrFull {H : Type} : DataW H := .iface "*errors.errorString" (.ptr (.agg [.lit (.string [108, 97, 109, 109, 97, 115, 116, 105, 100, 101, 58, 32, 102, 117, 108, 108])]))
def laid_lammastide_api_ErrStale {H : Type} : DataW H := .iface "*errors.errorString" (.ptr (.agg [.lit (.string [108, 97, 109, 109, 97, 115, 116, 105, 100, 101, 58, 32, 115, 116, 97, 108, 101])]))
def laid_lammastide_api_ErrClash {H : Type} : DataW H := .iface "*errors.errorString" (.ptr (.agg [.lit (.string [108, 97, 109, 109, 97, 115, 116, 105, 100, 101, 58, 32, 99, 108, 97, 115, 104])]))
def laid_lammastide_api_ErrOff {H : Type} : DataW H := .iface "*errors.errorString" (.ptr (.agg [.lit (.string [108, 97, 109, 109, 97, 115, 116, 105, 100, 101, 58, 32, 111, 102, 102])]))
def laid_math_bits_deBruijn32tab {H : Type} : DataW H := .agg [.lit (.int .u8 0), .lit (.int .u8 1), .lit (.int .u8 28), .lit (.int .u8 2), .lit (.int .u8 29), .lit (.int .u8 14), .lit (.int .u8 24), .lit (.int .u8 3), .lit (.int .u8 30), .lit (.int .u8 22), .lit (.int .u8 20), .lit (.int .u8 15), .lit (.int .u8 25), .lit (.int .u8 17), .lit (.int .u8 4), .lit (.int .u8 8), .lit (.int .u8 31), .lit (.int .u8 27), .lit (.int .u8 13), .lit (.int .u8 23), .lit (.int .u8 21), .lit (.int .u8 19), .lit (.int .u8 16), .lit (.int .u8 7), .lit (.int .u8 26), .lit (.int .u8 12), .lit (.int .u8 18), .lit (.int .u8 6), .lit (.int .u8 11), .lit (.int .u8 5), .lit (.int .u8 10), .lit (.int .u8 9)]
def laid_math_bits_deBruijn64tab {H : Type} : DataW H := .agg [.lit (.int .u8 0), .lit (.int .u8 1), .lit (.int .u8 56), .lit (.int .u8 2), .lit (.int .u8 57), .lit (.int .u8 49), .lit (.int .u8 28), .lit (.int .u8 3), .lit (.int .u8 61), .lit (.int .u8 58), .lit (.int .u8 42), .lit (.int .u8 50), .lit (.int .u8 38), .lit (.int .u8 29), .lit (.int .u8 17), .lit (.int .u8 4), .lit (.int .u8 62), .lit (.int .u8 47), .lit (.int .u8 59), .lit (.int .u8 36), .lit (.int .u8 45), .lit (.int .u8 43), .lit (.int .u8 51), .lit (.int .u8 22), .lit (.int .u8 53), .lit (.int .u8 39), .lit (.int .u8 33), .lit (.int .u8 30), .lit (.int .u8 24), .lit (.int .u8 18), .lit (.int .u8 12), .lit (.int .u8 5), .lit (.int .u8 63), .lit (.int .u8 55), .lit (.int .u8 48), .lit (.int .u8 27), .lit (.int .u8 60), .lit (.int .u8 41), .lit (.int .u8 37), .lit (.int .u8 16), .lit (.int .u8 46), .lit (.int .u8 35), .lit (.int .u8 44), .lit (.int .u8 21), .lit (.int .u8 52), .lit (.int .u8 32), .lit (.int .u8 23), .lit (.int .u8 11), .lit (.int .u8 54), .lit (.int .u8 26), .lit (.int .u8 40), .lit (.int .u8 15), .lit (.int .u8 34), .lit (.int .u8 20), .lit (.int .u8 31), .lit (.int .u8 10), .lit (.int .u8 25), .lit (.int .u8 14), .lit (.int .u8 19), .lit (.int .u8 9), .lit (.int .u8 13), .lit (.int .u8 8), .lit (.int .u8 7), .lit (.int .u8 6)]
def laid_internal_strconv_uint64pow10 {H : Type} : DataW H := .agg [.lit (.int .u64 1), .lit (.int .u64 10), .lit (.int .u64 100), .lit (.int .u64 1000), .lit (.int .u64 10000), .lit (.int .u64 100000), .lit (.int .u64 1000000), .lit (.int .u64 10000000), .lit (.int .u64 100000000), .lit (.int .u64 1000000000), .lit (.int .u64 10000000000), .lit (.int .u64 100000000000), .lit (.int .u64 1000000000000), .lit (.int .u64 10000000000000), .lit (.int .u64 100000000000000), .lit (.int .u64 1000000000000000), .lit (.int .u64 10000000000000000), .lit (.int .u64 100000000000000000), .lit (.int .u64 1000000000000000000), .lit (.int .u64 10000000000000000000)]
def laid_unicode_utf8_acceptRanges {H : Type} : DataW H := .agg [.agg [.lit (.int .u8 128), .lit (.int .u8 191)], .agg [.lit (.int .u8 160), .lit (.int .u8 191)], .agg [.lit (.int .u8 128), .lit (.int .u8 159)], .agg [.lit (.int .u8 144), .lit (.int .u8 191)], .agg [.lit (.int .u8 128), .lit (.int .u8 143)], .agg [.lit (.int .u8 0), .lit (.int .u8 0)], .agg [.lit (.int .u8 0), .lit (.int .u8 0)], .agg [.lit (.int .u8 0), .lit (.int .u8 0)], .agg [.lit (.int .u8 0), .lit (.int .u8 0)], .agg [.lit (.int .u8 0), .lit (.int .u8 0)], .agg [.lit (.int .u8 0), .lit (.int .u8 0)], .agg [.lit (.int .u8 0), .lit (.int .u8 0)], .agg [.lit (.int .u8 0), .lit (.int .u8 0)], .agg [.lit (.int .u8 0), .lit (.int .u8 0)], .agg [.lit (.int .u8 0), .lit (.int .u8 0)], .agg [.lit (.int .u8 0), .lit (.int .u8 0)]]
def laid_strconv_ErrRange {H : Type} : DataW H := .iface "*errors.errorString" (.ptr (.agg [.lit (.string [118, 97, 108, 117, 101, 32, 111, 117, 116, 32, 111, 102, 32, 114, 97, 110, 103, 101])]))
def laid_strconv_ErrSyntax {H : Type} : DataW H := .iface "*errors.errorString" (.ptr (.agg [.lit (.string [105, 110, 118, 97, 108, 105, 100, 32, 115, 121, 110, 116, 97, 120])]))
/-- One of Go's own tables, pinned by name: the form's constant. -/
def laid_unicode_utf8_first : DataW Unit := Go.Pinned.utf8First

/-- 'lammastidelaw1.ExpandCounts': WHATEVER THE INPUT: true; the input reads as it did. -/
def expandCountsSpec : ChangeSpec := { name := "expandCounts", fn := fun _ => fun
  | [d1, d2, d3, d4] => { results := [.lit (.bool true)], args := [d1, d2, d3, d4] }
  | _ => none }
def expandCountsRow : OpenClaim := { program := "ytkgmojaecaghmaadoor", sum := "4ea52fb2dfa39c7839e2a04bfc37546ac86c7b3be2c02e296df412f01e9ff7a0", func := "lammastide/lammastidelaw1.ExpandCounts", spec := "expandCounts", unfollowed := true, recurses := true, named := ["lammastide/api.ErrName", "lammastide/api.ErrBound", "lammastide/api.ErrShape", "lammastide/api.ErrOrder"], apart := false, laid := [("lammastide/api.ErrBound", laid_lammastide_api_ErrBound), ("lammastide/api.ErrShape", laid_lammastide_api_ErrShape), ("lammastide/api.ErrName", laid_lammastide_api_ErrName), ("lammastide/api.ErrOrder", laid_lammastide_api_ErrOrder)] }
def ExpandCountsSaid : Prop := expandCountsRow.holds Tryd.pinned (OpenSpec.ofChange expandCountsSpec)

/-- ITS FALSE NEIGHBOUR: 'it returns false'. Refute it at one input. -/
def expandCountsWrong : ChangeSpec := { name := "expandCounts", fn := fun _ => fun
  | [d1, d2, d3, d4] => { results := [.lit (.bool false)], args := [d1, d2, d3, d4] }
  | _ => none }
def ExpandCountsWrongFalsely : Prop := expandCountsRow.holds Tryd.pinned (OpenSpec.ofChange expandCountsWrong)

/-- 'lammastidelaw1.Names': WHATEVER THE INPUT: true; the input reads as it did. -/
def namesSpec : ChangeSpec := { name := "names", fn := fun _ => fun
  | [] => { results := [.lit (.bool true)], args := [] }
  | _ => none }
def namesRow : OpenClaim := { program := "ytkgmojaecaghmaadoor", sum := "4ea52fb2dfa39c7839e2a04bfc37546ac86c7b3be2c02e296df412f01e9ff7a0", func := "lammastide/lammastidelaw1.Names", spec := "names", inPlace := ["internal/reflectlite.ValueOf", "(internal/reflectlite.Value).Type", "(internal/reflectlite.Value).IsNil", "internal/reflectlite.TypeOf", "(internal/reflectlite.Value).Elem", "(internal/reflectlite.Value).Set"], unfollowed := true, recurses := true, named := ["lammastide/api.ErrText", "lammastide/api.ErrBound", "lammastide/api.ErrShape", "lammastide/api.ErrName", "lammastide/api.ErrNone", "lammastide/api.ErrExist", "lammastide/api.ErrFull", "lammastide/api.ErrOrder", "lammastide/api.ErrStale", "lammastide/api.ErrClash", "lammastide/api.ErrOff", "errors.errorType"], apart := false, laid := [("errors.errorType", laid_errors_errorType), ("lammastide/api.ErrText", laid_lammastide_api_ErrText), ("lammastide/api.ErrBound", laid_lammastide_api_ErrBound), ("lammastide/api.ErrShape", laid_lammastide_api_ErrShape), ("lammastide/api.ErrName", laid_lammastide_api_ErrName), ("lammastide/api.ErrNone", laid_lammastide_api_ErrNone), ("lammastide/api.ErrExist", laid_lammastide_api_ErrExist), ("lammastide/api.ErrFull", laid_lammastide_api_ErrFull), ("lammastide/api.ErrOrder", laid_lammastide_api_ErrOrder), ("lammastide/api.ErrStale", laid_lammastide_api_ErrStale), ("lammastide/api.ErrClash", laid_lammastide_api_ErrClash), ("lammastide/api.ErrOff", laid_lammastide_api_ErrOff)] }
def NamesSaid : Prop := namesRow.holds Tryd.pinned (OpenSpec.ofChange namesSpec)

/-- ITS FALSE NEIGHBOUR: 'it returns false'. Refute it at one input. -/
def namesWrong : ChangeSpec := { name := "names", fn := fun _ => fun
  | [] => { results := [.lit (.bool false)], args := [] }
  | _ => none }
def NamesWrongFalsely : Prop := namesRow.holds Tryd.pinned (OpenSpec.ofChange namesWrong)

/-- 'lammastidelaw1.ExpandRises': WHATEVER THE INPUT: true; the input reads as it did. -/
def expandRisesSpec : ChangeSpec := { name := "expandRises", fn := fun _ => fun
  | [d1, d2, d3] => { results := [.lit (.bool true)], args := [d1, d2, d3] }
  | _ => none }
def expandRisesRow : OpenClaim := { program := "ytkgmojaecaghmaadoor", sum := "4ea52fb2dfa39c7839e2a04bfc37546ac86c7b3be2c02e296df412f01e9ff7a0", func := "lammastide/lammastidelaw1.ExpandRises", spec := "expandRises", unfollowed := true, recurses := true, named := ["lammastide/api.ErrName", "lammastide/api.ErrBound", "lammastide/api.ErrShape", "lammastide/api.ErrOrder"], apart := false, laid := [("lammastide/api.ErrBound", laid_lammastide_api_ErrBound), ("lammastide/api.ErrShape", laid_lammastide_api_ErrShape), ("lammastide/api.ErrName", laid_lammastide_api_ErrName), ("lammastide/api.ErrOrder", laid_lammastide_api_ErrOrder)] }
def ExpandRisesSaid : Prop := expandRisesRow.holds Tryd.pinned (OpenSpec.ofChange expandRisesSpec)

/-- ITS FALSE NEIGHBOUR: 'it returns false'. Refute it at one input. -/
def expandRisesWrong : ChangeSpec := { name := "expandRises", fn := fun _ => fun
  | [d1, d2, d3] => { results := [.lit (.bool false)], args := [d1, d2, d3] }
  | _ => none }
def ExpandRisesWrongFalsely : Prop := expandRisesRow.holds Tryd.pinned (OpenSpec.ofChange expandRisesWrong)

/-- 'lammastidelaw1.DayMonths': WHATEVER THE INPUT: true; the input reads as it did. -/
def dayMonthsSpec : ChangeSpec := { name := "dayMonths", fn := fun _ => fun
  | [d1, d2, d3] => { results := [.lit (.bool true)], args := [d1, d2, d3] }
  | _ => none }
def dayMonthsRow : OpenClaim := { program := "ytkgmojaecaghmaadoor", sum := "4ea52fb2dfa39c7839e2a04bfc37546ac86c7b3be2c02e296df412f01e9ff7a0", func := "lammastide/lammastidelaw1.DayMonths", spec := "dayMonths", named := ["lammastide/api.ErrBound", "internal/strconv.uint64pow10", "math/bits.deBruijn32tab", "math/bits.deBruijn64tab"], apart := false, laid := [("math/bits.deBruijn32tab", laid_math_bits_deBruijn32tab), ("math/bits.deBruijn64tab", laid_math_bits_deBruijn64tab), ("internal/strconv.uint64pow10", laid_internal_strconv_uint64pow10), ("lammastide/api.ErrBound", laid_lammastide_api_ErrBound)] }
def DayMonthsSaid : Prop := dayMonthsRow.holds Tryd.pinned (OpenSpec.ofChange dayMonthsSpec)

/-- ITS FALSE NEIGHBOUR: 'it returns false'. Refute it at one input. -/
def dayMonthsWrong : ChangeSpec := { name := "dayMonths", fn := fun _ => fun
  | [d1, d2, d3] => { results := [.lit (.bool false)], args := [d1, d2, d3] }
  | _ => none }
def DayMonthsWrongFalsely : Prop := dayMonthsRow.holds Tryd.pinned (OpenSpec.ofChange dayMonthsWrong)

/-- 'lammastidelaw1.DayBack': WHATEVER THE INPUT: true; the input reads as it did. -/
def dayBackSpec : ChangeSpec := { name := "dayBack", fn := fun _ => fun
  | [d] => { results := [.lit (.bool true)], args := [d] }
  | _ => none }
def dayBackRow : OpenClaim := { program := "ytkgmojaecaghmaadoor", sum := "4ea52fb2dfa39c7839e2a04bfc37546ac86c7b3be2c02e296df412f01e9ff7a0", func := "lammastide/lammastidelaw1.DayBack", spec := "dayBack", named := ["lammastide/api.ErrBound", "internal/strconv.uint64pow10", "math/bits.deBruijn32tab", "math/bits.deBruijn64tab", "lammastide/api.ErrText"], apart := false, laid := [("math/bits.deBruijn32tab", laid_math_bits_deBruijn32tab), ("math/bits.deBruijn64tab", laid_math_bits_deBruijn64tab), ("internal/strconv.uint64pow10", laid_internal_strconv_uint64pow10), ("lammastide/api.ErrText", laid_lammastide_api_ErrText), ("lammastide/api.ErrBound", laid_lammastide_api_ErrBound)] }
def DayBackSaid : Prop := dayBackRow.holds Tryd.pinned (OpenSpec.ofChange dayBackSpec)

/-- ITS FALSE NEIGHBOUR: 'it returns false'. Refute it at one input. -/
def dayBackWrong : ChangeSpec := { name := "dayBack", fn := fun _ => fun
  | [d] => { results := [.lit (.bool false)], args := [d] }
  | _ => none }
def DayBackWrongFalsely : Prop := dayBackRow.holds Tryd.pinned (OpenSpec.ofChange dayBackWrong)

/-- 'lammastidelaw1.ExpandDays': WHATEVER THE INPUT: true; the input reads as it did. -/
def expandDaysSpec : ChangeSpec := { name := "expandDays", fn := fun _ => fun
  | [d1, d2, d3, d4, d5, d6] => { results := [.lit (.bool true)], args := [d1, d2, d3, d4, d5, d6] }
  | _ => none }
def expandDaysRow : OpenClaim := { program := "ytkgmojaecaghmaadoor", sum := "4ea52fb2dfa39c7839e2a04bfc37546ac86c7b3be2c02e296df412f01e9ff7a0", func := "lammastide/lammastidelaw1.ExpandDays", spec := "expandDays", inPlace := ["internal/reflectlite.ValueOf", "(internal/reflectlite.Value).Type", "(internal/reflectlite.Value).IsNil", "internal/reflectlite.TypeOf", "(internal/reflectlite.Value).Elem", "(internal/reflectlite.Value).Set"], unfollowed := true, recurses := true, named := ["lammastide/api.ErrName", "lammastide/api.ErrBound", "lammastide/api.ErrShape", "lammastide/api.ErrOrder", "lammastide/api.ErrFull", "lammastide/api.ErrText", "lammastide/api.ErrNone", "lammastide/api.ErrExist", "lammastide/api.ErrStale", "lammastide/api.ErrClash", "lammastide/api.ErrOff", "errors.errorType"], apart := false, laid := [("errors.errorType", laid_errors_errorType), ("lammastide/api.ErrText", laid_lammastide_api_ErrText), ("lammastide/api.ErrBound", laid_lammastide_api_ErrBound), ("lammastide/api.ErrShape", laid_lammastide_api_ErrShape), ("lammastide/api.ErrName", laid_lammastide_api_ErrName), ("lammastide/api.ErrNone", laid_lammastide_api_ErrNone), ("lammastide/api.ErrExist", laid_lammastide_api_ErrExist), ("lammastide/api.ErrFull", laid_lammastide_api_ErrFull), ("lammastide/api.ErrOrder", laid_lammastide_api_ErrOrder), ("lammastide/api.ErrStale", laid_lammastide_api_ErrStale), ("lammastide/api.ErrClash", laid_lammastide_api_ErrClash), ("lammastide/api.ErrOff", laid_lammastide_api_ErrOff)] }
def ExpandDaysSaid : Prop := expandDaysRow.holds Tryd.pinned (OpenSpec.ofChange expandDaysSpec)

/-- ITS FALSE NEIGHBOUR: 'it returns false'. Refute it at one input. -/
def expandDaysWrong : ChangeSpec := { name := "expandDays", fn := fun _ => fun
  | [d1, d2, d3, d4, d5, d6] => { results := [.lit (.bool false)], args := [d1, d2, d3, d4, d5, d6] }
  | _ => none }
def ExpandDaysWrongFalsely : Prop := expandDaysRow.holds Tryd.pinned (OpenSpec.ofChange expandDaysWrong)

/-- 'lammastidelaw1.DayDates': WHATEVER THE INPUT: true; the input reads as it did. -/
def dayDatesSpec : ChangeSpec := { name := "dayDates", fn := fun _ => fun
  | [d1, d2, d3, d4] => { results := [.lit (.bool true)], args := [d1, d2, d3, d4] }
  | _ => none }
def dayDatesRow : OpenClaim := { program := "ytkgmojaecaghmaadoor", sum := "4ea52fb2dfa39c7839e2a04bfc37546ac86c7b3be2c02e296df412f01e9ff7a0", func := "lammastide/lammastidelaw1.DayDates", spec := "dayDates", inPlace := ["internal/reflectlite.ValueOf", "(internal/reflectlite.Value).Type", "(internal/reflectlite.Value).IsNil", "internal/reflectlite.TypeOf", "(internal/reflectlite.Value).Elem", "(internal/reflectlite.Value).Set"], unfollowed := true, recurses := true, named := ["lammastide/api.ErrBound", "internal/strconv.uint64pow10", "math/bits.deBruijn32tab", "math/bits.deBruijn64tab", "lammastide/api.ErrText", "lammastide/api.ErrShape", "lammastide/api.ErrName", "lammastide/api.ErrNone", "lammastide/api.ErrExist", "lammastide/api.ErrFull", "lammastide/api.ErrOrder", "lammastide/api.ErrStale", "lammastide/api.ErrClash", "lammastide/api.ErrOff", "errors.errorType"], apart := false, laid := [("math/bits.deBruijn32tab", laid_math_bits_deBruijn32tab), ("math/bits.deBruijn64tab", laid_math_bits_deBruijn64tab), ("internal/strconv.uint64pow10", laid_internal_strconv_uint64pow10), ("errors.errorType", laid_errors_errorType), ("lammastide/api.ErrText", laid_lammastide_api_ErrText), ("lammastide/api.ErrBound", laid_lammastide_api_ErrBound), ("lammastide/api.ErrShape", laid_lammastide_api_ErrShape), ("lammastide/api.ErrName", laid_lammastide_api_ErrName), ("lammastide/api.ErrNone", laid_lammastide_api_ErrNone), ("lammastide/api.ErrExist", laid_lammastide_api_ErrExist), ("lammastide/api.ErrFull", laid_lammastide_api_ErrFull), ("lammastide/api.ErrOrder", laid_lammastide_api_ErrOrder), ("lammastide/api.ErrStale", laid_lammastide_api_ErrStale), ("lammastide/api.ErrClash", laid_lammastide_api_ErrClash), ("lammastide/api.ErrOff", laid_lammastide_api_ErrOff)] }
def DayDatesSaid : Prop := dayDatesRow.holds Tryd.pinned (OpenSpec.ofChange dayDatesSpec)

/-- ITS FALSE NEIGHBOUR: 'it returns false'. Refute it at one input. -/
def dayDatesWrong : ChangeSpec := { name := "dayDates", fn := fun _ => fun
  | [d1, d2, d3, d4] => { results := [.lit (.bool false)], args := [d1, d2, d3, d4] }
  | _ => none }
def DayDatesWrongFalsely : Prop := dayDatesRow.holds Tryd.pinned (OpenSpec.ofChange dayDatesWrong)

/-- 'lammastidelaw1.DayAdds': WHATEVER THE INPUT: true; the input reads as it did. -/
def dayAddsSpec : ChangeSpec := { name := "dayAdds", fn := fun _ => fun
  | [d1, d2, d3] => { results := [.lit (.bool true)], args := [d1, d2, d3] }
  | _ => none }
def dayAddsRow : OpenClaim := { program := "ytkgmojaecaghmaadoor", sum := "4ea52fb2dfa39c7839e2a04bfc37546ac86c7b3be2c02e296df412f01e9ff7a0", func := "lammastide/lammastidelaw1.DayAdds", spec := "dayAdds", inPlace := ["internal/reflectlite.ValueOf", "(internal/reflectlite.Value).Type", "(internal/reflectlite.Value).IsNil", "internal/reflectlite.TypeOf", "(internal/reflectlite.Value).Elem", "(internal/reflectlite.Value).Set"], unfollowed := true, recurses := true, named := ["lammastide/api.ErrBound", "internal/strconv.uint64pow10", "math/bits.deBruijn32tab", "math/bits.deBruijn64tab", "lammastide/api.ErrText", "lammastide/api.ErrShape", "lammastide/api.ErrName", "lammastide/api.ErrNone", "lammastide/api.ErrExist", "lammastide/api.ErrFull", "lammastide/api.ErrOrder", "lammastide/api.ErrStale", "lammastide/api.ErrClash", "lammastide/api.ErrOff", "errors.errorType"], apart := false, laid := [("math/bits.deBruijn32tab", laid_math_bits_deBruijn32tab), ("math/bits.deBruijn64tab", laid_math_bits_deBruijn64tab), ("internal/strconv.uint64pow10", laid_internal_strconv_uint64pow10), ("errors.errorType", laid_errors_errorType), ("lammastide/api.ErrText", laid_lammastide_api_ErrText), ("lammastide/api.ErrBound", laid_lammastide_api_ErrBound), ("lammastide/api.ErrShape", laid_lammastide_api_ErrShape), ("lammastide/api.ErrName", laid_lammastide_api_ErrName), ("lammastide/api.ErrNone", laid_lammastide_api_ErrNone), ("lammastide/api.ErrExist", laid_lammastide_api_ErrExist), ("lammastide/api.ErrFull", laid_lammastide_api_ErrFull), ("lammastide/api.ErrOrder", laid_lammastide_api_ErrOrder), ("lammastide/api.ErrStale", laid_lammastide_api_ErrStale), ("lammastide/api.ErrClash", laid_lammastide_api_ErrClash), ("lammastide/api.ErrOff", laid_lammastide_api_ErrOff)] }
def DayAddsSaid : Prop := dayAddsRow.holds Tryd.pinned (OpenSpec.ofChange dayAddsSpec)

/-- ITS FALSE NEIGHBOUR: 'it returns false'. Refute it at one input. -/
def dayAddsWrong : ChangeSpec := { name := "dayAdds", fn := fun _ => fun
  | [d1, d2, d3] => { results := [.lit (.bool false)], args := [d1, d2, d3] }
  | _ => none }
def DayAddsWrongFalsely : Prop := dayAddsRow.holds Tryd.pinned (OpenSpec.ofChange dayAddsWrong)

/-- 'lammastidelaw1.RuleBack': WHATEVER THE INPUT: true; the input reads as it did. -/
def ruleBackSpec : ChangeSpec := { name := "ruleBack", fn := fun _ => fun
  | [d1, d2] => { results := [.lit (.bool true)], args := [d1, d2] }
  | _ => none }
def ruleBackRow : OpenClaim := { program := "ytkgmojaecaghmaadoor", sum := "4ea52fb2dfa39c7839e2a04bfc37546ac86c7b3be2c02e296df412f01e9ff7a0", func := "lammastide/lammastidelaw1.RuleBack", spec := "ruleBack", inPlace := ["internal/abi.NoEscape", "internal/bytealg.MakeNoZero", "internal/bytealg.CountString", "internal/bytealg.IndexByteString", "internal/bytealg.IndexString"], unfollowed := true, recurses := true, named := ["lammastide/api.ErrName", "lammastide/api.ErrBound", "lammastide/api.ErrShape", "lammastide/api.ErrOrder", "internal/strconv.uint64pow10", "math/bits.deBruijn32tab", "math/bits.deBruijn64tab", "lammastide/api.ErrText", "unicode/utf8.first", "unicode/utf8.acceptRanges", "internal/bytealg.MaxLen", "strconv.ErrSyntax", "strconv.ErrRange"], apart := false, laid := [("math/bits.deBruijn32tab", laid_math_bits_deBruijn32tab), ("math/bits.deBruijn64tab", laid_math_bits_deBruijn64tab), ("internal/strconv.uint64pow10", laid_internal_strconv_uint64pow10), ("unicode/utf8.acceptRanges", laid_unicode_utf8_acceptRanges), ("lammastide/api.ErrText", laid_lammastide_api_ErrText), ("lammastide/api.ErrBound", laid_lammastide_api_ErrBound), ("lammastide/api.ErrShape", laid_lammastide_api_ErrShape), ("lammastide/api.ErrName", laid_lammastide_api_ErrName), ("lammastide/api.ErrOrder", laid_lammastide_api_ErrOrder), ("strconv.ErrRange", laid_strconv_ErrRange), ("strconv.ErrSyntax", laid_strconv_ErrSyntax), ("unicode/utf8.first", laid_unicode_utf8_first)] }
def RuleBackSaid : Prop := ruleBackRow.holds Tryd.pinned (OpenSpec.ofChange ruleBackSpec)

/-- ITS FALSE NEIGHBOUR: 'it returns false'. Refute it at one input. -/
def ruleBackWrong : ChangeSpec := { name := "ruleBack", fn := fun _ => fun
  | [d1, d2] => { results := [.lit (.bool false)], args := [d1, d2] }
  | _ => none }
def RuleBackWrongFalsely : Prop := ruleBackRow.holds Tryd.pinned (OpenSpec.ofChange ruleBackWrong)

/- THE SECOND FORM. 'bulk': how many values and letters a reading holds, each counted each time it is reached (what is shared counts as often as it is met; a slice's spare places count too). A statement '..UptoSaid' is the law's where the arguments, and the package variables that the reading takes, are together of bulk at most 1048576: NARROWER than '..Said'. Prove '..Said' where nothing that the law and all that it calls make is longer than what came in: it says more and counts as full. Else prove '..UptoSaid'. A law counts once. -/
mutual
def uptoBulk {H : Type} : DataW H → Nat
  | .lit (.string bytes) => bytes.length + 1
  | .lit _ => 1
  | .nil => 1
  | .ptr d => uptoBulk d + 1
  | .slice elems spare => uptoBulkAll elems + uptoBulkAll spare + 1
  | .agg parts => uptoBulkAll parts + 1
  | .iface _ d => uptoBulk d + 1
  | .map entries => uptoBulkEntries entries + 1
  | .held _ => 1
def uptoBulkAll {H : Type} : List (DataW H) → Nat
  | [] => 0
  | d :: r => uptoBulk d + uptoBulkAll r
def uptoBulkEntries {H : Type} : List (Lit × DataW H) → Nat
  | [] => 0
  | x :: r => uptoBulkEntry x + uptoBulkEntries r
def uptoBulkEntry {H : Type} : Lit × DataW H → Nat
  | (.string bytes, d) => bytes.length + uptoBulk d + 1
  | (_, d) => uptoBulk d + 1
 end
def uptoSmall : (H : Type) → List (DataW H) → Bool := fun _ ds => decide (uptoBulkAll ds ≤ 1048576)
def OpenSpec.upto (s : _root_.Go.ChangeSpec) : _root_.Go.OpenSpec := { _root_.Go.OpenSpec.ofChange s with cond := some uptoSmall }

/-- 'lammastidelaw1.ExpandCounts', WHERE WHAT IT READS IS OF BULK AT MOST 1048576: true; the input reads as it did. -/
def expandCountsUptoRow : OpenClaim := { program := "ytkgmojaecaghmaadoor", sum := "4ea52fb2dfa39c7839e2a04bfc37546ac86c7b3be2c02e296df412f01e9ff7a0", func := "lammastide/lammastidelaw1.ExpandCounts", spec := "expandCounts", unfollowed := true, recurses := true, named := ["lammastide/api.ErrName", "lammastide/api.ErrBound", "lammastide/api.ErrShape", "lammastide/api.ErrOrder"], apart := false, laid := [("lammastide/api.ErrBound", laid_lammastide_api_ErrBound), ("lammastide/api.ErrShape", laid_lammastide_api_ErrShape), ("lammastide/api.ErrName", laid_lammastide_api_ErrName), ("lammastide/api.ErrOrder", laid_lammastide_api_ErrOrder)], narrowed := true }
def ExpandCountsUptoSaid : Prop := expandCountsUptoRow.holds Tryd.pinned (OpenSpec.upto expandCountsSpec)

/-- 'lammastidelaw1.Names', WHERE WHAT IT READS IS OF BULK AT MOST 1048576: true; the input reads as it did. -/
def namesUptoRow : OpenClaim := { program := "ytkgmojaecaghmaadoor", sum := "4ea52fb2dfa39c7839e2a04bfc37546ac86c7b3be2c02e296df412f01e9ff7a0", func := "lammastide/lammastidelaw1.Names", spec := "names", inPlace := ["internal/reflectlite.ValueOf", "(internal/reflectlite.Value).Type", "(internal/reflectlite.Value).IsNil", "internal/reflectlite.TypeOf", "(internal/reflectlite.Value).Elem", "(internal/reflectlite.Value).Set"], unfollowed := true, recurses := true, named := ["lammastide/api.ErrText", "lammastide/api.ErrBound", "lammastide/api.ErrShape", "lammastide/api.ErrName", "lammastide/api.ErrNone", "lammastide/api.ErrExist", "lammastide/api.ErrFull", "lammastide/api.ErrOrder", "lammastide/api.ErrStale", "lammastide/api.ErrClash", "lammastide/api.ErrOff", "errors.errorType"], apart := false, laid := [("errors.errorType", laid_errors_errorType), ("lammastide/api.ErrText", laid_lammastide_api_ErrText), ("lammastide/api.ErrBound", laid_lammastide_api_ErrBound), ("lammastide/api.ErrShape", laid_lammastide_api_ErrShape), ("lammastide/api.ErrName", laid_lammastide_api_ErrName), ("lammastide/api.ErrNone", laid_lammastide_api_ErrNone), ("lammastide/api.ErrExist", laid_lammastide_api_ErrExist), ("lammastide/api.ErrFull", laid_lammastide_api_ErrFull), ("lammastide/api.ErrOrder", laid_lammastide_api_ErrOrder), ("lammastide/api.ErrStale", laid_lammastide_api_ErrStale), ("lammastide/api.ErrClash", laid_lammastide_api_ErrClash), ("lammastide/api.ErrOff", laid_lammastide_api_ErrOff)], narrowed := true }
def NamesUptoSaid : Prop := namesUptoRow.holds Tryd.pinned (OpenSpec.upto namesSpec)

/-- 'lammastidelaw1.ExpandRises', WHERE WHAT IT READS IS OF BULK AT MOST 1048576: true; the input reads as it did. -/
def expandRisesUptoRow : OpenClaim := { program := "ytkgmojaecaghmaadoor", sum := "4ea52fb2dfa39c7839e2a04bfc37546ac86c7b3be2c02e296df412f01e9ff7a0", func := "lammastide/lammastidelaw1.ExpandRises", spec := "expandRises", unfollowed := true, recurses := true, named := ["lammastide/api.ErrName", "lammastide/api.ErrBound", "lammastide/api.ErrShape", "lammastide/api.ErrOrder"], apart := false, laid := [("lammastide/api.ErrBound", laid_lammastide_api_ErrBound), ("lammastide/api.ErrShape", laid_lammastide_api_ErrShape), ("lammastide/api.ErrName", laid_lammastide_api_ErrName), ("lammastide/api.ErrOrder", laid_lammastide_api_ErrOrder)], narrowed := true }
def ExpandRisesUptoSaid : Prop := expandRisesUptoRow.holds Tryd.pinned (OpenSpec.upto expandRisesSpec)

/-- 'lammastidelaw1.DayMonths', WHERE WHAT IT READS IS OF BULK AT MOST 1048576: true; the input reads as it did. -/
def dayMonthsUptoRow : OpenClaim := { program := "ytkgmojaecaghmaadoor", sum := "4ea52fb2dfa39c7839e2a04bfc37546ac86c7b3be2c02e296df412f01e9ff7a0", func := "lammastide/lammastidelaw1.DayMonths", spec := "dayMonths", named := ["lammastide/api.ErrBound", "internal/strconv.uint64pow10", "math/bits.deBruijn32tab", "math/bits.deBruijn64tab"], apart := false, laid := [("math/bits.deBruijn32tab", laid_math_bits_deBruijn32tab), ("math/bits.deBruijn64tab", laid_math_bits_deBruijn64tab), ("internal/strconv.uint64pow10", laid_internal_strconv_uint64pow10), ("lammastide/api.ErrBound", laid_lammastide_api_ErrBound)], narrowed := true }
def DayMonthsUptoSaid : Prop := dayMonthsUptoRow.holds Tryd.pinned (OpenSpec.upto dayMonthsSpec)

/-- 'lammastidelaw1.DayBack', WHERE WHAT IT READS IS OF BULK AT MOST 1048576: true; the input reads as it did. -/
def dayBackUptoRow : OpenClaim := { program := "ytkgmojaecaghmaadoor", sum := "4ea52fb2dfa39c7839e2a04bfc37546ac86c7b3be2c02e296df412f01e9ff7a0", func := "lammastide/lammastidelaw1.DayBack", spec := "dayBack", named := ["lammastide/api.ErrBound", "internal/strconv.uint64pow10", "math/bits.deBruijn32tab", "math/bits.deBruijn64tab", "lammastide/api.ErrText"], apart := false, laid := [("math/bits.deBruijn32tab", laid_math_bits_deBruijn32tab), ("math/bits.deBruijn64tab", laid_math_bits_deBruijn64tab), ("internal/strconv.uint64pow10", laid_internal_strconv_uint64pow10), ("lammastide/api.ErrText", laid_lammastide_api_ErrText), ("lammastide/api.ErrBound", laid_lammastide_api_ErrBound)], narrowed := true }
def DayBackUptoSaid : Prop := dayBackUptoRow.holds Tryd.pinned (OpenSpec.upto dayBackSpec)

/-- 'lammastidelaw1.ExpandDays', WHERE WHAT IT READS IS OF BULK AT MOST 1048576: true; the input reads as it did. -/
def expandDaysUptoRow : OpenClaim := { program := "ytkgmojaecaghmaadoor", sum := "4ea52fb2dfa39c7839e2a04bfc37546ac86c7b3be2c02e296df412f01e9ff7a0", func := "lammastide/lammastidelaw1.ExpandDays", spec := "expandDays", inPlace := ["internal/reflectlite.ValueOf", "(internal/reflectlite.Value).Type", "(internal/reflectlite.Value).IsNil", "internal/reflectlite.TypeOf", "(internal/reflectlite.Value).Elem", "(internal/reflectlite.Value).Set"], unfollowed := true, recurses := true, named := ["lammastide/api.ErrName", "lammastide/api.ErrBound", "lammastide/api.ErrShape", "lammastide/api.ErrOrder", "lammastide/api.ErrFull", "lammastide/api.ErrText", "lammastide/api.ErrNone", "lammastide/api.ErrExist", "lammastide/api.ErrStale", "lammastide/api.ErrClash", "lammastide/api.ErrOff", "errors.errorType"], apart := false, laid := [("errors.errorType", laid_errors_errorType), ("lammastide/api.ErrText", laid_lammastide_api_ErrText), ("lammastide/api.ErrBound", laid_lammastide_api_ErrBound), ("lammastide/api.ErrShape", laid_lammastide_api_ErrShape), ("lammastide/api.ErrName", laid_lammastide_api_ErrName), ("lammastide/api.ErrNone", laid_lammastide_api_ErrNone), ("lammastide/api.ErrExist", laid_lammastide_api_ErrExist), ("lammastide/api.ErrFull", laid_lammastide_api_ErrFull), ("lammastide/api.ErrOrder", laid_lammastide_api_ErrOrder), ("lammastide/api.ErrStale", laid_lammastide_api_ErrStale), ("lammastide/api.ErrClash", laid_lammastide_api_ErrClash), ("lammastide/api.ErrOff", laid_lammastide_api_ErrOff)], narrowed := true }
def ExpandDaysUptoSaid : Prop := expandDaysUptoRow.holds Tryd.pinned (OpenSpec.upto expandDaysSpec)

/-- 'lammastidelaw1.DayDates', WHERE WHAT IT READS IS OF BULK AT MOST 1048576: true; the input reads as it did. -/
def dayDatesUptoRow : OpenClaim := { program := "ytkgmojaecaghmaadoor", sum := "4ea52fb2dfa39c7839e2a04bfc37546ac86c7b3be2c02e296df412f01e9ff7a0", func := "lammastide/lammastidelaw1.DayDates", spec := "dayDates", inPlace := ["internal/reflectlite.ValueOf", "(internal/reflectlite.Value).Type", "(internal/reflectlite.Value).IsNil", "internal/reflectlite.TypeOf", "(internal/reflectlite.Value).Elem", "(internal/reflectlite.Value).Set"], unfollowed := true, recurses := true, named := ["lammastide/api.ErrBound", "internal/strconv.uint64pow10", "math/bits.deBruijn32tab", "math/bits.deBruijn64tab", "lammastide/api.ErrText", "lammastide/api.ErrShape", "lammastide/api.ErrName", "lammastide/api.ErrNone", "lammastide/api.ErrExist", "lammastide/api.ErrFull", "lammastide/api.ErrOrder", "lammastide/api.ErrStale", "lammastide/api.ErrClash", "lammastide/api.ErrOff", "errors.errorType"], apart := false, laid := [("math/bits.deBruijn32tab", laid_math_bits_deBruijn32tab), ("math/bits.deBruijn64tab", laid_math_bits_deBruijn64tab), ("internal/strconv.uint64pow10", laid_internal_strconv_uint64pow10), ("errors.errorType", laid_errors_errorType), ("lammastide/api.ErrText", laid_lammastide_api_ErrText), ("lammastide/api.ErrBound", laid_lammastide_api_ErrBound), ("lammastide/api.ErrShape", laid_lammastide_api_ErrShape), ("lammastide/api.ErrName", laid_lammastide_api_ErrName), ("lammastide/api.ErrNone", laid_lammastide_api_ErrNone), ("lammastide/api.ErrExist", laid_lammastide_api_ErrExist), ("lammastide/api.ErrFull", laid_lammastide_api_ErrFull), ("lammastide/api.ErrOrder", laid_lammastide_api_ErrOrder), ("lammastide/api.ErrStale", laid_lammastide_api_ErrStale), ("lammastide/api.ErrClash", laid_lammastide_api_ErrClash), ("lammastide/api.ErrOff", laid_lammastide_api_ErrOff)], narrowed := true }
def DayDatesUptoSaid : Prop := dayDatesUptoRow.holds Tryd.pinned (OpenSpec.upto dayDatesSpec)

/-- 'lammastidelaw1.DayAdds', WHERE WHAT IT READS IS OF BULK AT MOST 1048576: true; the input reads as it did. -/
def dayAddsUptoRow : OpenClaim := { program := "ytkgmojaecaghmaadoor", sum := "4ea52fb2dfa39c7839e2a04bfc37546ac86c7b3be2c02e296df412f01e9ff7a0", func := "lammastide/lammastidelaw1.DayAdds", spec := "dayAdds", inPlace := ["internal/reflectlite.ValueOf", "(internal/reflectlite.Value).Type", "(internal/reflectlite.Value).IsNil", "internal/reflectlite.TypeOf", "(internal/reflectlite.Value).Elem", "(internal/reflectlite.Value).Set"], unfollowed := true, recurses := true, named := ["lammastide/api.ErrBound", "internal/strconv.uint64pow10", "math/bits.deBruijn32tab", "math/bits.deBruijn64tab", "lammastide/api.ErrText", "lammastide/api.ErrShape", "lammastide/api.ErrName", "lammastide/api.ErrNone", "lammastide/api.ErrExist", "lammastide/api.ErrFull", "lammastide/api.ErrOrder", "lammastide/api.ErrStale", "lammastide/api.ErrClash", "lammastide/api.ErrOff", "errors.errorType"], apart := false, laid := [("math/bits.deBruijn32tab", laid_math_bits_deBruijn32tab), ("math/bits.deBruijn64tab", laid_math_bits_deBruijn64tab), ("internal/strconv.uint64pow10", laid_internal_strconv_uint64pow10), ("errors.errorType", laid_errors_errorType), ("lammastide/api.ErrText", laid_lammastide_api_ErrText), ("lammastide/api.ErrBound", laid_lammastide_api_ErrBound), ("lammastide/api.ErrShape", laid_lammastide_api_ErrShape), ("lammastide/api.ErrName", laid_lammastide_api_ErrName), ("lammastide/api.ErrNone", laid_lammastide_api_ErrNone), ("lammastide/api.ErrExist", laid_lammastide_api_ErrExist), ("lammastide/api.ErrFull", laid_lammastide_api_ErrFull), ("lammastide/api.ErrOrder", laid_lammastide_api_ErrOrder), ("lammastide/api.ErrStale", laid_lammastide_api_ErrStale), ("lammastide/api.ErrClash", laid_lammastide_api_ErrClash), ("lammastide/api.ErrOff", laid_lammastide_api_ErrOff)], narrowed := true }
def DayAddsUptoSaid : Prop := dayAddsUptoRow.holds Tryd.pinned (OpenSpec.upto dayAddsSpec)

/-- 'lammastidelaw1.RuleBack', WHERE WHAT IT READS IS OF BULK AT MOST 1048576: true; the input reads as it did. -/
def ruleBackUptoRow : OpenClaim := { program := "ytkgmojaecaghmaadoor", sum := "4ea52fb2dfa39c7839e2a04bfc37546ac86c7b3be2c02e296df412f01e9ff7a0", func := "lammastide/lammastidelaw1.RuleBack", spec := "ruleBack", inPlace := ["internal/abi.NoEscape", "internal/bytealg.MakeNoZero", "internal/bytealg.CountString", "internal/bytealg.IndexByteString", "internal/bytealg.IndexString"], unfollowed := true, recurses := true, named := ["lammastide/api.ErrName", "lammastide/api.ErrBound", "lammastide/api.ErrShape", "lammastide/api.ErrOrder", "internal/strconv.uint64pow10", "math/bits.deBruijn32tab", "math/bits.deBruijn64tab", "lammastide/api.ErrText", "unicode/utf8.first", "unicode/utf8.acceptRanges", "internal/bytealg.MaxLen", "strconv.ErrSyntax", "strconv.ErrRange"], apart := false, laid := [("math/bits.deBruijn32tab", laid_math_bits_deBruijn32tab), ("math/bits.deBruijn64tab", laid_math_bits_deBruijn64tab), ("internal/strconv.uint64pow10", laid_internal_strconv_uint64pow10), ("unicode/utf8.acceptRanges", laid_unicode_utf8_acceptRanges), ("lammastide/api.ErrText", laid_lammastide_api_ErrText), ("lammastide/api.ErrBound", laid_lammastide_api_ErrBound), ("lammastide/api.ErrShape", laid_lammastide_api_ErrShape), ("lammastide/api.ErrName", laid_lammastide_api_ErrName), ("lammastide/api.ErrOrder", laid_lammastide_api_ErrOrder), ("strconv.ErrRange", laid_strconv_ErrRange), ("strconv.ErrSyntax", laid_strconv_ErrSyntax), ("unicode/utf8.first", laid_unicode_utf8_first)], narrowed := true }
def RuleBackUptoSaid : Prop := ruleBackUptoRow.holds Tryd.pinned (OpenSpec.upto ruleBackSpec)

end Rows
end Go.Proofs.YtkgmojaecaghmaaDoor
