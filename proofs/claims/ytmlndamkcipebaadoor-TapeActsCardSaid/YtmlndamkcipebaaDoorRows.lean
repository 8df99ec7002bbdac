/-
  NARROWER THAN 'FOR EVERY INPUT', by the rows' own cells (each row's printed sentence says how): TapeJoins: laid · PackJoins: laid · TapeCuts: laid · PoolBack: laid · PackDeltas: laid · PackBack: laid · RuleBack: laid · TapeActs: laid.
  DERIVED. THE GIVEN ROWS OF THIS SEAT. 8 by the template 'for every input the law returns true; each argument reads behind the call as it read before'; 0 by the template 'total and deterministic' (their statements: YtmlndamkcipebaaDoorTotals.lean).
  GIVEN WITH THE SEED: the statements are not yours to turn. If you find one false, say at which input.
  Laid BY PROGRAM, IN A SANDBOX (cutbox-rows.mjs): the forced cells as the released guide's own fill.sh prints them over the translation fc2935d2d00888be… (all of the seat's roots in one cut). By AI agents, Wed Nov 11 2026. No macro, syntax, notation, axiom, sorry.
-/
import Derived.Test.YtmlndamkcipebaaDoorChecked
import GoSem.PinnedTables
import GoSem.Claim
import GoSem.ClaimJoined
import GoSem.ClaimMapViews
import Derived.JoinedTies
import Derived.KernelRfl
namespace Go.Proofs.YtmlndamkcipebaaDoor
/- THE CELL 'sum', in the pinned program and in every row, IS THE sha256 OF THE DUMP (.gsa) THAT YtmlndamkcipebaaDoorProg.lean LOADS. Nothing in Lean hashes anything: it is a label: what it is worth is what the hold of that sum in a sandbox is worth. -/
noncomputable def Tryd.pinned : Pinned := { name := "ytmlndamkcipebaadoor", sum := "fc2935d2d00888be6276f0fb6d0ba0446119a7923bab8212eee4016c1f466ade", checked := Tryd.checked }
namespace Rows
def none {H : Type} : Left H := { results := [], args := [] }

/- WHAT THE LISTED PACKAGE-LEVEL VARIABLES READ AS WHEN THE CALL BEGINS. Each datum BY PROGRAM (the guide's laid-datum.mjs) off the statement by which the dump's own 'gosem.cut.vars' lays the variable. In a bare row this is a premise. The card (YtmlndamkcipebaaDoorCards.lean) ties it to the program's text. -/
def laid_math_bits_deBruijn32tab {H : Type} : DataW H := .agg [.lit (.int .u8 0), .lit (.int .u8 1), .lit (.int .u8 28), .lit (.int .u8 2), .lit (.int .u8 29), .lit (.int .u8 14), .lit (.int .u8 24), .lit (.int .u8 3), .lit (.int .u8 30), .lit (.int .u8 22), .lit (.int .u8 20), .lit (.int .u8 15), .lit (.int .u8 25), .lit (.int .u8 17), .lit (.int .u8 4), .lit (.int .u8 8), .lit (.int .u8 31), .lit (.int .u8 27), .lit (.int .u8 13), .lit (.int .u8 23), .lit (.int .u8 21), .lit (.int .u8 19), .lit (.int .u8 16), .lit (.int .u8 7), .lit (.int .u8 26), .lit (.int .u8 12), .lit (.int .u8 18), .lit (.int .u8 6), .lit (.int .u8 11), .lit (.int .u8 5), .lit (.int .u8 10), .lit (.int .u8 9)]
def laid_math_bits_deBruijn64tab {H : Type} : DataW H := .agg [.lit (.int .u8 0), .lit (.int .u8 1), .lit (.int .u8 56), .lit (.int .u8 2), .lit (.int .u8 57), .lit (.int .u8 49), .lit (.int .u8 28), .lit (.int .u8 3), .lit (.int .u8 61), .lit (.int .u8 58), .lit (.int .u8 42), .lit (.int .u8 50), .lit (.int .u8 38), .lit (.int .u8 29), .lit (.int .u8 17), .lit (.int .u8 4), .lit (.int .u8 62), .lit (.int .u8 47), .lit (.int .u8 59), .lit (.int .u8 36), .lit (.int .u8 45), .lit (.int .u8 43), .lit (.int .u8 51), .lit (.int .u8 22), .lit (.int .u8 53), .lit (.int .u8 39), .lit (.int .u8 33), .lit (.int .u8 30), .lit (.int .u8 24), .lit (.int .u8 18), .lit (.int .u8 12), .lit (.int .u8 5), .lit (.int .u8 63), .lit (.int .u8 55), .lit (.int .u8 48), .lit (.int .u8 27), .lit (.int .u8 60), .lit (.int .u8 41), .lit (.int .u8 37), .lit (.int .u8 16), .lit (.int .u8 46), .lit (.int .u8 35), .lit (.int .u8 44), .lit (.int .u8 21), .lit (.int .u8 52), .lit (.int .u8 32), .lit (.int .u8 23), .lit (.int .u8 11), .lit (.int .u8 54), .lit (.int .u8 26), .lit (.int .u8 40), .lit (.int .u8 15), .lit (.int .u8 34), .lit (.int .u8 20), .lit (.int .u8 31), .lit (.int .u8 10), .lit (.int .u8 25), .lit (.int .u8 14), .lit (.int .u8 19), .lit (.int .u8 9), .lit (.int .u8 13), .lit (.int .u8 8), .lit (.int .u8 7), .lit (.int .u8 6)]
def laid_internal_strconv_uint64pow10 {H : Type} : DataW H := .agg [.lit (.int .u64 1), .lit (.int .u64 10), .lit (.int .u64 100), .lit (.int .u64 1000), .lit (.int .u64 10000), .lit (.int .u64 100000), .lit (.int .u64 1000000), .lit (.int .u64 10000000), .lit (.int .u64 100000000), .lit (.int .u64 1000000000), .lit (.int .u64 10000000000), .lit (.int .u64 100000000000), .lit (.int .u64 1000000000000), .lit (.int .u64 10000000000000), .lit (.int .u64 100000000000000), .lit (.int .u64 1000000000000000), .lit (.int .u64 10000000000000000), .lit (.int .u64 100000000000000000), .lit (.int .u64 1000000000000000000), .lit (.int .u64 10000000000000000000)]
def laid_lammastide_api_ErrBound {H : Type} : DataW H := .iface "*errors.errorString" (.ptr (.agg [.lit (.string [108, 97, 109, 109, 97, 115, 116, 105, 100, 101, 58, 32, 98, 111, 117, 110, 100])]))
def laid_lammastide_api_ErrShape {H : Type} : DataW H := .iface "*errors.errorString" (.ptr (.agg [.lit (.string [108, 97, 109, 109, 97, 115, 116, 105, 100, 101, 58, 32, 115, 104, 97, 112, 101])]))
def laid_lammastide_api_ErrFull {H : Type} : DataW H := .iface "*errors.errorString" (.ptr (.agg [.lit (.string [108, 97, 109, 109, 97, 115, 116, 105, 100, 101, 58, 32, 102, 117, 108, 108])]))
def laid_lammastide_api_ErrOff {H : Type} : DataW H := .iface "*errors.errorString" (.ptr (.agg [.lit (.string [108, 97, 109, 109, 97, 115, 116, 105, 100, 101, 58, 32, 111, 102, 102])]))
def laid_strconv_ErrRange {H : Type} : DataW H := .iface "*errors.errorString" (.ptr (.agg [.lit (.string [118, 97, 108, 117, 101, 32, 111, 117, 116, 32, 111, 102, 32, 114, 97, 110, 103, 101])]))
def laid_strconv_ErrSyntax {H : Type} : DataW H := .iface "*errors.errorString" (.ptr (.agg [.lit (.string [105, 110, 118, 97, 108, 105, 100, 32, 115, 121, 110, 116, 97, 120])]))
def laid_lammastide_api_ErrText {H : Type} : DataW H := .iface "*errors.errorString" (.ptr (.agg [.lit (.string [108, 97, 109, 109, 97, 115, 116, 105, 100, 101, 58, 32, 116, 101, 120, 116])]))
def laid_lammastide_api_ErrNone {H : Type} : DataW H := .iface "*errors.errorString" (.ptr (.agg [.lit (.string [108, 97, 109, 109, 97, 115, 116, 105, 100, 101, 58, 32, 110, 111, 110, 101])]))
def laid_lammastide_api_ErrExist {H : Type} : DataW H := .iface "*errors.errorString" (.ptr (.agg [.lit (.string [108, 97, 109, 109, 97, 115, 116, 105, 100, 101, 58, 32, 101, 120, 105, 115, 116])]))
def laid_unicode_utf8_acceptRanges {H : Type} : DataW H := .agg [.agg [.lit (.int .u8 128), .lit (.int .u8 191)], .agg [.lit (.int .u8 160), .lit (.int .u8 191)], .agg [.lit (.int .u8 128), .lit (.int .u8 159)], .agg [.lit (.int .u8 144), .lit (.int .u8 191)], .agg [.lit (.int .u8 128), .lit (.int .u8 143)], .agg [.lit (.int .u8 0), .lit (.int .u8 0)], .agg [.lit (.int .u8 0), .lit (.int .u8 0)], .agg [.lit (.int .u8 0), .lit (.int .u8 0)], .agg [.lit (.int .u8 0), .lit (.int .u8 0)], .agg [.lit (.int .u8 0), .lit (.int .u8 0)], .agg [.lit (.int .u8 0), .lit (.int .u8 0)], .agg [.lit (.int .u8 0), .lit (.int .u8 0)], .agg [.lit (.int .u8 0), .lit (.int .u8 0)], .agg [.lit (.int .u8 0), .lit (.int .u8 0)], .agg [.lit (.int .u8 0), .lit (.int .u8 0)], .agg [.lit (.int .u8 0), .lit (.int .u8 0)]]
def laid_lammastide_api_ErrName {H : Type} : DataW H := .iface "*errors.errorString" (.ptr (.agg [.lit (.string [108, 97, 109, 109, 97, 115, 116, 105, 100, 101, 58, 32, 110, 97, 109, 101])]))
def laid_lammastide_api_ErrOrder {H : Type} : DataW H := .iface "*errors.errorString" (.ptr (.agg [.lit (.string [108, 97, 109, 109, 97, 115, 116, 105, 100, 101, 58, 32, 111, 114, 100, 101, 114])]))
/-- One of Go's own tables, pinned by name: the form's constant. -/
def laid_unicode_utf8_first : DataW Unit := Go.Pinned.utf8First
def laid_errors_errorType {H : Type} : DataW H := .iface "internal/reflectlite.rtype" (.agg [.ptr (.lit (.string [101, 114, 114, 111, 114]))])
def laid_lammastide_api_ErrStale {H : Type} : DataW H := .iface "*errors.errorString" (.ptr (.agg [.lit (.string [108, 97, 109, 109, 97, 115, 116, 105, 100, 101, 58, 32, 115, 116, 97, 108, 101])]))
def laid_lammastide_api_ErrClash {H : Type} : DataW H := .iface "*errors.errorString" (.ptr (.agg [.lit (.string [108, 97, 109, 109, 97, 115, 116, 105, 100, 101, 58, 32, 99, 108, 97, 115, 104])]))

/-- 'lammastidelaw3.TapeJoins': WHATEVER THE INPUT: true; the input reads as it did. -/
def tapeJoinsSpec : ChangeSpec := { name := "tapeJoins", fn := fun _ => fun
  | [d1, d2] => { results := [.lit (.bool true)], args := [d1, d2] }
  | _ => none }
def tapeJoinsRow : OpenClaim := { program := "ytmlndamkcipebaadoor", sum := "fc2935d2d00888be6276f0fb6d0ba0446119a7923bab8212eee4016c1f466ade", func := "lammastide/lammastidelaw3.TapeJoins", spec := "tapeJoins", inPlace := ["internal/bytealg.IndexByteString", "internal/bytealg.IndexString"], named := ["lammastide/api.ErrBound", "lammastide/api.ErrShape", "lammastide/api.ErrFull", "internal/strconv.uint64pow10", "math/bits.deBruijn32tab", "math/bits.deBruijn64tab", "lammastide/api.ErrOff", "internal/bytealg.MaxLen", "strconv.ErrSyntax", "strconv.ErrRange"], apart := false, laid := [("math/bits.deBruijn32tab", laid_math_bits_deBruijn32tab), ("math/bits.deBruijn64tab", laid_math_bits_deBruijn64tab), ("internal/strconv.uint64pow10", laid_internal_strconv_uint64pow10), ("lammastide/api.ErrBound", laid_lammastide_api_ErrBound), ("lammastide/api.ErrShape", laid_lammastide_api_ErrShape), ("lammastide/api.ErrFull", laid_lammastide_api_ErrFull), ("lammastide/api.ErrOff", laid_lammastide_api_ErrOff), ("strconv.ErrRange", laid_strconv_ErrRange), ("strconv.ErrSyntax", laid_strconv_ErrSyntax)] }
def TapeJoinsSaid : Prop := tapeJoinsRow.holds Tryd.pinned (OpenSpec.ofChange tapeJoinsSpec)

/-- ITS FALSE NEIGHBOUR: 'it returns false'. Refute it at one input. -/
def tapeJoinsWrong : ChangeSpec := { name := "tapeJoins", fn := fun _ => fun
  | [d1, d2] => { results := [.lit (.bool false)], args := [d1, d2] }
  | _ => none }
def TapeJoinsWrongFalsely : Prop := tapeJoinsRow.holds Tryd.pinned (OpenSpec.ofChange tapeJoinsWrong)

/-- 'lammastidelaw3.PackJoins': WHATEVER THE INPUT: true; the input reads as it did. -/
def packJoinsSpec : ChangeSpec := { name := "packJoins", fn := fun _ => fun
  | [d1, d2, d3] => { results := [.lit (.bool true)], args := [d1, d2, d3] }
  | _ => none }
def packJoinsRow : OpenClaim := { program := "ytmlndamkcipebaadoor", sum := "fc2935d2d00888be6276f0fb6d0ba0446119a7923bab8212eee4016c1f466ade", func := "lammastide/lammastidelaw3.PackJoins", spec := "packJoins", inPlace := ["internal/bytealg.IndexByteString", "internal/bytealg.IndexString", "internal/abi.NoEscape"], named := ["lammastide/api.ErrText", "lammastide/api.ErrBound", "internal/bytealg.MaxLen", "strconv.ErrSyntax", "strconv.ErrRange", "internal/strconv.uint64pow10", "math/bits.deBruijn32tab", "math/bits.deBruijn64tab"], apart := false, laid := [("math/bits.deBruijn32tab", laid_math_bits_deBruijn32tab), ("math/bits.deBruijn64tab", laid_math_bits_deBruijn64tab), ("internal/strconv.uint64pow10", laid_internal_strconv_uint64pow10), ("lammastide/api.ErrText", laid_lammastide_api_ErrText), ("lammastide/api.ErrBound", laid_lammastide_api_ErrBound), ("strconv.ErrRange", laid_strconv_ErrRange), ("strconv.ErrSyntax", laid_strconv_ErrSyntax)] }
def PackJoinsSaid : Prop := packJoinsRow.holds Tryd.pinned (OpenSpec.ofChange packJoinsSpec)

/-- ITS FALSE NEIGHBOUR: 'it returns false'. Refute it at one input. -/
def packJoinsWrong : ChangeSpec := { name := "packJoins", fn := fun _ => fun
  | [d1, d2, d3] => { results := [.lit (.bool false)], args := [d1, d2, d3] }
  | _ => none }
def PackJoinsWrongFalsely : Prop := packJoinsRow.holds Tryd.pinned (OpenSpec.ofChange packJoinsWrong)

/-- 'lammastidelaw3.TapeCuts': WHATEVER THE INPUT: true; the input reads as it did. -/
def tapeCutsSpec : ChangeSpec := { name := "tapeCuts", fn := fun _ => fun
  | [d1, d2] => { results := [.lit (.bool true)], args := [d1, d2] }
  | _ => none }
def tapeCutsRow : OpenClaim := { program := "ytmlndamkcipebaadoor", sum := "fc2935d2d00888be6276f0fb6d0ba0446119a7923bab8212eee4016c1f466ade", func := "lammastide/lammastidelaw3.TapeCuts", spec := "tapeCuts", inPlace := ["internal/bytealg.IndexByteString", "internal/bytealg.IndexString"], named := ["lammastide/api.ErrBound", "lammastide/api.ErrShape", "lammastide/api.ErrFull", "internal/strconv.uint64pow10", "math/bits.deBruijn32tab", "math/bits.deBruijn64tab", "lammastide/api.ErrOff", "internal/bytealg.MaxLen", "strconv.ErrSyntax", "strconv.ErrRange"], apart := false, laid := [("math/bits.deBruijn32tab", laid_math_bits_deBruijn32tab), ("math/bits.deBruijn64tab", laid_math_bits_deBruijn64tab), ("internal/strconv.uint64pow10", laid_internal_strconv_uint64pow10), ("lammastide/api.ErrBound", laid_lammastide_api_ErrBound), ("lammastide/api.ErrShape", laid_lammastide_api_ErrShape), ("lammastide/api.ErrFull", laid_lammastide_api_ErrFull), ("lammastide/api.ErrOff", laid_lammastide_api_ErrOff), ("strconv.ErrRange", laid_strconv_ErrRange), ("strconv.ErrSyntax", laid_strconv_ErrSyntax)] }
def TapeCutsSaid : Prop := tapeCutsRow.holds Tryd.pinned (OpenSpec.ofChange tapeCutsSpec)

/-- ITS FALSE NEIGHBOUR: 'it returns false'. Refute it at one input. -/
def tapeCutsWrong : ChangeSpec := { name := "tapeCuts", fn := fun _ => fun
  | [d1, d2] => { results := [.lit (.bool false)], args := [d1, d2] }
  | _ => none }
def TapeCutsWrongFalsely : Prop := tapeCutsRow.holds Tryd.pinned (OpenSpec.ofChange tapeCutsWrong)

/-- 'lammastidelaw2.PoolBack': WHATEVER THE INPUT: true; the input reads as it did. -/
def poolBackSpec : ChangeSpec := { name := "poolBack", fn := fun _ => fun
  | [d] => { results := [.lit (.bool true)], args := [d] }
  | _ => none }
def poolBackRow : OpenClaim := { program := "ytmlndamkcipebaadoor", sum := "fc2935d2d00888be6276f0fb6d0ba0446119a7923bab8212eee4016c1f466ade", func := "lammastide/lammastidelaw2.PoolBack", spec := "poolBack", inPlace := ["internal/abi.NoEscape", "internal/bytealg.IndexByteString", "internal/bytealg.IndexString"], named := ["lammastide/api.ErrBound", "lammastide/api.ErrFull", "lammastide/api.ErrNone", "internal/strconv.uint64pow10", "math/bits.deBruijn32tab", "math/bits.deBruijn64tab", "lammastide/api.ErrText", "internal/bytealg.MaxLen", "strconv.ErrSyntax", "strconv.ErrRange", "lammastide/api.ErrExist"], apart := false, laid := [("math/bits.deBruijn32tab", laid_math_bits_deBruijn32tab), ("math/bits.deBruijn64tab", laid_math_bits_deBruijn64tab), ("internal/strconv.uint64pow10", laid_internal_strconv_uint64pow10), ("lammastide/api.ErrText", laid_lammastide_api_ErrText), ("lammastide/api.ErrBound", laid_lammastide_api_ErrBound), ("lammastide/api.ErrNone", laid_lammastide_api_ErrNone), ("lammastide/api.ErrExist", laid_lammastide_api_ErrExist), ("lammastide/api.ErrFull", laid_lammastide_api_ErrFull), ("strconv.ErrRange", laid_strconv_ErrRange), ("strconv.ErrSyntax", laid_strconv_ErrSyntax)] }
def PoolBackSaid : Prop := poolBackRow.holds Tryd.pinned (OpenSpec.ofChange poolBackSpec)

/-- ITS FALSE NEIGHBOUR: 'it returns false'. Refute it at one input. -/
def poolBackWrong : ChangeSpec := { name := "poolBack", fn := fun _ => fun
  | [d] => { results := [.lit (.bool false)], args := [d] }
  | _ => none }
def PoolBackWrongFalsely : Prop := poolBackRow.holds Tryd.pinned (OpenSpec.ofChange poolBackWrong)

/-- 'lammastidelaw3.PackDeltas': WHATEVER THE INPUT: true; the input reads as it did. -/
def packDeltasSpec : ChangeSpec := { name := "packDeltas", fn := fun _ => fun
  | [d] => { results := [.lit (.bool true)], args := [d] }
  | _ => none }
def packDeltasRow : OpenClaim := { program := "ytmlndamkcipebaadoor", sum := "fc2935d2d00888be6276f0fb6d0ba0446119a7923bab8212eee4016c1f466ade", func := "lammastide/lammastidelaw3.PackDeltas", spec := "packDeltas", inPlace := ["internal/bytealg.IndexByteString", "internal/bytealg.IndexString", "internal/abi.NoEscape"], recurses := true, named := ["lammastide/api.ErrText", "lammastide/api.ErrBound", "internal/bytealg.MaxLen", "strconv.ErrSyntax", "strconv.ErrRange", "internal/strconv.uint64pow10", "math/bits.deBruijn32tab", "math/bits.deBruijn64tab", "lammastide/api.ErrFull", "lammastide/api.ErrNone"], apart := false, laid := [("math/bits.deBruijn32tab", laid_math_bits_deBruijn32tab), ("math/bits.deBruijn64tab", laid_math_bits_deBruijn64tab), ("internal/strconv.uint64pow10", laid_internal_strconv_uint64pow10), ("lammastide/api.ErrText", laid_lammastide_api_ErrText), ("lammastide/api.ErrBound", laid_lammastide_api_ErrBound), ("lammastide/api.ErrNone", laid_lammastide_api_ErrNone), ("lammastide/api.ErrFull", laid_lammastide_api_ErrFull), ("strconv.ErrRange", laid_strconv_ErrRange), ("strconv.ErrSyntax", laid_strconv_ErrSyntax)] }
def PackDeltasSaid : Prop := packDeltasRow.holds Tryd.pinned (OpenSpec.ofChange packDeltasSpec)

/-- ITS FALSE NEIGHBOUR: 'it returns false'. Refute it at one input. -/
def packDeltasWrong : ChangeSpec := { name := "packDeltas", fn := fun _ => fun
  | [d] => { results := [.lit (.bool false)], args := [d] }
  | _ => none }
def PackDeltasWrongFalsely : Prop := packDeltasRow.holds Tryd.pinned (OpenSpec.ofChange packDeltasWrong)

/-- 'lammastidelaw3.PackBack': WHATEVER THE INPUT: true; the input reads as it did. -/
def packBackSpec : ChangeSpec := { name := "packBack", fn := fun _ => fun
  | [d] => { results := [.lit (.bool true)], args := [d] }
  | _ => none }
def packBackRow : OpenClaim := { program := "ytmlndamkcipebaadoor", sum := "fc2935d2d00888be6276f0fb6d0ba0446119a7923bab8212eee4016c1f466ade", func := "lammastide/lammastidelaw3.PackBack", spec := "packBack", inPlace := ["internal/bytealg.IndexByteString", "internal/bytealg.IndexString", "internal/abi.NoEscape"], named := ["lammastide/api.ErrText", "lammastide/api.ErrBound", "internal/bytealg.MaxLen", "strconv.ErrSyntax", "strconv.ErrRange", "internal/strconv.uint64pow10", "math/bits.deBruijn32tab", "math/bits.deBruijn64tab", "lammastide/api.ErrFull", "lammastide/api.ErrNone", "lammastide/api.ErrExist"], apart := false, laid := [("math/bits.deBruijn32tab", laid_math_bits_deBruijn32tab), ("math/bits.deBruijn64tab", laid_math_bits_deBruijn64tab), ("internal/strconv.uint64pow10", laid_internal_strconv_uint64pow10), ("lammastide/api.ErrText", laid_lammastide_api_ErrText), ("lammastide/api.ErrBound", laid_lammastide_api_ErrBound), ("lammastide/api.ErrNone", laid_lammastide_api_ErrNone), ("lammastide/api.ErrExist", laid_lammastide_api_ErrExist), ("lammastide/api.ErrFull", laid_lammastide_api_ErrFull), ("strconv.ErrRange", laid_strconv_ErrRange), ("strconv.ErrSyntax", laid_strconv_ErrSyntax)] }
def PackBackSaid : Prop := packBackRow.holds Tryd.pinned (OpenSpec.ofChange packBackSpec)

/-- ITS FALSE NEIGHBOUR: 'it returns false'. Refute it at one input. -/
def packBackWrong : ChangeSpec := { name := "packBack", fn := fun _ => fun
  | [d] => { results := [.lit (.bool false)], args := [d] }
  | _ => none }
def PackBackWrongFalsely : Prop := packBackRow.holds Tryd.pinned (OpenSpec.ofChange packBackWrong)

/-- 'lammastidelaw1.RuleBack': WHATEVER THE INPUT: true; the input reads as it did. -/
def ruleBackSpec : ChangeSpec := { name := "ruleBack", fn := fun _ => fun
  | [d1, d2] => { results := [.lit (.bool true)], args := [d1, d2] }
  | _ => none }
def ruleBackRow : OpenClaim := { program := "ytmlndamkcipebaadoor", sum := "fc2935d2d00888be6276f0fb6d0ba0446119a7923bab8212eee4016c1f466ade", func := "lammastide/lammastidelaw1.RuleBack", spec := "ruleBack", inPlace := ["internal/abi.NoEscape", "internal/bytealg.MakeNoZero", "internal/bytealg.CountString", "internal/bytealg.IndexByteString", "internal/bytealg.IndexString"], unfollowed := true, recurses := true, named := ["lammastide/api.ErrName", "lammastide/api.ErrBound", "lammastide/api.ErrShape", "lammastide/api.ErrOrder", "internal/strconv.uint64pow10", "math/bits.deBruijn32tab", "math/bits.deBruijn64tab", "lammastide/api.ErrText", "unicode/utf8.first", "unicode/utf8.acceptRanges", "internal/bytealg.MaxLen", "strconv.ErrSyntax", "strconv.ErrRange"], apart := false, laid := [("math/bits.deBruijn32tab", laid_math_bits_deBruijn32tab), ("math/bits.deBruijn64tab", laid_math_bits_deBruijn64tab), ("internal/strconv.uint64pow10", laid_internal_strconv_uint64pow10), ("unicode/utf8.acceptRanges", laid_unicode_utf8_acceptRanges), ("lammastide/api.ErrText", laid_lammastide_api_ErrText), ("lammastide/api.ErrBound", laid_lammastide_api_ErrBound), ("lammastide/api.ErrShape", laid_lammastide_api_ErrShape), ("lammastide/api.ErrName", laid_lammastide_api_ErrName), ("lammastide/api.ErrOrder", laid_lammastide_api_ErrOrder), ("strconv.ErrRange", laid_strconv_ErrRange), ("strconv.ErrSyntax", laid_strconv_ErrSyntax), ("unicode/utf8.first", laid_unicode_utf8_first)] }
def RuleBackSaid : Prop := ruleBackRow.holds Tryd.pinned (OpenSpec.ofChange ruleBackSpec)

/-- ITS FALSE NEIGHBOUR: 'it returns false'. Refute it at one input. -/
def ruleBackWrong : ChangeSpec := { name := "ruleBack", fn := fun _ => fun
  | [d1, d2] => { results := [.lit (.bool false)], args := [d1, d2] }
  | _ => none }
def RuleBackWrongFalsely : Prop := ruleBackRow.holds Tryd.pinned (OpenSpec.ofChange ruleBackWrong)

/-- 'lammastidelaw3.TapeActs': WHATEVER THE INPUT: true; the input reads as it did. -/
def tapeActsSpec : ChangeSpec := { name := "tapeActs", fn := fun _ => fun
  | [d1, d2] => { results := [.lit (.bool true)], args := [d1, d2] }
  | _ => none }
def tapeActsRow : OpenClaim := { program := "ytmlndamkcipebaadoor", sum := "fc2935d2d00888be6276f0fb6d0ba0446119a7923bab8212eee4016c1f466ade", func := "lammastide/lammastidelaw3.TapeActs", spec := "tapeActs", inPlace := ["internal/bytealg.IndexByteString", "internal/bytealg.IndexString", "internal/reflectlite.ValueOf", "(internal/reflectlite.Value).Type", "(internal/reflectlite.Value).IsNil", "internal/reflectlite.TypeOf", "(internal/reflectlite.Value).Elem", "(internal/reflectlite.Value).Set"], unfollowed := true, recurses := true, named := ["lammastide/api.ErrBound", "lammastide/api.ErrShape", "lammastide/api.ErrFull", "internal/strconv.uint64pow10", "math/bits.deBruijn32tab", "math/bits.deBruijn64tab", "lammastide/api.ErrOff", "internal/bytealg.MaxLen", "strconv.ErrSyntax", "strconv.ErrRange", "lammastide/api.ErrText", "lammastide/api.ErrName", "lammastide/api.ErrNone", "lammastide/api.ErrExist", "lammastide/api.ErrOrder", "lammastide/api.ErrStale", "lammastide/api.ErrClash", "errors.errorType"], apart := false, laid := [("math/bits.deBruijn32tab", laid_math_bits_deBruijn32tab), ("math/bits.deBruijn64tab", laid_math_bits_deBruijn64tab), ("internal/strconv.uint64pow10", laid_internal_strconv_uint64pow10), ("errors.errorType", laid_errors_errorType), ("lammastide/api.ErrText", laid_lammastide_api_ErrText), ("lammastide/api.ErrBound", laid_lammastide_api_ErrBound), ("lammastide/api.ErrShape", laid_lammastide_api_ErrShape), ("lammastide/api.ErrName", laid_lammastide_api_ErrName), ("lammastide/api.ErrNone", laid_lammastide_api_ErrNone), ("lammastide/api.ErrExist", laid_lammastide_api_ErrExist), ("lammastide/api.ErrFull", laid_lammastide_api_ErrFull), ("lammastide/api.ErrOrder", laid_lammastide_api_ErrOrder), ("lammastide/api.ErrStale", laid_lammastide_api_ErrStale), ("lammastide/api.ErrClash", laid_lammastide_api_ErrClash), ("lammastide/api.ErrOff", laid_lammastide_api_ErrOff), ("strconv.ErrRange", laid_strconv_ErrRange), ("strconv.ErrSyntax", laid_strconv_ErrSyntax)] }
def TapeActsSaid : Prop := tapeActsRow.holds Tryd.pinned (OpenSpec.ofChange tapeActsSpec)

/-- ITS FALSE NEIGHBOUR: 'it returns false'. Refute it at one input. -/
def tapeActsWrong : ChangeSpec := { name := "tapeActs", fn := fun _ => fun
  | [d1, d2] => { results := [.lit (.bool false)], args := [d1, d2] }
  | _ => none }
def TapeActsWrongFalsely : Prop := tapeActsRow.holds Tryd.pinned (OpenSpec.ofChange tapeActsWrong)

/- THE SECOND FORM. 'bulk': how many values and letters a reading holds, each counted each time it is reached (what is shared counts as often as it is met; a slice's spare places count too). A statement '..UptoSaid' is the law's where the arguments, and the package variables that the reading takes, are together of bulk at most 1048576: NARROWER than '..Said'. Prove '..Said' where nothing that the law and all that it calls make is longer than what came in: it says more and counts as full. Else prove '..UptoSaid'. A law counts once. -/
mutual
def uptoBulk {H : Type} : DataW H → Nat
  | .lit (.string bytes) => bytes.length + 1
  | .lit _ => 1
  | .nil => 1
  | .ptr d => uptoBulk d + 1
  | .slice elems spare => uptoBulkAll elems + uptoBulkAll spare + 1
  | .agg parts => uptoBulkAll parts + 1
  | .iface _ d => uptoBulk d + 1
  | .map entries => uptoBulkEntries entries + 1
  | .held _ => 1
def uptoBulkAll {H : Type} : List (DataW H) → Nat
  | [] => 0
  | d :: r => uptoBulk d + uptoBulkAll r
def uptoBulkEntries {H : Type} : List (Lit × DataW H) → Nat
  | [] => 0
  | x :: r => uptoBulkEntry x + uptoBulkEntries r
def uptoBulkEntry {H : Type} : Lit × DataW H → Nat
  | (.string bytes, d) => bytes.length + uptoBulk d + 1
  | (_, d) => uptoBulk d + 1
 end
def uptoSmall : (H : Type) → List (DataW H) → Bool := fun _ ds => decide (uptoBulkAll ds ≤ 1048576)
def OpenSpec.upto (s : _root_.Go.ChangeSpec) : _root_.Go.OpenSpec := { _root_.Go.OpenSpec.ofChange s with cond := some uptoSmall }

/-- 'lammastidelaw3.TapeJoins', WHERE WHAT IT READS IS OF BULK AT MOST 1048576: true; the input reads as it did. -/
def tapeJoinsUptoRow : OpenClaim := { program := "ytmlndamkcipebaadoor", sum := "fc2935d2d00888be6276f0fb6d0ba0446119a7923bab8212eee4016c1f466ade", func := "lammastide/lammastidelaw3.TapeJoins", spec := "tapeJoins", inPlace := ["internal/bytealg.IndexByteString", "internal/bytealg.IndexString"], named := ["lammastide/api.ErrBound", "lammastide/api.ErrShape", "lammastide/api.ErrFull", "internal/strconv.uint64pow10", "math/bits.deBruijn32tab", "math/bits.deBruijn64tab", "lammastide/api.ErrOff", "internal/bytealg.MaxLen", "strconv.ErrSyntax", "strconv.ErrRange"], apart := false, laid := [("math/bits.deBruijn32tab", laid_math_bits_deBruijn32tab), ("math/bits.deBruijn64tab", laid_math_bits_deBruijn64tab), ("internal/strconv.uint64pow10", laid_internal_strconv_uint64pow10), ("lammastide/api.ErrBound", laid_lammastide_api_ErrBound), ("lammastide/api.ErrShape", laid_lammastide_api_ErrShape), ("lammastide/api.ErrFull", laid_lammastide_api_ErrFull), ("lammastide/api.ErrOff", laid_lammastide_api_ErrOff), ("strconv.ErrRange", laid_strconv_ErrRange), ("strconv.ErrSyntax", laid_strconv_ErrSyntax)], narrowed := true }
def TapeJoinsUptoSaid : Prop := tapeJoinsUptoRow.holds Tryd.pinned (OpenSpec.upto tapeJoinsSpec)

/-- 'lammastidelaw3.PackJoins', WHERE WHAT IT READS IS OF BULK AT MOST 1048576: true; the input reads as it did. -/
def packJoinsUptoRow : OpenClaim := { program := "ytmlndamkcipebaadoor", sum := "fc2935d2d00888be6276f0fb6d0ba0446119a7923bab8212eee4016c1f466ade", func := "lammastide/lammastidelaw3.PackJoins", spec := "packJoins", inPlace := ["internal/bytealg.IndexByteString", "internal/bytealg.IndexString", "internal/abi.NoEscape"], named := ["lammastide/api.ErrText", "lammastide/api.ErrBound", "internal/bytealg.MaxLen", "strconv.ErrSyntax", "strconv.ErrRange", "internal/strconv.uint64pow10", "math/bits.deBruijn32tab", "math/bits.deBruijn64tab"], apart := false, laid := [("math/bits.deBruijn32tab", laid_math_bits_deBruijn32tab), ("math/bits.deBruijn64tab", laid_math_bits_deBruijn64tab), ("internal/strconv.uint64pow10", laid_internal_strconv_uint64pow10), ("lammastide/api.ErrText", laid_lammastide_api_ErrText), ("lammastide/api.ErrBound", laid_lammastide_api_ErrBound), ("strconv.ErrRange", laid_strconv_ErrRange), ("strconv.ErrSyntax", laid_strconv_ErrSyntax)], narrowed := true }
def PackJoinsUptoSaid : Prop := packJoinsUptoRow.holds Tryd.pinned (OpenSpec.upto packJoinsSpec)

/-- 'lammastidelaw3.TapeCuts', WHERE WHAT IT READS IS OF BULK AT MOST 1048576: true; the input reads as it did. -/
def tapeCutsUptoRow : OpenClaim := { program := "ytmlndamkcipebaadoor", sum := "fc2935d2d00888be6276f0fb6d0ba0446119a7923bab8212eee4016c1f466ade", func := "lammastide/lammastidelaw3.TapeCuts", spec := "tapeCuts", inPlace := ["internal/bytealg.IndexByteString", "internal/bytealg.IndexString"], named := ["lammastide/api.ErrBound", "lammastide/api.ErrShape", "lammastide/api.ErrFull", "internal/strconv.uint64pow10", "math/bits.deBruijn32tab", "math/bits.deBruijn64tab", "lammastide/api.ErrOff", "internal/bytealg.MaxLen", "strconv.ErrSyntax", "strconv.ErrRange"], apart := false, laid := [("math/bits.deBruijn32tab", laid_math_bits_deBruijn32tab), ("math/bits.deBruijn64tab", laid_math_bits_deBruijn64tab), ("internal/strconv.uint64pow10", laid_internal_strconv_uint64pow10), ("lammastide/api.ErrBound", laid_lammastide_api_ErrBound), ("lammastide/api.ErrShape", laid_lammastide_api_ErrShape), ("lammastide/api.ErrFull", laid_lammastide_api_ErrFull), ("lammastide/api.ErrOff", laid_lammastide_api_ErrOff), ("strconv.ErrRange", laid_strconv_ErrRange), ("strconv.ErrSyntax", laid_strconv_ErrSyntax)], narrowed := true }
def TapeCutsUptoSaid : Prop := tapeCutsUptoRow.holds Tryd.pinned (OpenSpec.upto tapeCutsSpec)

/-- 'lammastidelaw2.PoolBack', WHERE WHAT IT READS IS OF BULK AT MOST 1048576: true; the input reads as it did. -/
def poolBackUptoRow : OpenClaim := { program := "ytmlndamkcipebaadoor", sum := "fc2935d2d00888be6276f0fb6d0ba0446119a7923bab8212eee4016c1f466ade", func := "lammastide/lammastidelaw2.PoolBack", spec := "poolBack", inPlace := ["internal/abi.NoEscape", "internal/bytealg.IndexByteString", "internal/bytealg.IndexString"], named := ["lammastide/api.ErrBound", "lammastide/api.ErrFull", "lammastide/api.ErrNone", "internal/strconv.uint64pow10", "math/bits.deBruijn32tab", "math/bits.deBruijn64tab", "lammastide/api.ErrText", "internal/bytealg.MaxLen", "strconv.ErrSyntax", "strconv.ErrRange", "lammastide/api.ErrExist"], apart := false, laid := [("math/bits.deBruijn32tab", laid_math_bits_deBruijn32tab), ("math/bits.deBruijn64tab", laid_math_bits_deBruijn64tab), ("internal/strconv.uint64pow10", laid_internal_strconv_uint64pow10), ("lammastide/api.ErrText", laid_lammastide_api_ErrText), ("lammastide/api.ErrBound", laid_lammastide_api_ErrBound), ("lammastide/api.ErrNone", laid_lammastide_api_ErrNone), ("lammastide/api.ErrExist", laid_lammastide_api_ErrExist), ("lammastide/api.ErrFull", laid_lammastide_api_ErrFull), ("strconv.ErrRange", laid_strconv_ErrRange), ("strconv.ErrSyntax", laid_strconv_ErrSyntax)], narrowed := true }
def PoolBackUptoSaid : Prop := poolBackUptoRow.holds Tryd.pinned (OpenSpec.upto poolBackSpec)

/-- 'lammastidelaw3.PackDeltas', WHERE WHAT IT READS IS OF BULK AT MOST 1048576: true; the input reads as it did. -/
def packDeltasUptoRow : OpenClaim := { program := "ytmlndamkcipebaadoor", sum := "fc2935d2d00888be6276f0fb6d0ba0446119a7923bab8212eee4016c1f466ade", func := "lammastide/lammastidelaw3.PackDeltas", spec := "packDeltas", inPlace := ["internal/bytealg.IndexByteString", "internal/bytealg.IndexString", "internal/abi.NoEscape"], recurses := true, named := ["lammastide/api.ErrText", "lammastide/api.ErrBound", "internal/bytealg.MaxLen", "strconv.ErrSyntax", "strconv.ErrRange", "internal/strconv.uint64pow10", "math/bits.deBruijn32tab", "math/bits.deBruijn64tab", "lammastide/api.ErrFull", "lammastide/api.ErrNone"], apart := false, laid := [("math/bits.deBruijn32tab", laid_math_bits_deBruijn32tab), ("math/bits.deBruijn64tab", laid_math_bits_deBruijn64tab), ("internal/strconv.uint64pow10", laid_internal_strconv_uint64pow10), ("lammastide/api.ErrText", laid_lammastide_api_ErrText), ("lammastide/api.ErrBound", laid_lammastide_api_ErrBound), ("lammastide/api.ErrNone", laid_lammastide_api_ErrNone), ("lammastide/api.ErrFull", laid_lammastide_api_ErrFull), ("strconv.ErrRange", laid_strconv_ErrRange), ("strconv.ErrSyntax", laid_strconv_ErrSyntax)], narrowed := true }
def PackDeltasUptoSaid : Prop := packDeltasUptoRow.holds Tryd.pinned (OpenSpec.upto packDeltasSpec)

/-- 'lammastidelaw3.PackBack', WHERE WHAT IT READS IS OF BULK AT MOST 1048576: true; the input reads as it did. -/
def packBackUptoRow : OpenClaim := { program := "ytmlndamkcipebaadoor", sum := "fc2935d2d00888be6276f0fb6d0ba0446119a7923bab8212eee4016c1f466ade", func := "lammastide/lammastidelaw3.PackBack", spec := "packBack", inPlace := ["internal/bytealg.IndexByteString", "internal/bytealg.IndexString", "internal/abi.NoEscape"], named := ["lammastide/api.ErrText", "lammastide/api.ErrBound", "internal/bytealg.MaxLen", "strconv.ErrSyntax", "strconv.ErrRange", "internal/strconv.uint64pow10", "math/bits.deBruijn32tab", "math/bits.deBruijn64tab", "lammastide/api.ErrFull", "lammastide/api.ErrNone", "lammastide/api.ErrExist"], apart := false, laid := [("math/bits.deBruijn32tab", laid_math_bits_deBruijn32tab), ("math/bits.deBruijn64tab", laid_math_bits_deBruijn64tab), ("internal/strconv.uint64pow10", laid_internal_strconv_uint64pow10), ("lammastide/api.ErrText", laid_lammastide_api_ErrText), ("lammastide/api.ErrBound", laid_lammastide_api_ErrBound), ("lammastide/api.ErrNone", laid_lammastide_api_ErrNone), ("lammastide/api.ErrExist", laid_lammastide_api_ErrExist), ("lammastide/api.ErrFull", laid_lammastide_api_ErrFull), ("strconv.ErrRange", laid_strconv_ErrRange), ("strconv.ErrSyntax", laid_strconv_ErrSyntax)], narrowed := true }
def PackBackUptoSaid : Prop := packBackUptoRow.holds Tryd.pinned (OpenSpec.upto packBackSpec)

/-- 'lammastidelaw1.RuleBack', WHERE WHAT IT READS IS OF BULK AT MOST 1048576: true; the input reads as it did. -/
def ruleBackUptoRow : OpenClaim := { program := "ytmlndamkcipebaadoor", sum := "fc2935d2d00888be6276f0fb6d0ba0446119a7923bab8212eee4016c1f466ade", func := "lammastide/lammastidelaw1.RuleBack", spec := "ruleBack", inPlace := ["internal/abi.NoEscape", "internal/bytealg.MakeNoZero", "internal/bytealg.CountString", "internal/bytealg.IndexByteString", "internal/bytealg.IndexString"], unfollowed := true, recurses := true, named := ["lammastide/api.ErrName", "lammastide/api.ErrBound", "lammastide/api.ErrShape", "lammastide/api.ErrOrder", "internal/strconv.uint64pow10", "math/bits.deBruijn32tab", "math/bits.deBruijn64tab", "lammastide/api.ErrText", "unicode/utf8.first", "unicode/utf8.acceptRanges", "internal/bytealg.MaxLen", "strconv.ErrSyntax", "strconv.ErrRange"], apart := false, laid := [("math/bits.deBruijn32tab", laid_math_bits_deBruijn32tab), ("math/bits.deBruijn64tab", laid_math_bits_deBruijn64tab), ("internal/strconv.uint64pow10", laid_internal_strconv_uint64pow10), ("unicode/utf8.acceptRanges", laid_unicode_utf8_acceptRanges), ("lammastide/api.ErrText", laid_lammastide_api_ErrText), ("lammastide/api.ErrBound", laid_lammastide_api_ErrBound), ("lammastide/api.ErrShape", laid_lammastide_api_ErrShape), ("lammastide/api.ErrName", laid_lammastide_api_ErrName), ("lammastide/api.ErrOrder", laid_lammastide_api_ErrOrder), ("strconv.ErrRange", laid_strconv_ErrRange), ("strconv.ErrSyntax", laid_strconv_ErrSyntax), ("unicode/utf8.first", laid_unicode_utf8_first)], narrowed := true }
def RuleBackUptoSaid : Prop := ruleBackUptoRow.holds Tryd.pinned (OpenSpec.upto ruleBackSpec)

/-- 'lammastidelaw3.TapeActs', WHERE WHAT IT READS IS OF BULK AT MOST 1048576: true; the input reads as it did. -/
def tapeActsUptoRow : OpenClaim := { program := "ytmlndamkcipebaadoor", sum := "fc2935d2d00888be6276f0fb6d0ba0446119a7923bab8212eee4016c1f466ade", func := "lammastide/lammastidelaw3.TapeActs", spec := "tapeActs", inPlace := ["internal/bytealg.IndexByteString", "internal/bytealg.IndexString", "internal/reflectlite.ValueOf", "(internal/reflectlite.Value).Type", "(internal/reflectlite.Value).IsNil", "internal/reflectlite.TypeOf", "(internal/reflectlite.Value).Elem", "(internal/reflectlite.Value).Set"], unfollowed := true, recurses := true, named := ["lammastide/api.ErrBound", "lammastide/api.ErrShape", "lammastide/api.ErrFull", "internal/strconv.uint64pow10", "math/bits.deBruijn32tab", "math/bits.deBruijn64tab", "lammastide/api.ErrOff", "internal/bytealg.MaxLen", "strconv.ErrSyntax", "strconv.ErrRange", "lammastide/api.ErrText", "lammastide/api.ErrName", "lammastide/api.ErrNone", "lammastide/api.ErrExist", "lammastide/api.ErrOrder", "lammastide/api.ErrStale", "lammastide/api.ErrClash", "errors.errorType"], apart := false, laid := [("math/bits.deBruijn32tab", laid_math_bits_deBruijn32tab), ("math/bits.deBruijn64tab", laid_math_bits_deBruijn64tab), ("internal/strconv.uint64pow10", laid_internal_strconv_uint64pow10), ("errors.errorType", laid_errors_errorType), ("lammastide/api.ErrText", laid_lammastide_api_ErrText), ("lammastide/api.ErrBound", laid_lammastide_api_ErrBound), ("lammastide/api.ErrShape", laid_lammastide_api_ErrShape), ("lammastide/api.ErrName", laid_lammastide_api_ErrName), ("lammastide/api.ErrNone", laid_lammastide_api_ErrNone), ("lammastide/api.ErrExist", laid_lammastide_api_ErrExist), ("lammastide/api.ErrFull", laid_lammastide_api_ErrFull), ("lammastide/api.ErrOrder", laid_lammastide_api_ErrOrder), ("lammastide/api.ErrStale", laid_lammastide_api_ErrStale), ("lammastide/api.ErrClash", laid_lammastide_api_ErrClash), ("lammastide/api.ErrOff", laid_lammastide_api_ErrOff), ("strconv.ErrRange", laid_strconv_ErrRange), ("strconv.ErrSyntax", laid_strconv_ErrSyntax)], narrowed := true }
def TapeActsUptoSaid : Prop := tapeActsUptoRow.holds Tryd.pinned (OpenSpec.upto tapeActsSpec)

end Rows
end Go.Proofs.YtmlndamkcipebaaDoor
