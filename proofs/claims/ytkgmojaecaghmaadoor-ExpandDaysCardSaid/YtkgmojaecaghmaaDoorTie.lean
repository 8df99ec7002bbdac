/-
  DERIVED. GIVEN WITH THE SEED: THE PROGRAM's TIES (one call each: nine closed facts by the kernel) AND EACH ROW's TIE, after the 31st guide's Derived/Test/Toyas{Tie, Card}.lean. No idea stands in it: it is a product of the set-up. Laid BY PROGRAM, IN A SANDBOX (cutbox-door.mjs). By AI agents, Wed Nov 11 2026. No macro, syntax, notation, axiom, sorry.
-/
import Derived.Test.YtkgmojaecaghmaaDoorRows
import Derived.LaidByTextLater
import Derived.SevenTiedAt
import Derived.LaidSub
import Derived.LaidOnce
namespace Go.Proofs.YtkgmojaecaghmaaDoor
open Go
set_option maxRecDepth 100000
theorem seatTie1 : Tryd.prog.laidByTextLater [("math/bits.deBruijn32tab", Rows.laid_math_bits_deBruijn32tab), ("math/bits.deBruijn64tab", Rows.laid_math_bits_deBruijn64tab), ("internal/strconv.uint64pow10", Rows.laid_internal_strconv_uint64pow10), ("unicode/utf8.acceptRanges", Rows.laid_unicode_utf8_acceptRanges), ("errors.errorType", Rows.laid_errors_errorType), ("lammastide/api.ErrText", Rows.laid_lammastide_api_ErrText), ("lammastide/api.ErrBound", Rows.laid_lammastide_api_ErrBound), ("lammastide/api.ErrShape", Rows.laid_lammastide_api_ErrShape), ("lammastide/api.ErrName", Rows.laid_lammastide_api_ErrName), ("lammastide/api.ErrNone", Rows.laid_lammastide_api_ErrNone), ("lammastide/api.ErrExist", Rows.laid_lammastide_api_ErrExist), ("lammastide/api.ErrFull", Rows.laid_lammastide_api_ErrFull), ("lammastide/api.ErrOrder", Rows.laid_lammastide_api_ErrOrder), ("lammastide/api.ErrStale", Rows.laid_lammastide_api_ErrStale), ("lammastide/api.ErrClash", Rows.laid_lammastide_api_ErrClash), ("lammastide/api.ErrOff", Rows.laid_lammastide_api_ErrOff), ("strconv.ErrRange", Rows.laid_strconv_ErrRange), ("strconv.ErrSyntax", Rows.laid_strconv_ErrSyntax)] [.data, .data, .data, .data, .handle, .sentinel, .sentinel, .sentinel, .sentinel, .sentinel, .sentinel, .sentinel, .sentinel, .sentinel, .sentinel, .sentinel, .sentinel, .sentinel] true :=
  Program.laidByTextLater_by_one 288 8 65 (by kernel_rfl) (by kernel_rfl) (by kernel_rfl) (by kernel_rfl) (by kernel_rfl) (by kernel_rfl) (fun _ _ => by kernel_rfl)
theorem pin_laid_unicode_utf8_first : Tryd.pinned.checked.prog.pinnedFits "unicode/utf8.first" = true := by kernel_rfl
theorem noOwnUnsafe : Tryd.pinned.checked.prog.headLifts.contains "ownunsafe" = false := by kernel_rfl
theorem tie : Tryd.prog.laidByTextLater [("lammastide/api.ErrBound", Rows.laid_lammastide_api_ErrBound), ("lammastide/api.ErrShape", Rows.laid_lammastide_api_ErrShape), ("lammastide/api.ErrName", Rows.laid_lammastide_api_ErrName), ("lammastide/api.ErrOrder", Rows.laid_lammastide_api_ErrOrder)] [.sentinel, .sentinel, .sentinel, .sentinel] true :=
  Program.laidByTextLater.sub seatTie1 ["lammastide/api.ErrBound", "lammastide/api.ErrShape", "lammastide/api.ErrName", "lammastide/api.ErrOrder"] (by kernel_rfl) (by kernel_rfl)
theorem expandCounts_row_tie : Rows.expandCountsRow.laidByTextAt .later Tryd.pinned [.sentinel, .sentinel, .sentinel, .sentinel] true :=
  OpenClaim.laidByTextAt_later rfl rfl tie noOwnUnsafe
theorem expandRises_row_tie : Rows.expandRisesRow.laidByTextAt .later Tryd.pinned [.sentinel, .sentinel, .sentinel, .sentinel] true :=
  OpenClaim.laidByTextAt_later rfl rfl tie noOwnUnsafe
theorem tie2 : Tryd.prog.laidByTextLater [("errors.errorType", Rows.laid_errors_errorType), ("lammastide/api.ErrText", Rows.laid_lammastide_api_ErrText), ("lammastide/api.ErrBound", Rows.laid_lammastide_api_ErrBound), ("lammastide/api.ErrShape", Rows.laid_lammastide_api_ErrShape), ("lammastide/api.ErrName", Rows.laid_lammastide_api_ErrName), ("lammastide/api.ErrNone", Rows.laid_lammastide_api_ErrNone), ("lammastide/api.ErrExist", Rows.laid_lammastide_api_ErrExist), ("lammastide/api.ErrFull", Rows.laid_lammastide_api_ErrFull), ("lammastide/api.ErrOrder", Rows.laid_lammastide_api_ErrOrder), ("lammastide/api.ErrStale", Rows.laid_lammastide_api_ErrStale), ("lammastide/api.ErrClash", Rows.laid_lammastide_api_ErrClash), ("lammastide/api.ErrOff", Rows.laid_lammastide_api_ErrOff)] [.handle, .sentinel, .sentinel, .sentinel, .sentinel, .sentinel, .sentinel, .sentinel, .sentinel, .sentinel, .sentinel, .sentinel] true :=
  Program.laidByTextLater.sub seatTie1 ["errors.errorType", "lammastide/api.ErrText", "lammastide/api.ErrBound", "lammastide/api.ErrShape", "lammastide/api.ErrName", "lammastide/api.ErrNone", "lammastide/api.ErrExist", "lammastide/api.ErrFull", "lammastide/api.ErrOrder", "lammastide/api.ErrStale", "lammastide/api.ErrClash", "lammastide/api.ErrOff"] (by kernel_rfl) (by kernel_rfl)
theorem names_row_tie : Rows.namesRow.laidByTextAt .later Tryd.pinned [.handle, .sentinel, .sentinel, .sentinel, .sentinel, .sentinel, .sentinel, .sentinel, .sentinel, .sentinel, .sentinel, .sentinel] true :=
  OpenClaim.laidByTextAt_later rfl rfl tie2 noOwnUnsafe
theorem expandDays_row_tie : Rows.expandDaysRow.laidByTextAt .later Tryd.pinned [.handle, .sentinel, .sentinel, .sentinel, .sentinel, .sentinel, .sentinel, .sentinel, .sentinel, .sentinel, .sentinel, .sentinel] true :=
  OpenClaim.laidByTextAt_later rfl rfl tie2 noOwnUnsafe
theorem tie3 : Tryd.prog.laidByTextLater [("math/bits.deBruijn32tab", Rows.laid_math_bits_deBruijn32tab), ("math/bits.deBruijn64tab", Rows.laid_math_bits_deBruijn64tab), ("internal/strconv.uint64pow10", Rows.laid_internal_strconv_uint64pow10), ("lammastide/api.ErrBound", Rows.laid_lammastide_api_ErrBound)] [.data, .data, .data, .sentinel] true :=
  Program.laidByTextLater.sub seatTie1 ["math/bits.deBruijn32tab", "math/bits.deBruijn64tab", "internal/strconv.uint64pow10", "lammastide/api.ErrBound"] (by kernel_rfl) (by kernel_rfl)
theorem dayMonths_row_tie : Rows.dayMonthsRow.laidByTextAt .later Tryd.pinned [.data, .data, .data, .sentinel] true :=
  OpenClaim.laidByTextAt_later rfl rfl tie3 noOwnUnsafe
theorem tie4 : Tryd.prog.laidByTextLater [("math/bits.deBruijn32tab", Rows.laid_math_bits_deBruijn32tab), ("math/bits.deBruijn64tab", Rows.laid_math_bits_deBruijn64tab), ("internal/strconv.uint64pow10", Rows.laid_internal_strconv_uint64pow10), ("lammastide/api.ErrText", Rows.laid_lammastide_api_ErrText), ("lammastide/api.ErrBound", Rows.laid_lammastide_api_ErrBound)] [.data, .data, .data, .sentinel, .sentinel] true :=
  Program.laidByTextLater.sub seatTie1 ["math/bits.deBruijn32tab", "math/bits.deBruijn64tab", "internal/strconv.uint64pow10", "lammastide/api.ErrText", "lammastide/api.ErrBound"] (by kernel_rfl) (by kernel_rfl)
theorem dayBack_row_tie : Rows.dayBackRow.laidByTextAt .later Tryd.pinned [.data, .data, .data, .sentinel, .sentinel] true :=
  OpenClaim.laidByTextAt_later rfl rfl tie4 noOwnUnsafe
theorem tie5 : Tryd.prog.laidByTextLater [("math/bits.deBruijn32tab", Rows.laid_math_bits_deBruijn32tab), ("math/bits.deBruijn64tab", Rows.laid_math_bits_deBruijn64tab), ("internal/strconv.uint64pow10", Rows.laid_internal_strconv_uint64pow10), ("errors.errorType", Rows.laid_errors_errorType), ("lammastide/api.ErrText", Rows.laid_lammastide_api_ErrText), ("lammastide/api.ErrBound", Rows.laid_lammastide_api_ErrBound), ("lammastide/api.ErrShape", Rows.laid_lammastide_api_ErrShape), ("lammastide/api.ErrName", Rows.laid_lammastide_api_ErrName), ("lammastide/api.ErrNone", Rows.laid_lammastide_api_ErrNone), ("lammastide/api.ErrExist", Rows.laid_lammastide_api_ErrExist), ("lammastide/api.ErrFull", Rows.laid_lammastide_api_ErrFull), ("lammastide/api.ErrOrder", Rows.laid_lammastide_api_ErrOrder), ("lammastide/api.ErrStale", Rows.laid_lammastide_api_ErrStale), ("lammastide/api.ErrClash", Rows.laid_lammastide_api_ErrClash), ("lammastide/api.ErrOff", Rows.laid_lammastide_api_ErrOff)] [.data, .data, .data, .handle, .sentinel, .sentinel, .sentinel, .sentinel, .sentinel, .sentinel, .sentinel, .sentinel, .sentinel, .sentinel, .sentinel] true :=
  Program.laidByTextLater.sub seatTie1 ["math/bits.deBruijn32tab", "math/bits.deBruijn64tab", "internal/strconv.uint64pow10", "errors.errorType", "lammastide/api.ErrText", "lammastide/api.ErrBound", "lammastide/api.ErrShape", "lammastide/api.ErrName", "lammastide/api.ErrNone", "lammastide/api.ErrExist", "lammastide/api.ErrFull", "lammastide/api.ErrOrder", "lammastide/api.ErrStale", "lammastide/api.ErrClash", "lammastide/api.ErrOff"] (by kernel_rfl) (by kernel_rfl)
theorem dayDates_row_tie : Rows.dayDatesRow.laidByTextAt .later Tryd.pinned [.data, .data, .data, .handle, .sentinel, .sentinel, .sentinel, .sentinel, .sentinel, .sentinel, .sentinel, .sentinel, .sentinel, .sentinel, .sentinel] true :=
  OpenClaim.laidByTextAt_later rfl rfl tie5 noOwnUnsafe
theorem dayAdds_row_tie : Rows.dayAddsRow.laidByTextAt .later Tryd.pinned [.data, .data, .data, .handle, .sentinel, .sentinel, .sentinel, .sentinel, .sentinel, .sentinel, .sentinel, .sentinel, .sentinel, .sentinel, .sentinel] true :=
  OpenClaim.laidByTextAt_later rfl rfl tie5 noOwnUnsafe
theorem fits6 : Tryd.pinned.checked.prog.listedFits [("math/bits.deBruijn32tab", Rows.laid_math_bits_deBruijn32tab), ("math/bits.deBruijn64tab", Rows.laid_math_bits_deBruijn64tab), ("internal/strconv.uint64pow10", Rows.laid_internal_strconv_uint64pow10), ("unicode/utf8.acceptRanges", Rows.laid_unicode_utf8_acceptRanges), ("lammastide/api.ErrText", Rows.laid_lammastide_api_ErrText), ("lammastide/api.ErrBound", Rows.laid_lammastide_api_ErrBound), ("lammastide/api.ErrShape", Rows.laid_lammastide_api_ErrShape), ("lammastide/api.ErrName", Rows.laid_lammastide_api_ErrName), ("lammastide/api.ErrOrder", Rows.laid_lammastide_api_ErrOrder), ("strconv.ErrRange", Rows.laid_strconv_ErrRange), ("strconv.ErrSyntax", Rows.laid_strconv_ErrSyntax), ("unicode/utf8.first", Rows.laid_unicode_utf8_first)] = true := by
  unfold Program.listedFits
  rw [noOwnUnsafe]
  kernel_rfl
theorem tie6 : Tryd.prog.laidByTextLater [("math/bits.deBruijn32tab", Rows.laid_math_bits_deBruijn32tab), ("math/bits.deBruijn64tab", Rows.laid_math_bits_deBruijn64tab), ("internal/strconv.uint64pow10", Rows.laid_internal_strconv_uint64pow10), ("unicode/utf8.acceptRanges", Rows.laid_unicode_utf8_acceptRanges), ("lammastide/api.ErrText", Rows.laid_lammastide_api_ErrText), ("lammastide/api.ErrBound", Rows.laid_lammastide_api_ErrBound), ("lammastide/api.ErrShape", Rows.laid_lammastide_api_ErrShape), ("lammastide/api.ErrName", Rows.laid_lammastide_api_ErrName), ("lammastide/api.ErrOrder", Rows.laid_lammastide_api_ErrOrder), ("strconv.ErrRange", Rows.laid_strconv_ErrRange), ("strconv.ErrSyntax", Rows.laid_strconv_ErrSyntax)] [.data, .data, .data, .data, .sentinel, .sentinel, .sentinel, .sentinel, .sentinel, .sentinel, .sentinel] true :=
  Program.laidByTextLater.sub seatTie1 ["math/bits.deBruijn32tab", "math/bits.deBruijn64tab", "internal/strconv.uint64pow10", "unicode/utf8.acceptRanges", "lammastide/api.ErrText", "lammastide/api.ErrBound", "lammastide/api.ErrShape", "lammastide/api.ErrName", "lammastide/api.ErrOrder", "strconv.ErrRange", "strconv.ErrSyntax"] (by kernel_rfl) (by kernel_rfl)
theorem ruleBack_row_tie : Rows.ruleBackRow.laidByTextAt .later Tryd.pinned [.data, .data, .data, .data, .sentinel, .sentinel, .sentinel, .sentinel, .sentinel, .sentinel, .sentinel, .pinned] true :=
  OpenClaim.laidByTextAt_pinned rfl rfl tie6 rfl rfl rfl rfl (fun y hy _e => by
    simp only [Rows.ruleBackRow, List.zip_cons_cons, List.zip_nil_right, List.mem_cons, List.mem_nil_iff, or_false] at hy
    rcases hy with rfl | rfl | rfl | rfl | rfl | rfl | rfl | rfl | rfl | rfl | rfl | rfl
    · cases _e
    · cases _e
    · cases _e
    · cases _e
    · cases _e
    · cases _e
    · cases _e
    · cases _e
    · cases _e
    · cases _e
    · cases _e
    · exact ⟨pin_laid_unicode_utf8_first, by kernel_rfl⟩) fits6
theorem expandCountsUpto_row_tie : Rows.expandCountsUptoRow.laidByTextAt .later Tryd.pinned [.sentinel, .sentinel, .sentinel, .sentinel] true :=
  OpenClaim.laidByTextAt_later rfl rfl tie noOwnUnsafe
theorem namesUpto_row_tie : Rows.namesUptoRow.laidByTextAt .later Tryd.pinned [.handle, .sentinel, .sentinel, .sentinel, .sentinel, .sentinel, .sentinel, .sentinel, .sentinel, .sentinel, .sentinel, .sentinel] true :=
  OpenClaim.laidByTextAt_later rfl rfl tie2 noOwnUnsafe
theorem expandRisesUpto_row_tie : Rows.expandRisesUptoRow.laidByTextAt .later Tryd.pinned [.sentinel, .sentinel, .sentinel, .sentinel] true :=
  OpenClaim.laidByTextAt_later rfl rfl tie noOwnUnsafe
theorem dayMonthsUpto_row_tie : Rows.dayMonthsUptoRow.laidByTextAt .later Tryd.pinned [.data, .data, .data, .sentinel] true :=
  OpenClaim.laidByTextAt_later rfl rfl tie3 noOwnUnsafe
theorem dayBackUpto_row_tie : Rows.dayBackUptoRow.laidByTextAt .later Tryd.pinned [.data, .data, .data, .sentinel, .sentinel] true :=
  OpenClaim.laidByTextAt_later rfl rfl tie4 noOwnUnsafe
theorem expandDaysUpto_row_tie : Rows.expandDaysUptoRow.laidByTextAt .later Tryd.pinned [.handle, .sentinel, .sentinel, .sentinel, .sentinel, .sentinel, .sentinel, .sentinel, .sentinel, .sentinel, .sentinel, .sentinel] true :=
  OpenClaim.laidByTextAt_later rfl rfl tie2 noOwnUnsafe
theorem dayDatesUpto_row_tie : Rows.dayDatesUptoRow.laidByTextAt .later Tryd.pinned [.data, .data, .data, .handle, .sentinel, .sentinel, .sentinel, .sentinel, .sentinel, .sentinel, .sentinel, .sentinel, .sentinel, .sentinel, .sentinel] true :=
  OpenClaim.laidByTextAt_later rfl rfl tie5 noOwnUnsafe
theorem dayAddsUpto_row_tie : Rows.dayAddsUptoRow.laidByTextAt .later Tryd.pinned [.data, .data, .data, .handle, .sentinel, .sentinel, .sentinel, .sentinel, .sentinel, .sentinel, .sentinel, .sentinel, .sentinel, .sentinel, .sentinel] true :=
  OpenClaim.laidByTextAt_later rfl rfl tie5 noOwnUnsafe
theorem ruleBackUpto_row_tie : Rows.ruleBackUptoRow.laidByTextAt .later Tryd.pinned [.data, .data, .data, .data, .sentinel, .sentinel, .sentinel, .sentinel, .sentinel, .sentinel, .sentinel, .pinned] true :=
  OpenClaim.laidByTextAt_pinned rfl rfl tie6 rfl rfl rfl rfl (fun y hy _e => by
    simp only [Rows.ruleBackUptoRow, List.zip_cons_cons, List.zip_nil_right, List.mem_cons, List.mem_nil_iff, or_false] at hy
    rcases hy with rfl | rfl | rfl | rfl | rfl | rfl | rfl | rfl | rfl | rfl | rfl | rfl
    · cases _e
    · cases _e
    · cases _e
    · cases _e
    · cases _e
    · cases _e
    · cases _e
    · cases _e
    · cases _e
    · cases _e
    · cases _e
    · exact ⟨pin_laid_unicode_utf8_first, by kernel_rfl⟩) fits6
end Go.Proofs.YtkgmojaecaghmaaDoor
