/-
  DERIVED. GIVEN WITH THE SEED: THE PROGRAM's TIES (one call each: nine closed facts by the kernel) AND EACH ROW's TIE, after the 31st guide's Derived/Test/Toyas{Tie, Card}.lean. No idea stands in it: it is a product of the set-up. Laid BY PROGRAM, IN A SANDBOX (cutbox-door.mjs). By AI agents, Wed Nov 11 2026. No macro, syntax, notation, axiom, sorry.
-/
import Derived.Test.YtabikmkoajdhmaaGreatDoorRows
import Derived.LaidByTextLater
import Derived.SevenTiedAt
import Derived.LaidSub
import Derived.LaidOnce
namespace Go.Proofs.YtabikmkoajdhmaaGreatDoor
open Go
set_option maxRecDepth 100000
theorem seatTie1 : Tryz.prog.laidByTextLater [("math/bits.deBruijn32tab", Rows.laid_math_bits_deBruijn32tab), ("math/bits.deBruijn64tab", Rows.laid_math_bits_deBruijn64tab), ("internal/strconv.uint64pow10", Rows.laid_internal_strconv_uint64pow10), ("typer/typerref.words", Rows.laid_typer_typerref_words), ("typer/typerref.kinds", Rows.laid_typer_typerref_kinds), ("errors.errorType", Rows.laid_errors_errorType), ("typer/api.ErrLong", Rows.laid_typer_api_ErrLong), ("typer/api.ErrDeep", Rows.laid_typer_api_ErrDeep), ("typer/api.ErrArg", Rows.laid_typer_api_ErrArg), ("typer/api.ErrType", Rows.laid_typer_api_ErrType), ("typer/api.ErrBig", Rows.laid_typer_api_ErrBig), ("typer/api.ErrFuel", Rows.laid_typer_api_ErrFuel), ("typer/api.ErrStopped", Rows.laid_typer_api_ErrStopped), ("typer/api.ErrNot", Rows.laid_typer_api_ErrNot)] [.data, .data, .data, .widerDeep, .widerDeep, .handle, .sentinel, .sentinel, .sentinel, .sentinel, .sentinel, .sentinel, .sentinel, .sentinel] true :=
  Program.laidByTextLater_by_one 193 8 65 (by kernel_rfl) (by kernel_rfl) (by kernel_rfl) (by kernel_rfl) (by kernel_rfl) (by kernel_rfl) (fun _ _ => by kernel_rfl)
theorem noOwnUnsafe : Tryz.pinned.checked.prog.headLifts.contains "ownunsafe" = false := by kernel_rfl
theorem tie : Tryz.prog.laidByTextLater [("math/bits.deBruijn32tab", Rows.laid_math_bits_deBruijn32tab), ("math/bits.deBruijn64tab", Rows.laid_math_bits_deBruijn64tab), ("internal/strconv.uint64pow10", Rows.laid_internal_strconv_uint64pow10), ("errors.errorType", Rows.laid_errors_errorType), ("typer/api.ErrLong", Rows.laid_typer_api_ErrLong), ("typer/api.ErrDeep", Rows.laid_typer_api_ErrDeep), ("typer/api.ErrArg", Rows.laid_typer_api_ErrArg), ("typer/api.ErrType", Rows.laid_typer_api_ErrType), ("typer/api.ErrBig", Rows.laid_typer_api_ErrBig), ("typer/api.ErrFuel", Rows.laid_typer_api_ErrFuel), ("typer/api.ErrStopped", Rows.laid_typer_api_ErrStopped), ("typer/api.ErrNot", Rows.laid_typer_api_ErrNot)] [.data, .data, .data, .handle, .sentinel, .sentinel, .sentinel, .sentinel, .sentinel, .sentinel, .sentinel, .sentinel] true :=
  Program.laidByTextLater.sub seatTie1 ["math/bits.deBruijn32tab", "math/bits.deBruijn64tab", "internal/strconv.uint64pow10", "errors.errorType", "typer/api.ErrLong", "typer/api.ErrDeep", "typer/api.ErrArg", "typer/api.ErrType", "typer/api.ErrBig", "typer/api.ErrFuel", "typer/api.ErrStopped", "typer/api.ErrNot"] (by kernel_rfl) (by kernel_rfl)
theorem refuses_row_tie : Rows.refusesRow.laidByTextAt .later Tryz.pinned [.data, .data, .data, .handle, .sentinel, .sentinel, .sentinel, .sentinel, .sentinel, .sentinel, .sentinel, .sentinel] true :=
  OpenClaim.laidByTextAt_later rfl rfl tie noOwnUnsafe
theorem renamed_row_tie : Rows.renamedRow.laidByTextAt .later Tryz.pinned [.data, .data, .data, .handle, .sentinel, .sentinel, .sentinel, .sentinel, .sentinel, .sentinel, .sentinel, .sentinel] true :=
  OpenClaim.laidByTextAt_later rfl rfl tie noOwnUnsafe
theorem times_row_tie : Rows.timesRow.laidByTextAt .later Tryz.pinned [.data, .data, .data, .handle, .sentinel, .sentinel, .sentinel, .sentinel, .sentinel, .sentinel, .sentinel, .sentinel] true :=
  OpenClaim.laidByTextAt_later rfl rfl tie noOwnUnsafe
theorem path_row_tie : Rows.pathRow.laidByTextAt .later Tryz.pinned [.data, .data, .data, .handle, .sentinel, .sentinel, .sentinel, .sentinel, .sentinel, .sentinel, .sentinel, .sentinel] true :=
  OpenClaim.laidByTextAt_later rfl rfl tie noOwnUnsafe
theorem tie2 : Tryz.prog.laidByTextLater [("math/bits.deBruijn32tab", Rows.laid_math_bits_deBruijn32tab), ("math/bits.deBruijn64tab", Rows.laid_math_bits_deBruijn64tab), ("internal/strconv.uint64pow10", Rows.laid_internal_strconv_uint64pow10), ("typer/typerref.words", Rows.laid_typer_typerref_words), ("typer/typerref.kinds", Rows.laid_typer_typerref_kinds), ("errors.errorType", Rows.laid_errors_errorType), ("typer/api.ErrLong", Rows.laid_typer_api_ErrLong), ("typer/api.ErrDeep", Rows.laid_typer_api_ErrDeep), ("typer/api.ErrArg", Rows.laid_typer_api_ErrArg), ("typer/api.ErrType", Rows.laid_typer_api_ErrType), ("typer/api.ErrBig", Rows.laid_typer_api_ErrBig), ("typer/api.ErrFuel", Rows.laid_typer_api_ErrFuel), ("typer/api.ErrStopped", Rows.laid_typer_api_ErrStopped), ("typer/api.ErrNot", Rows.laid_typer_api_ErrNot)] [.data, .data, .data, .widerDeep, .widerDeep, .handle, .sentinel, .sentinel, .sentinel, .sentinel, .sentinel, .sentinel, .sentinel, .sentinel] true :=
  Program.laidByTextLater.sub seatTie1 ["math/bits.deBruijn32tab", "math/bits.deBruijn64tab", "internal/strconv.uint64pow10", "typer/typerref.words", "typer/typerref.kinds", "errors.errorType", "typer/api.ErrLong", "typer/api.ErrDeep", "typer/api.ErrArg", "typer/api.ErrType", "typer/api.ErrBig", "typer/api.ErrFuel", "typer/api.ErrStopped", "typer/api.ErrNot"] (by kernel_rfl) (by kernel_rfl)
theorem all_row_tie : Rows.allRow.laidByTextAt .later Tryz.pinned [.data, .data, .data, .widerDeep, .widerDeep, .handle, .sentinel, .sentinel, .sentinel, .sentinel, .sentinel, .sentinel, .sentinel, .sentinel] true :=
  OpenClaim.laidByTextAt_later rfl rfl tie2 noOwnUnsafe
theorem plain_row_tie : Rows.plainRow.laidByTextAt .later Tryz.pinned [.data, .data, .data, .widerDeep, .widerDeep, .handle, .sentinel, .sentinel, .sentinel, .sentinel, .sentinel, .sentinel, .sentinel, .sentinel] true :=
  OpenClaim.laidByTextAt_later rfl rfl tie2 noOwnUnsafe
theorem infers_row_tie : Rows.infersRow.laidByTextAt .later Tryz.pinned [.data, .data, .data, .widerDeep, .widerDeep, .handle, .sentinel, .sentinel, .sentinel, .sentinel, .sentinel, .sentinel, .sentinel, .sentinel] true :=
  OpenClaim.laidByTextAt_later rfl rfl tie2 noOwnUnsafe
theorem steady_row_tie : Rows.steadyRow.laidByTextAt .later Tryz.pinned [.data, .data, .data, .widerDeep, .widerDeep, .handle, .sentinel, .sentinel, .sentinel, .sentinel, .sentinel, .sentinel, .sentinel, .sentinel] true :=
  OpenClaim.laidByTextAt_later rfl rfl tie2 noOwnUnsafe
theorem refusesUpto_row_tie : Rows.refusesUptoRow.laidByTextAt .later Tryz.pinned [.data, .data, .data, .handle, .sentinel, .sentinel, .sentinel, .sentinel, .sentinel, .sentinel, .sentinel, .sentinel] true :=
  OpenClaim.laidByTextAt_later rfl rfl tie noOwnUnsafe
theorem renamedUpto_row_tie : Rows.renamedUptoRow.laidByTextAt .later Tryz.pinned [.data, .data, .data, .handle, .sentinel, .sentinel, .sentinel, .sentinel, .sentinel, .sentinel, .sentinel, .sentinel] true :=
  OpenClaim.laidByTextAt_later rfl rfl tie noOwnUnsafe
theorem allUpto_row_tie : Rows.allUptoRow.laidByTextAt .later Tryz.pinned [.data, .data, .data, .widerDeep, .widerDeep, .handle, .sentinel, .sentinel, .sentinel, .sentinel, .sentinel, .sentinel, .sentinel, .sentinel] true :=
  OpenClaim.laidByTextAt_later rfl rfl tie2 noOwnUnsafe
theorem plainUpto_row_tie : Rows.plainUptoRow.laidByTextAt .later Tryz.pinned [.data, .data, .data, .widerDeep, .widerDeep, .handle, .sentinel, .sentinel, .sentinel, .sentinel, .sentinel, .sentinel, .sentinel, .sentinel] true :=
  OpenClaim.laidByTextAt_later rfl rfl tie2 noOwnUnsafe
theorem infersUpto_row_tie : Rows.infersUptoRow.laidByTextAt .later Tryz.pinned [.data, .data, .data, .widerDeep, .widerDeep, .handle, .sentinel, .sentinel, .sentinel, .sentinel, .sentinel, .sentinel, .sentinel, .sentinel] true :=
  OpenClaim.laidByTextAt_later rfl rfl tie2 noOwnUnsafe
theorem steadyUpto_row_tie : Rows.steadyUptoRow.laidByTextAt .later Tryz.pinned [.data, .data, .data, .widerDeep, .widerDeep, .handle, .sentinel, .sentinel, .sentinel, .sentinel, .sentinel, .sentinel, .sentinel, .sentinel] true :=
  OpenClaim.laidByTextAt_later rfl rfl tie2 noOwnUnsafe
theorem timesUpto_row_tie : Rows.timesUptoRow.laidByTextAt .later Tryz.pinned [.data, .data, .data, .handle, .sentinel, .sentinel, .sentinel, .sentinel, .sentinel, .sentinel, .sentinel, .sentinel] true :=
  OpenClaim.laidByTextAt_later rfl rfl tie noOwnUnsafe
theorem pathUpto_row_tie : Rows.pathUptoRow.laidByTextAt .later Tryz.pinned [.data, .data, .data, .handle, .sentinel, .sentinel, .sentinel, .sentinel, .sentinel, .sentinel, .sentinel, .sentinel] true :=
  OpenClaim.laidByTextAt_later rfl rfl tie noOwnUnsafe
end Go.Proofs.YtabikmkoajdhmaaGreatDoor
