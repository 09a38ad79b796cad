/- Part 29 of the proof: texts U14a. -/
import Derived.Test.YtfedkhjbkiillaaGreatDoorP28
import Derived.Test.YtfedkhjbkiillaaGreatDoorRows
import Derived.LaidByTextLater
set_option linter.all false
namespace Go.Proofs.YtfedkhjbkiillaaGreatDoor
open Go
def ldl : List (String × DataW Unit) := [("internal/strconv.uint64pow10", Rows.laid_internal_strconv_uint64pow10), ("math/bits.deBruijn32tab", Rows.laid_math_bits_deBruijn32tab), ("math/bits.deBruijn64tab", Rows.laid_math_bits_deBruijn64tab), ("unicode/utf8.acceptRanges", Rows.laid_unicode_utf8_acceptRanges), ("concord/date.lengths", Rows.laid_concord_date_lengths), ("strconv.ErrSyntax", Rows.laid_strconv_ErrSyntax), ("strconv.ErrRange", Rows.laid_strconv_ErrRange), ("concord/decimal.tens", Rows.laid_concord_decimal_tens)]
def ldk : List LaidKind := [.data, .data, .data, .data, .data, .sentinel, .sentinel, .data]
theorem tieA : Tryz.prog.worded (varsWordLater true) = true := by kernel_rfl
theorem tieB : Tryz.prog.worded (varsWordLater !true) = false := by kernel_rfl
theorem tieC : Tryz.prog.worded rootWordLater = true := by kernel_rfl
theorem tieD : ldl.map (fun x => Tryz.prog.kindOfLater x.1) = ldk.map some := by kernel_rfl
theorem tieE : (Tryz.prog.funcNamed "gosem.cut.vars").isSome = true := by kernel_rfl
theorem tieF : varsNamedLaterB Tryz.prog (varsId Tryz.prog) ldl = true := by kernel_rfl
theorem tieJ : (ldl.all fun x => x.2.handleName?.isNone) = true := by kernel_rfl
end Go.Proofs.YtfedkhjbkiillaaGreatDoor
