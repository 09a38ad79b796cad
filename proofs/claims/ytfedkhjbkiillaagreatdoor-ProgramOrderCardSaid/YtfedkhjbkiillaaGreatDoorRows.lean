/-
  NARROWER THAN 'FOR EVERY INPUT', by the rows' own cells (each row's printed sentence says how): ProgramTerms: laid · ProgramEvals: laid · ProgramCounts: laid · ProgramOpens: laid · ProgramParts: laid · ProgramOrder: laid · ProgramOwn: laid · ProgramReads: laid.
  DERIVED. THE GIVEN ROWS OF THIS SEAT. 8 by the template 'for every input the law returns true; each argument reads behind the call as it read before'; 0 by the template 'total and deterministic' (their statements: YtfedkhjbkiillaaGreatDoorTotals.lean).
  GIVEN WITH THE SEED: the statements are not yours to turn. If you find one false, say at which input.
  Laid BY PROGRAM, IN A SANDBOX (cutbox-rows.mjs): the forced cells as the released guide's own fill.sh prints them over the translation 488846a2e652c414… (all of the seat's roots in one cut). By AI agents, Wed Nov 11 2026. No macro, syntax, notation, axiom, sorry.
-/
import Derived.Test.YtfedkhjbkiillaaGreatDoorChecked
import GoSem.PinnedTables
import GoSem.Claim
import GoSem.ClaimJoined
import GoSem.ClaimMapViews
import Derived.JoinedTies
import Derived.KernelRfl
namespace Go.Proofs.YtfedkhjbkiillaaGreatDoor
/- THE CELL 'sum', in the pinned program and in every row, IS THE sha256 OF THE DUMP (.gsa) THAT YtfedkhjbkiillaaGreatDoorProg.lean LOADS. Nothing in Lean hashes anything: it is a label: what it is worth is what the hold of that sum in a sandbox is worth. -/
noncomputable def Tryz.pinned : Pinned := { name := "ytfedkhjbkiillaagreatdoor", sum := "488846a2e652c4145723e64493475e223b3de2af5b60a08b7c3937bd3f0438d5", checked := Tryz.checked }
namespace Rows
def none {H : Type} : Left H := { results := [], args := [] }

/- WHAT THE LISTED PACKAGE-LEVEL VARIABLES READ AS WHEN THE CALL BEGINS. Each datum BY PROGRAM (the guide's laid-datum.mjs) off the statement by which the dump's own 'gosem.cut.vars' lays the variable. In a bare row this is a premise. The card (YtfedkhjbkiillaaGreatDoorCards.lean) ties it to the program's text. -/
def laid_internal_strconv_uint64pow10 {H : Type} : DataW H := .agg [.lit (.int .u64 1), .lit (.int .u64 10), .lit (.int .u64 100), .lit (.int .u64 1000), .lit (.int .u64 10000), .lit (.int .u64 100000), .lit (.int .u64 1000000), .lit (.int .u64 10000000), .lit (.int .u64 100000000), .lit (.int .u64 1000000000), .lit (.int .u64 10000000000), .lit (.int .u64 100000000000), .lit (.int .u64 1000000000000), .lit (.int .u64 10000000000000), .lit (.int .u64 100000000000000), .lit (.int .u64 1000000000000000), .lit (.int .u64 10000000000000000), .lit (.int .u64 100000000000000000), .lit (.int .u64 1000000000000000000), .lit (.int .u64 10000000000000000000)]
def laid_math_bits_deBruijn32tab {H : Type} : DataW H := .agg [.lit (.int .u8 0), .lit (.int .u8 1), .lit (.int .u8 28), .lit (.int .u8 2), .lit (.int .u8 29), .lit (.int .u8 14), .lit (.int .u8 24), .lit (.int .u8 3), .lit (.int .u8 30), .lit (.int .u8 22), .lit (.int .u8 20), .lit (.int .u8 15), .lit (.int .u8 25), .lit (.int .u8 17), .lit (.int .u8 4), .lit (.int .u8 8), .lit (.int .u8 31), .lit (.int .u8 27), .lit (.int .u8 13), .lit (.int .u8 23), .lit (.int .u8 21), .lit (.int .u8 19), .lit (.int .u8 16), .lit (.int .u8 7), .lit (.int .u8 26), .lit (.int .u8 12), .lit (.int .u8 18), .lit (.int .u8 6), .lit (.int .u8 11), .lit (.int .u8 5), .lit (.int .u8 10), .lit (.int .u8 9)]
def laid_math_bits_deBruijn64tab {H : Type} : DataW H := .agg [.lit (.int .u8 0), .lit (.int .u8 1), .lit (.int .u8 56), .lit (.int .u8 2), .lit (.int .u8 57), .lit (.int .u8 49), .lit (.int .u8 28), .lit (.int .u8 3), .lit (.int .u8 61), .lit (.int .u8 58), .lit (.int .u8 42), .lit (.int .u8 50), .lit (.int .u8 38), .lit (.int .u8 29), .lit (.int .u8 17), .lit (.int .u8 4), .lit (.int .u8 62), .lit (.int .u8 47), .lit (.int .u8 59), .lit (.int .u8 36), .lit (.int .u8 45), .lit (.int .u8 43), .lit (.int .u8 51), .lit (.int .u8 22), .lit (.int .u8 53), .lit (.int .u8 39), .lit (.int .u8 33), .lit (.int .u8 30), .lit (.int .u8 24), .lit (.int .u8 18), .lit (.int .u8 12), .lit (.int .u8 5), .lit (.int .u8 63), .lit (.int .u8 55), .lit (.int .u8 48), .lit (.int .u8 27), .lit (.int .u8 60), .lit (.int .u8 41), .lit (.int .u8 37), .lit (.int .u8 16), .lit (.int .u8 46), .lit (.int .u8 35), .lit (.int .u8 44), .lit (.int .u8 21), .lit (.int .u8 52), .lit (.int .u8 32), .lit (.int .u8 23), .lit (.int .u8 11), .lit (.int .u8 54), .lit (.int .u8 26), .lit (.int .u8 40), .lit (.int .u8 15), .lit (.int .u8 34), .lit (.int .u8 20), .lit (.int .u8 31), .lit (.int .u8 10), .lit (.int .u8 25), .lit (.int .u8 14), .lit (.int .u8 19), .lit (.int .u8 9), .lit (.int .u8 13), .lit (.int .u8 8), .lit (.int .u8 7), .lit (.int .u8 6)]
/-- One of Go's own tables, pinned by name: the form's constant. -/
def laid_unicode_utf8_first : DataW Unit := Go.Pinned.utf8First
def laid_unicode_utf8_acceptRanges {H : Type} : DataW H := .agg [.agg [.lit (.int .u8 128), .lit (.int .u8 191)], .agg [.lit (.int .u8 160), .lit (.int .u8 191)], .agg [.lit (.int .u8 128), .lit (.int .u8 159)], .agg [.lit (.int .u8 144), .lit (.int .u8 191)], .agg [.lit (.int .u8 128), .lit (.int .u8 143)], .agg [.lit (.int .u8 0), .lit (.int .u8 0)], .agg [.lit (.int .u8 0), .lit (.int .u8 0)], .agg [.lit (.int .u8 0), .lit (.int .u8 0)], .agg [.lit (.int .u8 0), .lit (.int .u8 0)], .agg [.lit (.int .u8 0), .lit (.int .u8 0)], .agg [.lit (.int .u8 0), .lit (.int .u8 0)], .agg [.lit (.int .u8 0), .lit (.int .u8 0)], .agg [.lit (.int .u8 0), .lit (.int .u8 0)], .agg [.lit (.int .u8 0), .lit (.int .u8 0)], .agg [.lit (.int .u8 0), .lit (.int .u8 0)], .agg [.lit (.int .u8 0), .lit (.int .u8 0)]]
def laid_concord_date_lengths {H : Type} : DataW H := .agg [.lit (.int .i64 31), .lit (.int .i64 28), .lit (.int .i64 31), .lit (.int .i64 30), .lit (.int .i64 31), .lit (.int .i64 30), .lit (.int .i64 31), .lit (.int .i64 31), .lit (.int .i64 30), .lit (.int .i64 31), .lit (.int .i64 30), .lit (.int .i64 31)]
/-- One of Go's own tables, pinned by name: the form's constant. -/
def laid_unicode_CaseRanges : DataW Unit := Go.Pinned.caseRanges
def laid_strconv_ErrSyntax {H : Type} : DataW H := .iface "*errors.errorString" (.ptr (.agg [.lit (.string [105, 110, 118, 97, 108, 105, 100, 32, 115, 121, 110, 116, 97, 120])]))
def laid_strconv_ErrRange {H : Type} : DataW H := .iface "*errors.errorString" (.ptr (.agg [.lit (.string [118, 97, 108, 117, 101, 32, 111, 117, 116, 32, 111, 102, 32, 114, 97, 110, 103, 101])]))
def laid_concord_decimal_tens {H : Type} : DataW H := .agg [.lit (.int .i64 1), .lit (.int .i64 10), .lit (.int .i64 100), .lit (.int .i64 1000), .lit (.int .i64 10000), .lit (.int .i64 100000), .lit (.int .i64 1000000)]

/-- 'concordlaw14.ProgramTerms': WHATEVER THE INPUT: true; the input reads as it did. -/
def programTermsSpec : ChangeSpec := { name := "programTerms", fn := fun _ => fun
  | [d] => { results := [.lit (.bool true)], args := [d] }
  | _ => none }
def programTermsRow : OpenClaim := { program := "ytfedkhjbkiillaagreatdoor", sum := "488846a2e652c4145723e64493475e223b3de2af5b60a08b7c3937bd3f0438d5", func := "concord/concordlaw14.ProgramTerms", spec := "programTerms", inPlace := ["internal/abi.NoEscape", "internal/bytealg.MakeNoZero", "internal/bytealg.CountString", "internal/bytealg.IndexByteString", "internal/bytealg.IndexString", "internal/bytealg.abigen_runtime_cmpstring"], unfollowed := true, recurses := true, named := ["internal/strconv.uint64pow10", "math/bits.deBruijn32tab", "math/bits.deBruijn64tab", "internal/bytealg.MaxLen", "unicode/utf8.first", "unicode/utf8.acceptRanges", "concord/date.lengths", "unicode.CaseRanges", "strconv.ErrSyntax", "strconv.ErrRange", "concord/decimal.tens", "math/bits.divideError", "math/bits.overflowError"], apart := false, laid := [("internal/strconv.uint64pow10", laid_internal_strconv_uint64pow10), ("math/bits.deBruijn32tab", laid_math_bits_deBruijn32tab), ("math/bits.deBruijn64tab", laid_math_bits_deBruijn64tab), ("unicode/utf8.first", laid_unicode_utf8_first), ("unicode/utf8.acceptRanges", laid_unicode_utf8_acceptRanges), ("concord/date.lengths", laid_concord_date_lengths), ("unicode.CaseRanges", laid_unicode_CaseRanges), ("strconv.ErrSyntax", laid_strconv_ErrSyntax), ("strconv.ErrRange", laid_strconv_ErrRange), ("concord/decimal.tens", laid_concord_decimal_tens)] }
def ProgramTermsSaid : Prop := programTermsRow.holds Tryz.pinned (OpenSpec.ofChange programTermsSpec)

/-- ITS FALSE NEIGHBOUR: 'it returns false'. Refute it at one input. -/
def programTermsWrong : ChangeSpec := { name := "programTerms", fn := fun _ => fun
  | [d] => { results := [.lit (.bool false)], args := [d] }
  | _ => none }
def ProgramTermsWrongFalsely : Prop := programTermsRow.holds Tryz.pinned (OpenSpec.ofChange programTermsWrong)

/-- 'concordlaw14.ProgramEvals': WHATEVER THE INPUT: true; the input reads as it did. -/
def programEvalsSpec : ChangeSpec := { name := "programEvals", fn := fun _ => fun
  | [d1, d2, d3] => { results := [.lit (.bool true)], args := [d1, d2, d3] }
  | _ => none }
def programEvalsRow : OpenClaim := { program := "ytfedkhjbkiillaagreatdoor", sum := "488846a2e652c4145723e64493475e223b3de2af5b60a08b7c3937bd3f0438d5", func := "concord/concordlaw14.ProgramEvals", spec := "programEvals", inPlace := ["internal/abi.NoEscape", "internal/bytealg.MakeNoZero", "internal/bytealg.CountString", "internal/bytealg.IndexByteString", "internal/bytealg.IndexString", "internal/bytealg.abigen_runtime_cmpstring"], unfollowed := true, recurses := true, named := ["internal/strconv.uint64pow10", "math/bits.deBruijn32tab", "math/bits.deBruijn64tab", "internal/bytealg.MaxLen", "unicode/utf8.first", "unicode/utf8.acceptRanges", "concord/date.lengths", "unicode.CaseRanges", "strconv.ErrSyntax", "strconv.ErrRange", "concord/decimal.tens", "math/bits.divideError", "math/bits.overflowError"], apart := false, laid := [("internal/strconv.uint64pow10", laid_internal_strconv_uint64pow10), ("math/bits.deBruijn32tab", laid_math_bits_deBruijn32tab), ("math/bits.deBruijn64tab", laid_math_bits_deBruijn64tab), ("unicode/utf8.first", laid_unicode_utf8_first), ("unicode/utf8.acceptRanges", laid_unicode_utf8_acceptRanges), ("concord/date.lengths", laid_concord_date_lengths), ("unicode.CaseRanges", laid_unicode_CaseRanges), ("strconv.ErrSyntax", laid_strconv_ErrSyntax), ("strconv.ErrRange", laid_strconv_ErrRange), ("concord/decimal.tens", laid_concord_decimal_tens)] }
def ProgramEvalsSaid : Prop := programEvalsRow.holds Tryz.pinned (OpenSpec.ofChange programEvalsSpec)

/-- ITS FALSE NEIGHBOUR: 'it returns false'. Refute it at one input. -/
def programEvalsWrong : ChangeSpec := { name := "programEvals", fn := fun _ => fun
  | [d1, d2, d3] => { results := [.lit (.bool false)], args := [d1, d2, d3] }
  | _ => none }
def ProgramEvalsWrongFalsely : Prop := programEvalsRow.holds Tryz.pinned (OpenSpec.ofChange programEvalsWrong)

/-- 'concordlaw14.ProgramCounts': WHATEVER THE INPUT: true; the input reads as it did. -/
def programCountsSpec : ChangeSpec := { name := "programCounts", fn := fun _ => fun
  | [d] => { results := [.lit (.bool true)], args := [d] }
  | _ => none }
def programCountsRow : OpenClaim := { program := "ytfedkhjbkiillaagreatdoor", sum := "488846a2e652c4145723e64493475e223b3de2af5b60a08b7c3937bd3f0438d5", func := "concord/concordlaw14.ProgramCounts", spec := "programCounts", inPlace := ["internal/abi.NoEscape", "internal/bytealg.MakeNoZero", "internal/bytealg.CountString", "internal/bytealg.IndexByteString", "internal/bytealg.IndexString", "internal/bytealg.abigen_runtime_cmpstring"], unfollowed := true, recurses := true, named := ["internal/strconv.uint64pow10", "math/bits.deBruijn32tab", "math/bits.deBruijn64tab", "internal/bytealg.MaxLen", "unicode/utf8.first", "unicode/utf8.acceptRanges", "concord/date.lengths", "unicode.CaseRanges", "strconv.ErrSyntax", "strconv.ErrRange", "concord/decimal.tens", "math/bits.divideError", "math/bits.overflowError"], apart := false, laid := [("internal/strconv.uint64pow10", laid_internal_strconv_uint64pow10), ("math/bits.deBruijn32tab", laid_math_bits_deBruijn32tab), ("math/bits.deBruijn64tab", laid_math_bits_deBruijn64tab), ("unicode/utf8.first", laid_unicode_utf8_first), ("unicode/utf8.acceptRanges", laid_unicode_utf8_acceptRanges), ("concord/date.lengths", laid_concord_date_lengths), ("unicode.CaseRanges", laid_unicode_CaseRanges), ("strconv.ErrSyntax", laid_strconv_ErrSyntax), ("strconv.ErrRange", laid_strconv_ErrRange), ("concord/decimal.tens", laid_concord_decimal_tens)] }
def ProgramCountsSaid : Prop := programCountsRow.holds Tryz.pinned (OpenSpec.ofChange programCountsSpec)

/-- ITS FALSE NEIGHBOUR: 'it returns false'. Refute it at one input. -/
def programCountsWrong : ChangeSpec := { name := "programCounts", fn := fun _ => fun
  | [d] => { results := [.lit (.bool false)], args := [d] }
  | _ => none }
def ProgramCountsWrongFalsely : Prop := programCountsRow.holds Tryz.pinned (OpenSpec.ofChange programCountsWrong)

/-- 'concordlaw14.ProgramOpens': WHATEVER THE INPUT: true; the input reads as it did. -/
def programOpensSpec : ChangeSpec := { name := "programOpens", fn := fun _ => fun
  | [d] => { results := [.lit (.bool true)], args := [d] }
  | _ => none }
def programOpensRow : OpenClaim := { program := "ytfedkhjbkiillaagreatdoor", sum := "488846a2e652c4145723e64493475e223b3de2af5b60a08b7c3937bd3f0438d5", func := "concord/concordlaw14.ProgramOpens", spec := "programOpens", inPlace := ["internal/abi.NoEscape", "internal/bytealg.MakeNoZero", "internal/bytealg.CountString", "internal/bytealg.IndexByteString", "internal/bytealg.IndexString", "internal/bytealg.abigen_runtime_cmpstring"], unfollowed := true, recurses := true, named := ["internal/strconv.uint64pow10", "math/bits.deBruijn32tab", "math/bits.deBruijn64tab", "internal/bytealg.MaxLen", "unicode/utf8.first", "unicode/utf8.acceptRanges", "concord/date.lengths", "unicode.CaseRanges", "strconv.ErrSyntax", "strconv.ErrRange", "concord/decimal.tens", "math/bits.divideError", "math/bits.overflowError"], apart := false, laid := [("internal/strconv.uint64pow10", laid_internal_strconv_uint64pow10), ("math/bits.deBruijn32tab", laid_math_bits_deBruijn32tab), ("math/bits.deBruijn64tab", laid_math_bits_deBruijn64tab), ("unicode/utf8.first", laid_unicode_utf8_first), ("unicode/utf8.acceptRanges", laid_unicode_utf8_acceptRanges), ("concord/date.lengths", laid_concord_date_lengths), ("unicode.CaseRanges", laid_unicode_CaseRanges), ("strconv.ErrSyntax", laid_strconv_ErrSyntax), ("strconv.ErrRange", laid_strconv_ErrRange), ("concord/decimal.tens", laid_concord_decimal_tens)] }
def ProgramOpensSaid : Prop := programOpensRow.holds Tryz.pinned (OpenSpec.ofChange programOpensSpec)

/-- ITS FALSE NEIGHBOUR: 'it returns false'. Refute it at one input. -/
def programOpensWrong : ChangeSpec := { name := "programOpens", fn := fun _ => fun
  | [d] => { results := [.lit (.bool false)], args := [d] }
  | _ => none }
def ProgramOpensWrongFalsely : Prop := programOpensRow.holds Tryz.pinned (OpenSpec.ofChange programOpensWrong)

/-- 'concordlaw14.ProgramParts': WHATEVER THE INPUT: true; the input reads as it did. -/
def programPartsSpec : ChangeSpec := { name := "programParts", fn := fun _ => fun
  | [d1, d2, d3] => { results := [.lit (.bool true)], args := [d1, d2, d3] }
  | _ => none }
def programPartsRow : OpenClaim := { program := "ytfedkhjbkiillaagreatdoor", sum := "488846a2e652c4145723e64493475e223b3de2af5b60a08b7c3937bd3f0438d5", func := "concord/concordlaw14.ProgramParts", spec := "programParts", inPlace := ["internal/abi.NoEscape", "internal/bytealg.MakeNoZero", "internal/bytealg.CountString", "internal/bytealg.IndexByteString", "internal/bytealg.IndexString", "internal/bytealg.abigen_runtime_cmpstring"], unfollowed := true, recurses := true, named := ["internal/strconv.uint64pow10", "math/bits.deBruijn32tab", "math/bits.deBruijn64tab", "internal/bytealg.MaxLen", "unicode/utf8.first", "unicode/utf8.acceptRanges", "concord/date.lengths", "unicode.CaseRanges", "strconv.ErrSyntax", "strconv.ErrRange", "concord/decimal.tens", "math/bits.divideError", "math/bits.overflowError"], apart := false, laid := [("internal/strconv.uint64pow10", laid_internal_strconv_uint64pow10), ("math/bits.deBruijn32tab", laid_math_bits_deBruijn32tab), ("math/bits.deBruijn64tab", laid_math_bits_deBruijn64tab), ("unicode/utf8.first", laid_unicode_utf8_first), ("unicode/utf8.acceptRanges", laid_unicode_utf8_acceptRanges), ("concord/date.lengths", laid_concord_date_lengths), ("unicode.CaseRanges", laid_unicode_CaseRanges), ("strconv.ErrSyntax", laid_strconv_ErrSyntax), ("strconv.ErrRange", laid_strconv_ErrRange), ("concord/decimal.tens", laid_concord_decimal_tens)] }
def ProgramPartsSaid : Prop := programPartsRow.holds Tryz.pinned (OpenSpec.ofChange programPartsSpec)

/-- ITS FALSE NEIGHBOUR: 'it returns false'. Refute it at one input. -/
def programPartsWrong : ChangeSpec := { name := "programParts", fn := fun _ => fun
  | [d1, d2, d3] => { results := [.lit (.bool false)], args := [d1, d2, d3] }
  | _ => none }
def ProgramPartsWrongFalsely : Prop := programPartsRow.holds Tryz.pinned (OpenSpec.ofChange programPartsWrong)

/-- 'concordlaw14.ProgramOrder': WHATEVER THE INPUT: true; the input reads as it did. -/
def programOrderSpec : ChangeSpec := { name := "programOrder", fn := fun _ => fun
  | [d1, d2, d3] => { results := [.lit (.bool true)], args := [d1, d2, d3] }
  | _ => none }
def programOrderRow : OpenClaim := { program := "ytfedkhjbkiillaagreatdoor", sum := "488846a2e652c4145723e64493475e223b3de2af5b60a08b7c3937bd3f0438d5", func := "concord/concordlaw14.ProgramOrder", spec := "programOrder", inPlace := ["internal/abi.NoEscape", "internal/bytealg.MakeNoZero", "internal/bytealg.CountString", "internal/bytealg.IndexByteString", "internal/bytealg.IndexString", "internal/bytealg.abigen_runtime_cmpstring"], unfollowed := true, recurses := true, named := ["internal/strconv.uint64pow10", "math/bits.deBruijn32tab", "math/bits.deBruijn64tab", "internal/bytealg.MaxLen", "unicode/utf8.first", "unicode/utf8.acceptRanges", "concord/date.lengths", "unicode.CaseRanges", "strconv.ErrSyntax", "strconv.ErrRange", "concord/decimal.tens", "math/bits.divideError", "math/bits.overflowError"], apart := false, laid := [("internal/strconv.uint64pow10", laid_internal_strconv_uint64pow10), ("math/bits.deBruijn32tab", laid_math_bits_deBruijn32tab), ("math/bits.deBruijn64tab", laid_math_bits_deBruijn64tab), ("unicode/utf8.first", laid_unicode_utf8_first), ("unicode/utf8.acceptRanges", laid_unicode_utf8_acceptRanges), ("concord/date.lengths", laid_concord_date_lengths), ("unicode.CaseRanges", laid_unicode_CaseRanges), ("strconv.ErrSyntax", laid_strconv_ErrSyntax), ("strconv.ErrRange", laid_strconv_ErrRange), ("concord/decimal.tens", laid_concord_decimal_tens)] }
def ProgramOrderSaid : Prop := programOrderRow.holds Tryz.pinned (OpenSpec.ofChange programOrderSpec)

/-- ITS FALSE NEIGHBOUR: 'it returns false'. Refute it at one input. -/
def programOrderWrong : ChangeSpec := { name := "programOrder", fn := fun _ => fun
  | [d1, d2, d3] => { results := [.lit (.bool false)], args := [d1, d2, d3] }
  | _ => none }
def ProgramOrderWrongFalsely : Prop := programOrderRow.holds Tryz.pinned (OpenSpec.ofChange programOrderWrong)

/-- 'concordlaw14.ProgramOwn': WHATEVER THE INPUT: true; the input reads as it did. -/
def programOwnSpec : ChangeSpec := { name := "programOwn", fn := fun _ => fun
  | [d] => { results := [.lit (.bool true)], args := [d] }
  | _ => none }
def programOwnRow : OpenClaim := { program := "ytfedkhjbkiillaagreatdoor", sum := "488846a2e652c4145723e64493475e223b3de2af5b60a08b7c3937bd3f0438d5", func := "concord/concordlaw14.ProgramOwn", spec := "programOwn", inPlace := ["internal/abi.NoEscape", "internal/bytealg.MakeNoZero", "internal/bytealg.CountString", "internal/bytealg.IndexByteString", "internal/bytealg.IndexString", "internal/bytealg.abigen_runtime_cmpstring"], unfollowed := true, recurses := true, named := ["internal/strconv.uint64pow10", "math/bits.deBruijn32tab", "math/bits.deBruijn64tab", "internal/bytealg.MaxLen", "unicode/utf8.first", "unicode/utf8.acceptRanges", "concord/date.lengths", "unicode.CaseRanges", "strconv.ErrSyntax", "strconv.ErrRange", "concord/decimal.tens", "math/bits.divideError", "math/bits.overflowError"], apart := false, laid := [("internal/strconv.uint64pow10", laid_internal_strconv_uint64pow10), ("math/bits.deBruijn32tab", laid_math_bits_deBruijn32tab), ("math/bits.deBruijn64tab", laid_math_bits_deBruijn64tab), ("unicode/utf8.first", laid_unicode_utf8_first), ("unicode/utf8.acceptRanges", laid_unicode_utf8_acceptRanges), ("concord/date.lengths", laid_concord_date_lengths), ("unicode.CaseRanges", laid_unicode_CaseRanges), ("strconv.ErrSyntax", laid_strconv_ErrSyntax), ("strconv.ErrRange", laid_strconv_ErrRange), ("concord/decimal.tens", laid_concord_decimal_tens)] }
def ProgramOwnSaid : Prop := programOwnRow.holds Tryz.pinned (OpenSpec.ofChange programOwnSpec)

/-- ITS FALSE NEIGHBOUR: 'it returns false'. Refute it at one input. -/
def programOwnWrong : ChangeSpec := { name := "programOwn", fn := fun _ => fun
  | [d] => { results := [.lit (.bool false)], args := [d] }
  | _ => none }
def ProgramOwnWrongFalsely : Prop := programOwnRow.holds Tryz.pinned (OpenSpec.ofChange programOwnWrong)

/-- 'concordlaw14.ProgramReads': WHATEVER THE INPUT: true; the input reads as it did. -/
def programReadsSpec : ChangeSpec := { name := "programReads", fn := fun _ => fun
  | [d1, d2, d3] => { results := [.lit (.bool true)], args := [d1, d2, d3] }
  | _ => none }
def programReadsRow : OpenClaim := { program := "ytfedkhjbkiillaagreatdoor", sum := "488846a2e652c4145723e64493475e223b3de2af5b60a08b7c3937bd3f0438d5", func := "concord/concordlaw14.ProgramReads", spec := "programReads", inPlace := ["internal/abi.NoEscape", "internal/bytealg.MakeNoZero", "internal/bytealg.CountString", "internal/bytealg.IndexByteString", "internal/bytealg.IndexString", "internal/bytealg.abigen_runtime_cmpstring"], unfollowed := true, recurses := true, named := ["internal/strconv.uint64pow10", "math/bits.deBruijn32tab", "math/bits.deBruijn64tab", "internal/bytealg.MaxLen", "unicode/utf8.first", "unicode/utf8.acceptRanges", "concord/date.lengths", "unicode.CaseRanges", "strconv.ErrSyntax", "strconv.ErrRange", "concord/decimal.tens", "math/bits.divideError", "math/bits.overflowError"], apart := false, laid := [("internal/strconv.uint64pow10", laid_internal_strconv_uint64pow10), ("math/bits.deBruijn32tab", laid_math_bits_deBruijn32tab), ("math/bits.deBruijn64tab", laid_math_bits_deBruijn64tab), ("unicode/utf8.first", laid_unicode_utf8_first), ("unicode/utf8.acceptRanges", laid_unicode_utf8_acceptRanges), ("concord/date.lengths", laid_concord_date_lengths), ("unicode.CaseRanges", laid_unicode_CaseRanges), ("strconv.ErrSyntax", laid_strconv_ErrSyntax), ("strconv.ErrRange", laid_strconv_ErrRange), ("concord/decimal.tens", laid_concord_decimal_tens)] }
def ProgramReadsSaid : Prop := programReadsRow.holds Tryz.pinned (OpenSpec.ofChange programReadsSpec)

/-- ITS FALSE NEIGHBOUR: 'it returns false'. Refute it at one input. -/
def programReadsWrong : ChangeSpec := { name := "programReads", fn := fun _ => fun
  | [d1, d2, d3] => { results := [.lit (.bool false)], args := [d1, d2, d3] }
  | _ => none }
def ProgramReadsWrongFalsely : Prop := programReadsRow.holds Tryz.pinned (OpenSpec.ofChange programReadsWrong)

/- THE SECOND FORM. 'bulk': how many values and letters a reading holds, each counted each time it is reached (what is shared counts as often as it is met; a slice's spare places count too). A statement '..UptoSaid' is the law's where the arguments, and the package variables that the reading takes, are together of bulk at most 1048576: NARROWER than '..Said'. Prove '..Said' where nothing that the law and all that it calls make is longer than what came in: it says more and counts as full. Else prove '..UptoSaid'. A law counts once. -/
mutual
def uptoBulk {H : Type} : DataW H → Nat
  | .lit (.string bytes) => bytes.length + 1
  | .lit _ => 1
  | .nil => 1
  | .ptr d => uptoBulk d + 1
  | .slice elems spare => uptoBulkAll elems + uptoBulkAll spare + 1
  | .agg parts => uptoBulkAll parts + 1
  | .iface _ d => uptoBulk d + 1
  | .map entries => uptoBulkEntries entries + 1
  | .held _ => 1
def uptoBulkAll {H : Type} : List (DataW H) → Nat
  | [] => 0
  | d :: r => uptoBulk d + uptoBulkAll r
def uptoBulkEntries {H : Type} : List (Lit × DataW H) → Nat
  | [] => 0
  | x :: r => uptoBulkEntry x + uptoBulkEntries r
def uptoBulkEntry {H : Type} : Lit × DataW H → Nat
  | (.string bytes, d) => bytes.length + uptoBulk d + 1
  | (_, d) => uptoBulk d + 1
 end
def uptoSmall : (H : Type) → List (DataW H) → Bool := fun _ ds => decide (uptoBulkAll ds ≤ 1048576)
def OpenSpec.upto (s : _root_.Go.ChangeSpec) : _root_.Go.OpenSpec := { _root_.Go.OpenSpec.ofChange s with cond := some uptoSmall }

/-- 'concordlaw14.ProgramTerms', WHERE WHAT IT READS IS OF BULK AT MOST 1048576: true; the input reads as it did. -/
def programTermsUptoRow : OpenClaim := { program := "ytfedkhjbkiillaagreatdoor", sum := "488846a2e652c4145723e64493475e223b3de2af5b60a08b7c3937bd3f0438d5", func := "concord/concordlaw14.ProgramTerms", spec := "programTerms", inPlace := ["internal/abi.NoEscape", "internal/bytealg.MakeNoZero", "internal/bytealg.CountString", "internal/bytealg.IndexByteString", "internal/bytealg.IndexString", "internal/bytealg.abigen_runtime_cmpstring"], unfollowed := true, recurses := true, named := ["internal/strconv.uint64pow10", "math/bits.deBruijn32tab", "math/bits.deBruijn64tab", "internal/bytealg.MaxLen", "unicode/utf8.first", "unicode/utf8.acceptRanges", "concord/date.lengths", "unicode.CaseRanges", "strconv.ErrSyntax", "strconv.ErrRange", "concord/decimal.tens", "math/bits.divideError", "math/bits.overflowError"], apart := false, laid := [("internal/strconv.uint64pow10", laid_internal_strconv_uint64pow10), ("math/bits.deBruijn32tab", laid_math_bits_deBruijn32tab), ("math/bits.deBruijn64tab", laid_math_bits_deBruijn64tab), ("unicode/utf8.first", laid_unicode_utf8_first), ("unicode/utf8.acceptRanges", laid_unicode_utf8_acceptRanges), ("concord/date.lengths", laid_concord_date_lengths), ("unicode.CaseRanges", laid_unicode_CaseRanges), ("strconv.ErrSyntax", laid_strconv_ErrSyntax), ("strconv.ErrRange", laid_strconv_ErrRange), ("concord/decimal.tens", laid_concord_decimal_tens)], narrowed := true }
def ProgramTermsUptoSaid : Prop := programTermsUptoRow.holds Tryz.pinned (OpenSpec.upto programTermsSpec)

/-- 'concordlaw14.ProgramEvals', WHERE WHAT IT READS IS OF BULK AT MOST 1048576: true; the input reads as it did. -/
def programEvalsUptoRow : OpenClaim := { program := "ytfedkhjbkiillaagreatdoor", sum := "488846a2e652c4145723e64493475e223b3de2af5b60a08b7c3937bd3f0438d5", func := "concord/concordlaw14.ProgramEvals", spec := "programEvals", inPlace := ["internal/abi.NoEscape", "internal/bytealg.MakeNoZero", "internal/bytealg.CountString", "internal/bytealg.IndexByteString", "internal/bytealg.IndexString", "internal/bytealg.abigen_runtime_cmpstring"], unfollowed := true, recurses := true, named := ["internal/strconv.uint64pow10", "math/bits.deBruijn32tab", "math/bits.deBruijn64tab", "internal/bytealg.MaxLen", "unicode/utf8.first", "unicode/utf8.acceptRanges", "concord/date.lengths", "unicode.CaseRanges", "strconv.ErrSyntax", "strconv.ErrRange", "concord/decimal.tens", "math/bits.divideError", "math/bits.overflowError"], apart := false, laid := [("internal/strconv.uint64pow10", laid_internal_strconv_uint64pow10), ("math/bits.deBruijn32tab", laid_math_bits_deBruijn32tab), ("math/bits.deBruijn64tab", laid_math_bits_deBruijn64tab), ("unicode/utf8.first", laid_unicode_utf8_first), ("unicode/utf8.acceptRanges", laid_unicode_utf8_acceptRanges), ("concord/date.lengths", laid_concord_date_lengths), ("unicode.CaseRanges", laid_unicode_CaseRanges), ("strconv.ErrSyntax", laid_strconv_ErrSyntax), ("strconv.ErrRange", laid_strconv_ErrRange), ("concord/decimal.tens", laid_concord_decimal_tens)], narrowed := true }
def ProgramEvalsUptoSaid : Prop := programEvalsUptoRow.holds Tryz.pinned (OpenSpec.upto programEvalsSpec)

/-- 'concordlaw14.ProgramCounts', WHERE WHAT IT READS IS OF BULK AT MOST 1048576: true; the input reads as it did. -/
def programCountsUptoRow : OpenClaim := { program := "ytfedkhjbkiillaagreatdoor", sum := "488846a2e652c4145723e64493475e223b3de2af5b60a08b7c3937bd3f0438d5", func := "concord/concordlaw14.ProgramCounts", spec := "programCounts", inPlace := ["internal/abi.NoEscape", "internal/bytealg.MakeNoZero", "internal/bytealg.CountString", "internal/bytealg.IndexByteString", "internal/bytealg.IndexString", "internal/bytealg.abigen_runtime_cmpstring"], unfollowed := true, recurses := true, named := ["internal/strconv.uint64pow10", "math/bits.deBruijn32tab", "math/bits.deBruijn64tab", "internal/bytealg.MaxLen", "unicode/utf8.first", "unicode/utf8.acceptRanges", "concord/date.lengths", "unicode.CaseRanges", "strconv.ErrSyntax", "strconv.ErrRange", "concord/decimal.tens", "math/bits.divideError", "math/bits.overflowError"], apart := false, laid := [("internal/strconv.uint64pow10", laid_internal_strconv_uint64pow10), ("math/bits.deBruijn32tab", laid_math_bits_deBruijn32tab), ("math/bits.deBruijn64tab", laid_math_bits_deBruijn64tab), ("unicode/utf8.first", laid_unicode_utf8_first), ("unicode/utf8.acceptRanges", laid_unicode_utf8_acceptRanges), ("concord/date.lengths", laid_concord_date_lengths), ("unicode.CaseRanges", laid_unicode_CaseRanges), ("strconv.ErrSyntax", laid_strconv_ErrSyntax), ("strconv.ErrRange", laid_strconv_ErrRange), ("concord/decimal.tens", laid_concord_decimal_tens)], narrowed := true }
def ProgramCountsUptoSaid : Prop := programCountsUptoRow.holds Tryz.pinned (OpenSpec.upto programCountsSpec)

/-- 'concordlaw14.ProgramOpens', WHERE WHAT IT READS IS OF BULK AT MOST 1048576: true; the input reads as it did. -/
def programOpensUptoRow : OpenClaim := { program := "ytfedkhjbkiillaagreatdoor", sum := "488846a2e652c4145723e64493475e223b3de2af5b60a08b7c3937bd3f0438d5", func := "concord/concordlaw14.ProgramOpens", spec := "programOpens", inPlace := ["internal/abi.NoEscape", "internal/bytealg.MakeNoZero", "internal/bytealg.CountString", "internal/bytealg.IndexByteString", "internal/bytealg.IndexString", "internal/bytealg.abigen_runtime_cmpstring"], unfollowed := true, recurses := true, named := ["internal/strconv.uint64pow10", "math/bits.deBruijn32tab", "math/bits.deBruijn64tab", "internal/bytealg.MaxLen", "unicode/utf8.first", "unicode/utf8.acceptRanges", "concord/date.lengths", "unicode.CaseRanges", "strconv.ErrSyntax", "strconv.ErrRange", "concord/decimal.tens", "math/bits.divideError", "math/bits.overflowError"], apart := false, laid := [("internal/strconv.uint64pow10", laid_internal_strconv_uint64pow10), ("math/bits.deBruijn32tab", laid_math_bits_deBruijn32tab), ("math/bits.deBruijn64tab", laid_math_bits_deBruijn64tab), ("unicode/utf8.first", laid_unicode_utf8_first), ("unicode/utf8.acceptRanges", laid_unicode_utf8_acceptRanges), ("concord/date.lengths", laid_concord_date_lengths), ("unicode.CaseRanges", laid_unicode_CaseRanges), ("strconv.ErrSyntax", laid_strconv_ErrSyntax), ("strconv.ErrRange", laid_strconv_ErrRange), ("concord/decimal.tens", laid_concord_decimal_tens)], narrowed := true }
def ProgramOpensUptoSaid : Prop := programOpensUptoRow.holds Tryz.pinned (OpenSpec.upto programOpensSpec)

/-- 'concordlaw14.ProgramParts', WHERE WHAT IT READS IS OF BULK AT MOST 1048576: true; the input reads as it did. -/
def programPartsUptoRow : OpenClaim := { program := "ytfedkhjbkiillaagreatdoor", sum := "488846a2e652c4145723e64493475e223b3de2af5b60a08b7c3937bd3f0438d5", func := "concord/concordlaw14.ProgramParts", spec := "programParts", inPlace := ["internal/abi.NoEscape", "internal/bytealg.MakeNoZero", "internal/bytealg.CountString", "internal/bytealg.IndexByteString", "internal/bytealg.IndexString", "internal/bytealg.abigen_runtime_cmpstring"], unfollowed := true, recurses := true, named := ["internal/strconv.uint64pow10", "math/bits.deBruijn32tab", "math/bits.deBruijn64tab", "internal/bytealg.MaxLen", "unicode/utf8.first", "unicode/utf8.acceptRanges", "concord/date.lengths", "unicode.CaseRanges", "strconv.ErrSyntax", "strconv.ErrRange", "concord/decimal.tens", "math/bits.divideError", "math/bits.overflowError"], apart := false, laid := [("internal/strconv.uint64pow10", laid_internal_strconv_uint64pow10), ("math/bits.deBruijn32tab", laid_math_bits_deBruijn32tab), ("math/bits.deBruijn64tab", laid_math_bits_deBruijn64tab), ("unicode/utf8.first", laid_unicode_utf8_first), ("unicode/utf8.acceptRanges", laid_unicode_utf8_acceptRanges), ("concord/date.lengths", laid_concord_date_lengths), ("unicode.CaseRanges", laid_unicode_CaseRanges), ("strconv.ErrSyntax", laid_strconv_ErrSyntax), ("strconv.ErrRange", laid_strconv_ErrRange), ("concord/decimal.tens", laid_concord_decimal_tens)], narrowed := true }
def ProgramPartsUptoSaid : Prop := programPartsUptoRow.holds Tryz.pinned (OpenSpec.upto programPartsSpec)

/-- 'concordlaw14.ProgramOrder', WHERE WHAT IT READS IS OF BULK AT MOST 1048576: true; the input reads as it did. -/
def programOrderUptoRow : OpenClaim := { program := "ytfedkhjbkiillaagreatdoor", sum := "488846a2e652c4145723e64493475e223b3de2af5b60a08b7c3937bd3f0438d5", func := "concord/concordlaw14.ProgramOrder", spec := "programOrder", inPlace := ["internal/abi.NoEscape", "internal/bytealg.MakeNoZero", "internal/bytealg.CountString", "internal/bytealg.IndexByteString", "internal/bytealg.IndexString", "internal/bytealg.abigen_runtime_cmpstring"], unfollowed := true, recurses := true, named := ["internal/strconv.uint64pow10", "math/bits.deBruijn32tab", "math/bits.deBruijn64tab", "internal/bytealg.MaxLen", "unicode/utf8.first", "unicode/utf8.acceptRanges", "concord/date.lengths", "unicode.CaseRanges", "strconv.ErrSyntax", "strconv.ErrRange", "concord/decimal.tens", "math/bits.divideError", "math/bits.overflowError"], apart := false, laid := [("internal/strconv.uint64pow10", laid_internal_strconv_uint64pow10), ("math/bits.deBruijn32tab", laid_math_bits_deBruijn32tab), ("math/bits.deBruijn64tab", laid_math_bits_deBruijn64tab), ("unicode/utf8.first", laid_unicode_utf8_first), ("unicode/utf8.acceptRanges", laid_unicode_utf8_acceptRanges), ("concord/date.lengths", laid_concord_date_lengths), ("unicode.CaseRanges", laid_unicode_CaseRanges), ("strconv.ErrSyntax", laid_strconv_ErrSyntax), ("strconv.ErrRange", laid_strconv_ErrRange), ("concord/decimal.tens", laid_concord_decimal_tens)], narrowed := true }
def ProgramOrderUptoSaid : Prop := programOrderUptoRow.holds Tryz.pinned (OpenSpec.upto programOrderSpec)

/-- 'concordlaw14.ProgramOwn', WHERE WHAT IT READS IS OF BULK AT MOST 1048576: true; the input reads as it did. -/
def programOwnUptoRow : OpenClaim := { program := "ytfedkhjbkiillaagreatdoor", sum := "488846a2e652c4145723e64493475e223b3de2af5b60a08b7c3937bd3f0438d5", func := "concord/concordlaw14.ProgramOwn", spec := "programOwn", inPlace := ["internal/abi.NoEscape", "internal/bytealg.MakeNoZero", "internal/bytealg.CountString", "internal/bytealg.IndexByteString", "internal/bytealg.IndexString", "internal/bytealg.abigen_runtime_cmpstring"], unfollowed := true, recurses := true, named := ["internal/strconv.uint64pow10", "math/bits.deBruijn32tab", "math/bits.deBruijn64tab", "internal/bytealg.MaxLen", "unicode/utf8.first", "unicode/utf8.acceptRanges", "concord/date.lengths", "unicode.CaseRanges", "strconv.ErrSyntax", "strconv.ErrRange", "concord/decimal.tens", "math/bits.divideError", "math/bits.overflowError"], apart := false, laid := [("internal/strconv.uint64pow10", laid_internal_strconv_uint64pow10), ("math/bits.deBruijn32tab", laid_math_bits_deBruijn32tab), ("math/bits.deBruijn64tab", laid_math_bits_deBruijn64tab), ("unicode/utf8.first", laid_unicode_utf8_first), ("unicode/utf8.acceptRanges", laid_unicode_utf8_acceptRanges), ("concord/date.lengths", laid_concord_date_lengths), ("unicode.CaseRanges", laid_unicode_CaseRanges), ("strconv.ErrSyntax", laid_strconv_ErrSyntax), ("strconv.ErrRange", laid_strconv_ErrRange), ("concord/decimal.tens", laid_concord_decimal_tens)], narrowed := true }
def ProgramOwnUptoSaid : Prop := programOwnUptoRow.holds Tryz.pinned (OpenSpec.upto programOwnSpec)

/-- 'concordlaw14.ProgramReads', WHERE WHAT IT READS IS OF BULK AT MOST 1048576: true; the input reads as it did. -/
def programReadsUptoRow : OpenClaim := { program := "ytfedkhjbkiillaagreatdoor", sum := "488846a2e652c4145723e64493475e223b3de2af5b60a08b7c3937bd3f0438d5", func := "concord/concordlaw14.ProgramReads", spec := "programReads", inPlace := ["internal/abi.NoEscape", "internal/bytealg.MakeNoZero", "internal/bytealg.CountString", "internal/bytealg.IndexByteString", "internal/bytealg.IndexString", "internal/bytealg.abigen_runtime_cmpstring"], unfollowed := true, recurses := true, named := ["internal/strconv.uint64pow10", "math/bits.deBruijn32tab", "math/bits.deBruijn64tab", "internal/bytealg.MaxLen", "unicode/utf8.first", "unicode/utf8.acceptRanges", "concord/date.lengths", "unicode.CaseRanges", "strconv.ErrSyntax", "strconv.ErrRange", "concord/decimal.tens", "math/bits.divideError", "math/bits.overflowError"], apart := false, laid := [("internal/strconv.uint64pow10", laid_internal_strconv_uint64pow10), ("math/bits.deBruijn32tab", laid_math_bits_deBruijn32tab), ("math/bits.deBruijn64tab", laid_math_bits_deBruijn64tab), ("unicode/utf8.first", laid_unicode_utf8_first), ("unicode/utf8.acceptRanges", laid_unicode_utf8_acceptRanges), ("concord/date.lengths", laid_concord_date_lengths), ("unicode.CaseRanges", laid_unicode_CaseRanges), ("strconv.ErrSyntax", laid_strconv_ErrSyntax), ("strconv.ErrRange", laid_strconv_ErrRange), ("concord/decimal.tens", laid_concord_decimal_tens)], narrowed := true }
def ProgramReadsUptoSaid : Prop := programReadsUptoRow.holds Tryz.pinned (OpenSpec.upto programReadsSpec)

end Rows
end Go.Proofs.YtfedkhjbkiillaaGreatDoor
