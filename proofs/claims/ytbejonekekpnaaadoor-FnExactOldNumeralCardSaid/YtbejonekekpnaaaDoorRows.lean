/-
  NARROWER THAN 'FOR EVERY INPUT', by the rows' own cells (each row's printed sentence says how): FnExactMonthName: laid · FnExactWeekdayName: laid · FnExactStyleName: laid · FnExactOrdinalText: laid · FnExactStyleNamed: laid · FnExactReadOrdinal: laid · FnExactWordDistance: laid · FnExactPhraseText: laid · FnExactOldNumeral: laid · FnExactReadNumeral: laid · FnExactSplitPhrase: laid.
  DERIVED. THE GIVEN ROWS OF THIS SEAT. 11 by the template 'for every input the law returns true; each argument reads behind the call as it read before'; 0 by the template 'total and deterministic' (their statements: YtbejonekekpnaaaDoorTotals.lean).
  GIVEN WITH THE SEED: the statements are not yours to turn. If you find one false, say at which input.
  Laid BY PROGRAM, IN A SANDBOX (cutbox-rows.mjs): the forced cells as the released guide's own fill.sh prints them over the translation 35ef7ba1d7c6731a… (all of the seat's roots in one cut). By AI agents, Wed Nov 11 2026. No macro, syntax, notation, axiom, sorry.
-/
import Derived.Test.YtbejonekekpnaaaDoorChecked
import GoSem.PinnedTables
import GoSem.Claim
import GoSem.ClaimJoined
import GoSem.ClaimMapViews
import Derived.JoinedTies
import Derived.KernelRfl
namespace Go.Proofs.YtbejonekekpnaaaDoor
/- THE CELL 'sum', in the pinned program and in every row, IS THE sha256 OF THE DUMP (.gsa) THAT YtbejonekekpnaaaDoorProg.lean LOADS. Nothing in Lean hashes anything: it is a label: what it is worth is what the hold of that sum in a sandbox is worth. -/
noncomputable def Tryd.pinned : Pinned := { name := "ytbejonekekpnaaadoor", sum := "35ef7ba1d7c6731a83e24038c354747d06a93f6d7efeff06c2de54102372494f", checked := Tryd.checked }
namespace Rows
def none {H : Type} : Left H := { results := [], args := [] }

/- WHAT THE LISTED PACKAGE-LEVEL VARIABLES READ AS WHEN THE CALL BEGINS. Each datum BY PROGRAM (the guide's laid-datum.mjs) off the statement by which the dump's own 'gosem.cut.vars' lays the variable. In a bare row this is a premise. The card (YtbejonekekpnaaaDoorCards.lean) ties it to the program's text. -/
def laid_unicode_utf8_acceptRanges {H : Type} : DataW H := .agg [.agg [.lit (.int .u8 128), .lit (.int .u8 191)], .agg [.lit (.int .u8 160), .lit (.int .u8 191)], .agg [.lit (.int .u8 128), .lit (.int .u8 159)], .agg [.lit (.int .u8 144), .lit (.int .u8 191)], .agg [.lit (.int .u8 128), .lit (.int .u8 143)], .agg [.lit (.int .u8 0), .lit (.int .u8 0)], .agg [.lit (.int .u8 0), .lit (.int .u8 0)], .agg [.lit (.int .u8 0), .lit (.int .u8 0)], .agg [.lit (.int .u8 0), .lit (.int .u8 0)], .agg [.lit (.int .u8 0), .lit (.int .u8 0)], .agg [.lit (.int .u8 0), .lit (.int .u8 0)], .agg [.lit (.int .u8 0), .lit (.int .u8 0)], .agg [.lit (.int .u8 0), .lit (.int .u8 0)], .agg [.lit (.int .u8 0), .lit (.int .u8 0)], .agg [.lit (.int .u8 0), .lit (.int .u8 0)], .agg [.lit (.int .u8 0), .lit (.int .u8 0)]]
/-- One of Go's own tables, pinned by name: the form's constant. -/
def laid_unicode_utf8_first : DataW Unit := Go.Pinned.utf8First

/-- 'laws.FnExactMonthName': WHATEVER THE INPUT: true; the input reads as it did. -/
def fnExactMonthNameSpec : ChangeSpec := { name := "fnExactMonthName", fn := fun _ => fun
  | [d] => { results := [.lit (.bool true)], args := [d] }
  | _ => none }
def fnExactMonthNameRow : OpenClaim := { program := "ytbejonekekpnaaadoor", sum := "35ef7ba1d7c6731a83e24038c354747d06a93f6d7efeff06c2de54102372494f", func := "loop.example/g01034/laws.FnExactMonthName", spec := "fnExactMonthName", inPlace := ["internal/bytealg.CountString", "internal/bytealg.IndexByteString", "internal/bytealg.IndexString"], named := ["unicode/utf8.first", "unicode/utf8.acceptRanges", "internal/bytealg.MaxLen"], apart := false, laid := [("unicode/utf8.acceptRanges", laid_unicode_utf8_acceptRanges), ("unicode/utf8.first", laid_unicode_utf8_first)] }
def FnExactMonthNameSaid : Prop := fnExactMonthNameRow.holds Tryd.pinned (OpenSpec.ofChange fnExactMonthNameSpec)

/-- ITS FALSE NEIGHBOUR: 'it returns false'. Refute it at one input. -/
def fnExactMonthNameWrong : ChangeSpec := { name := "fnExactMonthName", fn := fun _ => fun
  | [d] => { results := [.lit (.bool false)], args := [d] }
  | _ => none }
def FnExactMonthNameWrongFalsely : Prop := fnExactMonthNameRow.holds Tryd.pinned (OpenSpec.ofChange fnExactMonthNameWrong)

/-- 'laws.FnExactWeekdayName': WHATEVER THE INPUT: true; the input reads as it did. -/
def fnExactWeekdayNameSpec : ChangeSpec := { name := "fnExactWeekdayName", fn := fun _ => fun
  | [d] => { results := [.lit (.bool true)], args := [d] }
  | _ => none }
def fnExactWeekdayNameRow : OpenClaim := { program := "ytbejonekekpnaaadoor", sum := "35ef7ba1d7c6731a83e24038c354747d06a93f6d7efeff06c2de54102372494f", func := "loop.example/g01034/laws.FnExactWeekdayName", spec := "fnExactWeekdayName", inPlace := ["internal/bytealg.CountString", "internal/bytealg.IndexByteString", "internal/bytealg.IndexString"], named := ["unicode/utf8.first", "unicode/utf8.acceptRanges", "internal/bytealg.MaxLen"], apart := false, laid := [("unicode/utf8.acceptRanges", laid_unicode_utf8_acceptRanges), ("unicode/utf8.first", laid_unicode_utf8_first)] }
def FnExactWeekdayNameSaid : Prop := fnExactWeekdayNameRow.holds Tryd.pinned (OpenSpec.ofChange fnExactWeekdayNameSpec)

/-- ITS FALSE NEIGHBOUR: 'it returns false'. Refute it at one input. -/
def fnExactWeekdayNameWrong : ChangeSpec := { name := "fnExactWeekdayName", fn := fun _ => fun
  | [d] => { results := [.lit (.bool false)], args := [d] }
  | _ => none }
def FnExactWeekdayNameWrongFalsely : Prop := fnExactWeekdayNameRow.holds Tryd.pinned (OpenSpec.ofChange fnExactWeekdayNameWrong)

/-- 'laws.FnExactStyleName': WHATEVER THE INPUT: true; the input reads as it did. -/
def fnExactStyleNameSpec : ChangeSpec := { name := "fnExactStyleName", fn := fun _ => fun
  | [d] => { results := [.lit (.bool true)], args := [d] }
  | _ => none }
def fnExactStyleNameRow : OpenClaim := { program := "ytbejonekekpnaaadoor", sum := "35ef7ba1d7c6731a83e24038c354747d06a93f6d7efeff06c2de54102372494f", func := "loop.example/g01034/laws.FnExactStyleName", spec := "fnExactStyleName", inPlace := ["internal/bytealg.CountString", "internal/bytealg.IndexByteString", "internal/bytealg.IndexString"], named := ["unicode/utf8.first", "unicode/utf8.acceptRanges", "internal/bytealg.MaxLen"], apart := false, laid := [("unicode/utf8.acceptRanges", laid_unicode_utf8_acceptRanges), ("unicode/utf8.first", laid_unicode_utf8_first)] }
def FnExactStyleNameSaid : Prop := fnExactStyleNameRow.holds Tryd.pinned (OpenSpec.ofChange fnExactStyleNameSpec)

/-- ITS FALSE NEIGHBOUR: 'it returns false'. Refute it at one input. -/
def fnExactStyleNameWrong : ChangeSpec := { name := "fnExactStyleName", fn := fun _ => fun
  | [d] => { results := [.lit (.bool false)], args := [d] }
  | _ => none }
def FnExactStyleNameWrongFalsely : Prop := fnExactStyleNameRow.holds Tryd.pinned (OpenSpec.ofChange fnExactStyleNameWrong)

/-- 'laws.FnExactOrdinalText': WHATEVER THE INPUT: true; the input reads as it did. -/
def fnExactOrdinalTextSpec : ChangeSpec := { name := "fnExactOrdinalText", fn := fun _ => fun
  | [d] => { results := [.lit (.bool true)], args := [d] }
  | _ => none }
def fnExactOrdinalTextRow : OpenClaim := { program := "ytbejonekekpnaaadoor", sum := "35ef7ba1d7c6731a83e24038c354747d06a93f6d7efeff06c2de54102372494f", func := "loop.example/g01034/laws.FnExactOrdinalText", spec := "fnExactOrdinalText", inPlace := ["internal/bytealg.CountString", "internal/bytealg.IndexByteString", "internal/bytealg.IndexString"], named := ["unicode/utf8.first", "unicode/utf8.acceptRanges", "internal/bytealg.MaxLen"], apart := false, laid := [("unicode/utf8.acceptRanges", laid_unicode_utf8_acceptRanges), ("unicode/utf8.first", laid_unicode_utf8_first)] }
def FnExactOrdinalTextSaid : Prop := fnExactOrdinalTextRow.holds Tryd.pinned (OpenSpec.ofChange fnExactOrdinalTextSpec)

/-- ITS FALSE NEIGHBOUR: 'it returns false'. Refute it at one input. -/
def fnExactOrdinalTextWrong : ChangeSpec := { name := "fnExactOrdinalText", fn := fun _ => fun
  | [d] => { results := [.lit (.bool false)], args := [d] }
  | _ => none }
def FnExactOrdinalTextWrongFalsely : Prop := fnExactOrdinalTextRow.holds Tryd.pinned (OpenSpec.ofChange fnExactOrdinalTextWrong)

/-- 'laws.FnExactStyleNamed': WHATEVER THE INPUT: true; the input reads as it did. -/
def fnExactStyleNamedSpec : ChangeSpec := { name := "fnExactStyleNamed", fn := fun _ => fun
  | [d] => { results := [.lit (.bool true)], args := [d] }
  | _ => none }
def fnExactStyleNamedRow : OpenClaim := { program := "ytbejonekekpnaaadoor", sum := "35ef7ba1d7c6731a83e24038c354747d06a93f6d7efeff06c2de54102372494f", func := "loop.example/g01034/laws.FnExactStyleNamed", spec := "fnExactStyleNamed", inPlace := ["internal/bytealg.CountString", "internal/bytealg.IndexByteString", "internal/bytealg.IndexString"], named := ["unicode/utf8.first", "unicode/utf8.acceptRanges", "internal/bytealg.MaxLen"], apart := false, laid := [("unicode/utf8.acceptRanges", laid_unicode_utf8_acceptRanges), ("unicode/utf8.first", laid_unicode_utf8_first)] }
def FnExactStyleNamedSaid : Prop := fnExactStyleNamedRow.holds Tryd.pinned (OpenSpec.ofChange fnExactStyleNamedSpec)

/-- ITS FALSE NEIGHBOUR: 'it returns false'. Refute it at one input. -/
def fnExactStyleNamedWrong : ChangeSpec := { name := "fnExactStyleNamed", fn := fun _ => fun
  | [d] => { results := [.lit (.bool false)], args := [d] }
  | _ => none }
def FnExactStyleNamedWrongFalsely : Prop := fnExactStyleNamedRow.holds Tryd.pinned (OpenSpec.ofChange fnExactStyleNamedWrong)

/-- 'laws.FnExactReadOrdinal': WHATEVER THE INPUT: true; the input reads as it did. -/
def fnExactReadOrdinalSpec : ChangeSpec := { name := "fnExactReadOrdinal", fn := fun _ => fun
  | [d] => { results := [.lit (.bool true)], args := [d] }
  | _ => none }
def fnExactReadOrdinalRow : OpenClaim := { program := "ytbejonekekpnaaadoor", sum := "35ef7ba1d7c6731a83e24038c354747d06a93f6d7efeff06c2de54102372494f", func := "loop.example/g01034/laws.FnExactReadOrdinal", spec := "fnExactReadOrdinal", inPlace := ["internal/bytealg.CountString", "internal/bytealg.IndexByteString", "internal/bytealg.IndexString"], named := ["unicode/utf8.first", "unicode/utf8.acceptRanges", "internal/bytealg.MaxLen"], apart := false, laid := [("unicode/utf8.acceptRanges", laid_unicode_utf8_acceptRanges), ("unicode/utf8.first", laid_unicode_utf8_first)] }
def FnExactReadOrdinalSaid : Prop := fnExactReadOrdinalRow.holds Tryd.pinned (OpenSpec.ofChange fnExactReadOrdinalSpec)

/-- ITS FALSE NEIGHBOUR: 'it returns false'. Refute it at one input. -/
def fnExactReadOrdinalWrong : ChangeSpec := { name := "fnExactReadOrdinal", fn := fun _ => fun
  | [d] => { results := [.lit (.bool false)], args := [d] }
  | _ => none }
def FnExactReadOrdinalWrongFalsely : Prop := fnExactReadOrdinalRow.holds Tryd.pinned (OpenSpec.ofChange fnExactReadOrdinalWrong)

/-- 'laws.FnExactWordDistance': WHATEVER THE INPUT: true; the input reads as it did. -/
def fnExactWordDistanceSpec : ChangeSpec := { name := "fnExactWordDistance", fn := fun _ => fun
  | [d1, d2] => { results := [.lit (.bool true)], args := [d1, d2] }
  | _ => none }
def fnExactWordDistanceRow : OpenClaim := { program := "ytbejonekekpnaaadoor", sum := "35ef7ba1d7c6731a83e24038c354747d06a93f6d7efeff06c2de54102372494f", func := "loop.example/g01034/laws.FnExactWordDistance", spec := "fnExactWordDistance", inPlace := ["internal/bytealg.IndexByteString", "internal/bytealg.IndexString"], unfollowed := true, recurses := true, named := ["unicode/utf8.first", "unicode/utf8.acceptRanges", "internal/bytealg.MaxLen"], apart := false, laid := [("unicode/utf8.acceptRanges", laid_unicode_utf8_acceptRanges), ("unicode/utf8.first", laid_unicode_utf8_first)] }
def FnExactWordDistanceSaid : Prop := fnExactWordDistanceRow.holds Tryd.pinned (OpenSpec.ofChange fnExactWordDistanceSpec)

/-- ITS FALSE NEIGHBOUR: 'it returns false'. Refute it at one input. -/
def fnExactWordDistanceWrong : ChangeSpec := { name := "fnExactWordDistance", fn := fun _ => fun
  | [d1, d2] => { results := [.lit (.bool false)], args := [d1, d2] }
  | _ => none }
def FnExactWordDistanceWrongFalsely : Prop := fnExactWordDistanceRow.holds Tryd.pinned (OpenSpec.ofChange fnExactWordDistanceWrong)

/-- 'laws.FnExactPhraseText': WHATEVER THE INPUT: true; the input reads as it did. -/
def fnExactPhraseTextSpec : ChangeSpec := { name := "fnExactPhraseText", fn := fun _ => fun
  | [d] => { results := [.lit (.bool true)], args := [d] }
  | _ => none }
def fnExactPhraseTextRow : OpenClaim := { program := "ytbejonekekpnaaadoor", sum := "35ef7ba1d7c6731a83e24038c354747d06a93f6d7efeff06c2de54102372494f", func := "loop.example/g01034/laws.FnExactPhraseText", spec := "fnExactPhraseText", inPlace := ["internal/bytealg.IndexByteString", "internal/bytealg.IndexString", "internal/abi.NoEscape", "internal/bytealg.MakeNoZero"], unfollowed := true, recurses := true, named := ["unicode/utf8.first", "unicode/utf8.acceptRanges", "internal/bytealg.MaxLen"], apart := false, laid := [("unicode/utf8.acceptRanges", laid_unicode_utf8_acceptRanges), ("unicode/utf8.first", laid_unicode_utf8_first)] }
def FnExactPhraseTextSaid : Prop := fnExactPhraseTextRow.holds Tryd.pinned (OpenSpec.ofChange fnExactPhraseTextSpec)

/-- ITS FALSE NEIGHBOUR: 'it returns false'. Refute it at one input. -/
def fnExactPhraseTextWrong : ChangeSpec := { name := "fnExactPhraseText", fn := fun _ => fun
  | [d] => { results := [.lit (.bool false)], args := [d] }
  | _ => none }
def FnExactPhraseTextWrongFalsely : Prop := fnExactPhraseTextRow.holds Tryd.pinned (OpenSpec.ofChange fnExactPhraseTextWrong)

/-- 'laws.FnExactOldNumeral': WHATEVER THE INPUT: true; the input reads as it did. -/
def fnExactOldNumeralSpec : ChangeSpec := { name := "fnExactOldNumeral", fn := fun _ => fun
  | [d] => { results := [.lit (.bool true)], args := [d] }
  | _ => none }
def fnExactOldNumeralRow : OpenClaim := { program := "ytbejonekekpnaaadoor", sum := "35ef7ba1d7c6731a83e24038c354747d06a93f6d7efeff06c2de54102372494f", func := "loop.example/g01034/laws.FnExactOldNumeral", spec := "fnExactOldNumeral", inPlace := ["internal/abi.NoEscape", "internal/bytealg.MakeNoZero", "internal/bytealg.CountString", "internal/bytealg.IndexByteString", "internal/bytealg.IndexString"], recurses := true, named := ["internal/bytealg.MaxLen", "unicode/utf8.first", "unicode/utf8.acceptRanges"], apart := false, laid := [("unicode/utf8.acceptRanges", laid_unicode_utf8_acceptRanges), ("unicode/utf8.first", laid_unicode_utf8_first)] }
def FnExactOldNumeralSaid : Prop := fnExactOldNumeralRow.holds Tryd.pinned (OpenSpec.ofChange fnExactOldNumeralSpec)

/-- ITS FALSE NEIGHBOUR: 'it returns false'. Refute it at one input. -/
def fnExactOldNumeralWrong : ChangeSpec := { name := "fnExactOldNumeral", fn := fun _ => fun
  | [d] => { results := [.lit (.bool false)], args := [d] }
  | _ => none }
def FnExactOldNumeralWrongFalsely : Prop := fnExactOldNumeralRow.holds Tryd.pinned (OpenSpec.ofChange fnExactOldNumeralWrong)

/-- 'laws.FnExactReadNumeral': WHATEVER THE INPUT: true; the input reads as it did. -/
def fnExactReadNumeralSpec : ChangeSpec := { name := "fnExactReadNumeral", fn := fun _ => fun
  | [d] => { results := [.lit (.bool true)], args := [d] }
  | _ => none }
def fnExactReadNumeralRow : OpenClaim := { program := "ytbejonekekpnaaadoor", sum := "35ef7ba1d7c6731a83e24038c354747d06a93f6d7efeff06c2de54102372494f", func := "loop.example/g01034/laws.FnExactReadNumeral", spec := "fnExactReadNumeral", inPlace := ["internal/bytealg.CountString", "internal/bytealg.IndexByteString", "internal/bytealg.IndexString", "internal/abi.NoEscape", "internal/bytealg.MakeNoZero"], recurses := true, named := ["internal/bytealg.MaxLen", "unicode/utf8.first", "unicode/utf8.acceptRanges"], apart := false, laid := [("unicode/utf8.acceptRanges", laid_unicode_utf8_acceptRanges), ("unicode/utf8.first", laid_unicode_utf8_first)] }
def FnExactReadNumeralSaid : Prop := fnExactReadNumeralRow.holds Tryd.pinned (OpenSpec.ofChange fnExactReadNumeralSpec)

/-- ITS FALSE NEIGHBOUR: 'it returns false'. Refute it at one input. -/
def fnExactReadNumeralWrong : ChangeSpec := { name := "fnExactReadNumeral", fn := fun _ => fun
  | [d] => { results := [.lit (.bool false)], args := [d] }
  | _ => none }
def FnExactReadNumeralWrongFalsely : Prop := fnExactReadNumeralRow.holds Tryd.pinned (OpenSpec.ofChange fnExactReadNumeralWrong)

/-- 'laws.FnExactSplitPhrase': WHATEVER THE INPUT: true; the input reads as it did. -/
def fnExactSplitPhraseSpec : ChangeSpec := { name := "fnExactSplitPhrase", fn := fun _ => fun
  | [d] => { results := [.lit (.bool true)], args := [d] }
  | _ => none }
def fnExactSplitPhraseRow : OpenClaim := { program := "ytbejonekekpnaaadoor", sum := "35ef7ba1d7c6731a83e24038c354747d06a93f6d7efeff06c2de54102372494f", func := "loop.example/g01034/laws.FnExactSplitPhrase", spec := "fnExactSplitPhrase", inPlace := ["internal/bytealg.CountString", "internal/bytealg.IndexByteString", "internal/bytealg.IndexString"], unfollowed := true, recurses := true, named := ["unicode/utf8.first", "unicode/utf8.acceptRanges", "internal/bytealg.MaxLen"], apart := false, laid := [("unicode/utf8.acceptRanges", laid_unicode_utf8_acceptRanges), ("unicode/utf8.first", laid_unicode_utf8_first)] }
def FnExactSplitPhraseSaid : Prop := fnExactSplitPhraseRow.holds Tryd.pinned (OpenSpec.ofChange fnExactSplitPhraseSpec)

/-- ITS FALSE NEIGHBOUR: 'it returns false'. Refute it at one input. -/
def fnExactSplitPhraseWrong : ChangeSpec := { name := "fnExactSplitPhrase", fn := fun _ => fun
  | [d] => { results := [.lit (.bool false)], args := [d] }
  | _ => none }
def FnExactSplitPhraseWrongFalsely : Prop := fnExactSplitPhraseRow.holds Tryd.pinned (OpenSpec.ofChange fnExactSplitPhraseWrong)

/- THE SECOND FORM. 'bulk': how many values and letters a reading holds, each counted each time it is reached (what is shared counts as often as it is met; a slice's spare places count too). A statement '..UptoSaid' is the law's where the arguments, and the package variables that the reading takes, are together of bulk at most 1048576: NARROWER than '..Said'. Prove '..Said' where nothing that the law and all that it calls make is longer than what came in: it says more and counts as full. Else prove '..UptoSaid'. A law counts once. -/
mutual
def uptoBulk {H : Type} : DataW H → Nat
  | .lit (.string bytes) => bytes.length + 1
  | .lit _ => 1
  | .nil => 1
  | .ptr d => uptoBulk d + 1
  | .slice elems spare => uptoBulkAll elems + uptoBulkAll spare + 1
  | .agg parts => uptoBulkAll parts + 1
  | .iface _ d => uptoBulk d + 1
  | .map entries => uptoBulkEntries entries + 1
  | .held _ => 1
def uptoBulkAll {H : Type} : List (DataW H) → Nat
  | [] => 0
  | d :: r => uptoBulk d + uptoBulkAll r
def uptoBulkEntries {H : Type} : List (Lit × DataW H) → Nat
  | [] => 0
  | x :: r => uptoBulkEntry x + uptoBulkEntries r
def uptoBulkEntry {H : Type} : Lit × DataW H → Nat
  | (.string bytes, d) => bytes.length + uptoBulk d + 1
  | (_, d) => uptoBulk d + 1
 end
def uptoSmall : (H : Type) → List (DataW H) → Bool := fun _ ds => decide (uptoBulkAll ds ≤ 1048576)
def OpenSpec.upto (s : _root_.Go.ChangeSpec) : _root_.Go.OpenSpec := { _root_.Go.OpenSpec.ofChange s with cond := some uptoSmall }

/-- 'laws.FnExactMonthName', WHERE WHAT IT READS IS OF BULK AT MOST 1048576: true; the input reads as it did. -/
def fnExactMonthNameUptoRow : OpenClaim := { program := "ytbejonekekpnaaadoor", sum := "35ef7ba1d7c6731a83e24038c354747d06a93f6d7efeff06c2de54102372494f", func := "loop.example/g01034/laws.FnExactMonthName", spec := "fnExactMonthName", inPlace := ["internal/bytealg.CountString", "internal/bytealg.IndexByteString", "internal/bytealg.IndexString"], named := ["unicode/utf8.first", "unicode/utf8.acceptRanges", "internal/bytealg.MaxLen"], apart := false, laid := [("unicode/utf8.acceptRanges", laid_unicode_utf8_acceptRanges), ("unicode/utf8.first", laid_unicode_utf8_first)], narrowed := true }
def FnExactMonthNameUptoSaid : Prop := fnExactMonthNameUptoRow.holds Tryd.pinned (OpenSpec.upto fnExactMonthNameSpec)

/-- 'laws.FnExactWeekdayName', WHERE WHAT IT READS IS OF BULK AT MOST 1048576: true; the input reads as it did. -/
def fnExactWeekdayNameUptoRow : OpenClaim := { program := "ytbejonekekpnaaadoor", sum := "35ef7ba1d7c6731a83e24038c354747d06a93f6d7efeff06c2de54102372494f", func := "loop.example/g01034/laws.FnExactWeekdayName", spec := "fnExactWeekdayName", inPlace := ["internal/bytealg.CountString", "internal/bytealg.IndexByteString", "internal/bytealg.IndexString"], named := ["unicode/utf8.first", "unicode/utf8.acceptRanges", "internal/bytealg.MaxLen"], apart := false, laid := [("unicode/utf8.acceptRanges", laid_unicode_utf8_acceptRanges), ("unicode/utf8.first", laid_unicode_utf8_first)], narrowed := true }
def FnExactWeekdayNameUptoSaid : Prop := fnExactWeekdayNameUptoRow.holds Tryd.pinned (OpenSpec.upto fnExactWeekdayNameSpec)

/-- 'laws.FnExactStyleName', WHERE WHAT IT READS IS OF BULK AT MOST 1048576: true; the input reads as it did. -/
def fnExactStyleNameUptoRow : OpenClaim := { program := "ytbejonekekpnaaadoor", sum := "35ef7ba1d7c6731a83e24038c354747d06a93f6d7efeff06c2de54102372494f", func := "loop.example/g01034/laws.FnExactStyleName", spec := "fnExactStyleName", inPlace := ["internal/bytealg.CountString", "internal/bytealg.IndexByteString", "internal/bytealg.IndexString"], named := ["unicode/utf8.first", "unicode/utf8.acceptRanges", "internal/bytealg.MaxLen"], apart := false, laid := [("unicode/utf8.acceptRanges", laid_unicode_utf8_acceptRanges), ("unicode/utf8.first", laid_unicode_utf8_first)], narrowed := true }
def FnExactStyleNameUptoSaid : Prop := fnExactStyleNameUptoRow.holds Tryd.pinned (OpenSpec.upto fnExactStyleNameSpec)

/-- 'laws.FnExactOrdinalText', WHERE WHAT IT READS IS OF BULK AT MOST 1048576: true; the input reads as it did. -/
def fnExactOrdinalTextUptoRow : OpenClaim := { program := "ytbejonekekpnaaadoor", sum := "35ef7ba1d7c6731a83e24038c354747d06a93f6d7efeff06c2de54102372494f", func := "loop.example/g01034/laws.FnExactOrdinalText", spec := "fnExactOrdinalText", inPlace := ["internal/bytealg.CountString", "internal/bytealg.IndexByteString", "internal/bytealg.IndexString"], named := ["unicode/utf8.first", "unicode/utf8.acceptRanges", "internal/bytealg.MaxLen"], apart := false, laid := [("unicode/utf8.acceptRanges", laid_unicode_utf8_acceptRanges), ("unicode/utf8.first", laid_unicode_utf8_first)], narrowed := true }
def FnExactOrdinalTextUptoSaid : Prop := fnExactOrdinalTextUptoRow.holds Tryd.pinned (OpenSpec.upto fnExactOrdinalTextSpec)

/-- 'laws.FnExactStyleNamed', WHERE WHAT IT READS IS OF BULK AT MOST 1048576: true; the input reads as it did. -/
def fnExactStyleNamedUptoRow : OpenClaim := { program := "ytbejonekekpnaaadoor", sum := "35ef7ba1d7c6731a83e24038c354747d06a93f6d7efeff06c2de54102372494f", func := "loop.example/g01034/laws.FnExactStyleNamed", spec := "fnExactStyleNamed", inPlace := ["internal/bytealg.CountString", "internal/bytealg.IndexByteString", "internal/bytealg.IndexString"], named := ["unicode/utf8.first", "unicode/utf8.acceptRanges", "internal/bytealg.MaxLen"], apart := false, laid := [("unicode/utf8.acceptRanges", laid_unicode_utf8_acceptRanges), ("unicode/utf8.first", laid_unicode_utf8_first)], narrowed := true }
def FnExactStyleNamedUptoSaid : Prop := fnExactStyleNamedUptoRow.holds Tryd.pinned (OpenSpec.upto fnExactStyleNamedSpec)

/-- 'laws.FnExactReadOrdinal', WHERE WHAT IT READS IS OF BULK AT MOST 1048576: true; the input reads as it did. -/
def fnExactReadOrdinalUptoRow : OpenClaim := { program := "ytbejonekekpnaaadoor", sum := "35ef7ba1d7c6731a83e24038c354747d06a93f6d7efeff06c2de54102372494f", func := "loop.example/g01034/laws.FnExactReadOrdinal", spec := "fnExactReadOrdinal", inPlace := ["internal/bytealg.CountString", "internal/bytealg.IndexByteString", "internal/bytealg.IndexString"], named := ["unicode/utf8.first", "unicode/utf8.acceptRanges", "internal/bytealg.MaxLen"], apart := false, laid := [("unicode/utf8.acceptRanges", laid_unicode_utf8_acceptRanges), ("unicode/utf8.first", laid_unicode_utf8_first)], narrowed := true }
def FnExactReadOrdinalUptoSaid : Prop := fnExactReadOrdinalUptoRow.holds Tryd.pinned (OpenSpec.upto fnExactReadOrdinalSpec)

/-- 'laws.FnExactWordDistance', WHERE WHAT IT READS IS OF BULK AT MOST 1048576: true; the input reads as it did. -/
def fnExactWordDistanceUptoRow : OpenClaim := { program := "ytbejonekekpnaaadoor", sum := "35ef7ba1d7c6731a83e24038c354747d06a93f6d7efeff06c2de54102372494f", func := "loop.example/g01034/laws.FnExactWordDistance", spec := "fnExactWordDistance", inPlace := ["internal/bytealg.IndexByteString", "internal/bytealg.IndexString"], unfollowed := true, recurses := true, named := ["unicode/utf8.first", "unicode/utf8.acceptRanges", "internal/bytealg.MaxLen"], apart := false, laid := [("unicode/utf8.acceptRanges", laid_unicode_utf8_acceptRanges), ("unicode/utf8.first", laid_unicode_utf8_first)], narrowed := true }
def FnExactWordDistanceUptoSaid : Prop := fnExactWordDistanceUptoRow.holds Tryd.pinned (OpenSpec.upto fnExactWordDistanceSpec)

/-- 'laws.FnExactPhraseText', WHERE WHAT IT READS IS OF BULK AT MOST 1048576: true; the input reads as it did. -/
def fnExactPhraseTextUptoRow : OpenClaim := { program := "ytbejonekekpnaaadoor", sum := "35ef7ba1d7c6731a83e24038c354747d06a93f6d7efeff06c2de54102372494f", func := "loop.example/g01034/laws.FnExactPhraseText", spec := "fnExactPhraseText", inPlace := ["internal/bytealg.IndexByteString", "internal/bytealg.IndexString", "internal/abi.NoEscape", "internal/bytealg.MakeNoZero"], unfollowed := true, recurses := true, named := ["unicode/utf8.first", "unicode/utf8.acceptRanges", "internal/bytealg.MaxLen"], apart := false, laid := [("unicode/utf8.acceptRanges", laid_unicode_utf8_acceptRanges), ("unicode/utf8.first", laid_unicode_utf8_first)], narrowed := true }
def FnExactPhraseTextUptoSaid : Prop := fnExactPhraseTextUptoRow.holds Tryd.pinned (OpenSpec.upto fnExactPhraseTextSpec)

/-- 'laws.FnExactOldNumeral', WHERE WHAT IT READS IS OF BULK AT MOST 1048576: true; the input reads as it did. -/
def fnExactOldNumeralUptoRow : OpenClaim := { program := "ytbejonekekpnaaadoor", sum := "35ef7ba1d7c6731a83e24038c354747d06a93f6d7efeff06c2de54102372494f", func := "loop.example/g01034/laws.FnExactOldNumeral", spec := "fnExactOldNumeral", inPlace := ["internal/abi.NoEscape", "internal/bytealg.MakeNoZero", "internal/bytealg.CountString", "internal/bytealg.IndexByteString", "internal/bytealg.IndexString"], recurses := true, named := ["internal/bytealg.MaxLen", "unicode/utf8.first", "unicode/utf8.acceptRanges"], apart := false, laid := [("unicode/utf8.acceptRanges", laid_unicode_utf8_acceptRanges), ("unicode/utf8.first", laid_unicode_utf8_first)], narrowed := true }
def FnExactOldNumeralUptoSaid : Prop := fnExactOldNumeralUptoRow.holds Tryd.pinned (OpenSpec.upto fnExactOldNumeralSpec)

/-- 'laws.FnExactReadNumeral', WHERE WHAT IT READS IS OF BULK AT MOST 1048576: true; the input reads as it did. -/
def fnExactReadNumeralUptoRow : OpenClaim := { program := "ytbejonekekpnaaadoor", sum := "35ef7ba1d7c6731a83e24038c354747d06a93f6d7efeff06c2de54102372494f", func := "loop.example/g01034/laws.FnExactReadNumeral", spec := "fnExactReadNumeral", inPlace := ["internal/bytealg.CountString", "internal/bytealg.IndexByteString", "internal/bytealg.IndexString", "internal/abi.NoEscape", "internal/bytealg.MakeNoZero"], recurses := true, named := ["internal/bytealg.MaxLen", "unicode/utf8.first", "unicode/utf8.acceptRanges"], apart := false, laid := [("unicode/utf8.acceptRanges", laid_unicode_utf8_acceptRanges), ("unicode/utf8.first", laid_unicode_utf8_first)], narrowed := true }
def FnExactReadNumeralUptoSaid : Prop := fnExactReadNumeralUptoRow.holds Tryd.pinned (OpenSpec.upto fnExactReadNumeralSpec)

/-- 'laws.FnExactSplitPhrase', WHERE WHAT IT READS IS OF BULK AT MOST 1048576: true; the input reads as it did. -/
def fnExactSplitPhraseUptoRow : OpenClaim := { program := "ytbejonekekpnaaadoor", sum := "35ef7ba1d7c6731a83e24038c354747d06a93f6d7efeff06c2de54102372494f", func := "loop.example/g01034/laws.FnExactSplitPhrase", spec := "fnExactSplitPhrase", inPlace := ["internal/bytealg.CountString", "internal/bytealg.IndexByteString", "internal/bytealg.IndexString"], unfollowed := true, recurses := true, named := ["unicode/utf8.first", "unicode/utf8.acceptRanges", "internal/bytealg.MaxLen"], apart := false, laid := [("unicode/utf8.acceptRanges", laid_unicode_utf8_acceptRanges), ("unicode/utf8.first", laid_unicode_utf8_first)], narrowed := true }
def FnExactSplitPhraseUptoSaid : Prop := fnExactSplitPhraseUptoRow.holds Tryd.pinned (OpenSpec.upto fnExactSplitPhraseSpec)

end Rows
end Go.Proofs.YtbejonekekpnaaaDoor
