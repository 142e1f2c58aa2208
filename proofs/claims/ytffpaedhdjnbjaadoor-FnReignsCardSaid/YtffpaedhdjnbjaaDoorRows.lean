/-
  NARROWER THAN 'FOR EVERY INPUT', by the rows' own cells (each row's printed sentence says how): FnStyles: laid · FnExactAreReigns: laid · FnExactCountYears: laid · FnExactReignsOn: laid · FnExactRegnalYear: laid · FnExactRegnalSpan: laid · FnReigns: laid · FnExactIsClause: laid.
  DERIVED. THE GIVEN ROWS OF THIS SEAT. 8 by the template 'for every input the law returns true; each argument reads behind the call as it read before'; 0 by the template 'total and deterministic' (their statements: YtffpaedhdjnbjaaDoorTotals.lean).
  GIVEN WITH THE SEED: the statements are not yours to turn. If you find one false, say at which input.
  Laid BY PROGRAM, IN A SANDBOX (cutbox-rows.mjs): the forced cells as the released guide's own fill.sh prints them over the translation 88a151b75a9f4355… (all of the seat's roots in one cut). By AI agents, Wed Nov 11 2026. No macro, syntax, notation, axiom, sorry.
-/
import Derived.Test.YtffpaedhdjnbjaaDoorChecked
import GoSem.PinnedTables
import GoSem.Claim
import GoSem.ClaimJoined
import GoSem.ClaimMapViews
import Derived.JoinedTies
import Derived.KernelRfl
namespace Go.Proofs.YtffpaedhdjnbjaaDoor
/- THE CELL 'sum', in the pinned program and in every row, IS THE sha256 OF THE DUMP (.gsa) THAT YtffpaedhdjnbjaaDoorProg.lean LOADS. Nothing in Lean hashes anything: it is a label: what it is worth is what the hold of that sum in a sandbox is worth. -/
noncomputable def Tryd.pinned : Pinned := { name := "ytffpaedhdjnbjaadoor", sum := "88a151b75a9f4355f2cb567743150bcdc1d141526226c0b75be2dd6bfaed775b", checked := Tryd.checked }
namespace Rows
def none {H : Type} : Left H := { results := [], args := [] }

/- WHAT THE LISTED PACKAGE-LEVEL VARIABLES READ AS WHEN THE CALL BEGINS. Each datum BY PROGRAM (the guide's laid-datum.mjs) off the statement by which the dump's own 'gosem.cut.vars' lays the variable. In a bare row this is a premise. The card (YtffpaedhdjnbjaaDoorCards.lean) ties it to the program's text. -/
def laid_unicode_utf8_acceptRanges {H : Type} : DataW H := .agg [.agg [.lit (.int .u8 128), .lit (.int .u8 191)], .agg [.lit (.int .u8 160), .lit (.int .u8 191)], .agg [.lit (.int .u8 128), .lit (.int .u8 159)], .agg [.lit (.int .u8 144), .lit (.int .u8 191)], .agg [.lit (.int .u8 128), .lit (.int .u8 143)], .agg [.lit (.int .u8 0), .lit (.int .u8 0)], .agg [.lit (.int .u8 0), .lit (.int .u8 0)], .agg [.lit (.int .u8 0), .lit (.int .u8 0)], .agg [.lit (.int .u8 0), .lit (.int .u8 0)], .agg [.lit (.int .u8 0), .lit (.int .u8 0)], .agg [.lit (.int .u8 0), .lit (.int .u8 0)], .agg [.lit (.int .u8 0), .lit (.int .u8 0)], .agg [.lit (.int .u8 0), .lit (.int .u8 0)], .agg [.lit (.int .u8 0), .lit (.int .u8 0)], .agg [.lit (.int .u8 0), .lit (.int .u8 0)], .agg [.lit (.int .u8 0), .lit (.int .u8 0)]]
/-- One of Go's own tables, pinned by name: the form's constant. -/
def laid_unicode_utf8_first : DataW Unit := Go.Pinned.utf8First

/-- 'laws.FnStyles': WHATEVER THE INPUT: true; the input reads as it did. -/
def fnStylesSpec : ChangeSpec := { name := "fnStyles", fn := fun _ => fun
  | [d] => { results := [.lit (.bool true)], args := [d] }
  | _ => none }
def fnStylesRow : OpenClaim := { program := "ytffpaedhdjnbjaadoor", sum := "88a151b75a9f4355f2cb567743150bcdc1d141526226c0b75be2dd6bfaed775b", func := "loop.example/g01034/laws.FnStyles", spec := "fnStyles", inPlace := ["internal/bytealg.CountString", "internal/bytealg.IndexByteString", "internal/bytealg.IndexString"], unfollowed := true, recurses := true, named := ["unicode/utf8.first", "unicode/utf8.acceptRanges", "internal/bytealg.MaxLen"], apart := false, laid := [("unicode/utf8.acceptRanges", laid_unicode_utf8_acceptRanges), ("unicode/utf8.first", laid_unicode_utf8_first)] }
def FnStylesSaid : Prop := fnStylesRow.holds Tryd.pinned (OpenSpec.ofChange fnStylesSpec)

/-- ITS FALSE NEIGHBOUR: 'it returns false'. Refute it at one input. -/
def fnStylesWrong : ChangeSpec := { name := "fnStyles", fn := fun _ => fun
  | [d] => { results := [.lit (.bool false)], args := [d] }
  | _ => none }
def FnStylesWrongFalsely : Prop := fnStylesRow.holds Tryd.pinned (OpenSpec.ofChange fnStylesWrong)

/-- 'laws.FnExactAreReigns': WHATEVER THE INPUT: true; the input reads as it did. -/
def fnExactAreReignsSpec : ChangeSpec := { name := "fnExactAreReigns", fn := fun _ => fun
  | [d] => { results := [.lit (.bool true)], args := [d] }
  | _ => none }
def fnExactAreReignsRow : OpenClaim := { program := "ytffpaedhdjnbjaadoor", sum := "88a151b75a9f4355f2cb567743150bcdc1d141526226c0b75be2dd6bfaed775b", func := "loop.example/g01034/laws.FnExactAreReigns", spec := "fnExactAreReigns", inPlace := ["internal/bytealg.IndexByteString", "internal/bytealg.IndexString"], named := ["unicode/utf8.first", "unicode/utf8.acceptRanges", "internal/bytealg.MaxLen"], apart := false, laid := [("unicode/utf8.acceptRanges", laid_unicode_utf8_acceptRanges), ("unicode/utf8.first", laid_unicode_utf8_first)] }
def FnExactAreReignsSaid : Prop := fnExactAreReignsRow.holds Tryd.pinned (OpenSpec.ofChange fnExactAreReignsSpec)

/-- ITS FALSE NEIGHBOUR: 'it returns false'. Refute it at one input. -/
def fnExactAreReignsWrong : ChangeSpec := { name := "fnExactAreReigns", fn := fun _ => fun
  | [d] => { results := [.lit (.bool false)], args := [d] }
  | _ => none }
def FnExactAreReignsWrongFalsely : Prop := fnExactAreReignsRow.holds Tryd.pinned (OpenSpec.ofChange fnExactAreReignsWrong)

/-- 'laws.FnExactCountYears': WHATEVER THE INPUT: true; the input reads as it did. -/
def fnExactCountYearsSpec : ChangeSpec := { name := "fnExactCountYears", fn := fun _ => fun
  | [d] => { results := [.lit (.bool true)], args := [d] }
  | _ => none }
def fnExactCountYearsRow : OpenClaim := { program := "ytffpaedhdjnbjaadoor", sum := "88a151b75a9f4355f2cb567743150bcdc1d141526226c0b75be2dd6bfaed775b", func := "loop.example/g01034/laws.FnExactCountYears", spec := "fnExactCountYears", inPlace := ["internal/bytealg.IndexByteString", "internal/bytealg.IndexString"], unfollowed := true, recurses := true, named := ["unicode/utf8.first", "unicode/utf8.acceptRanges", "internal/bytealg.MaxLen"], apart := false, laid := [("unicode/utf8.acceptRanges", laid_unicode_utf8_acceptRanges), ("unicode/utf8.first", laid_unicode_utf8_first)] }
def FnExactCountYearsSaid : Prop := fnExactCountYearsRow.holds Tryd.pinned (OpenSpec.ofChange fnExactCountYearsSpec)

/-- ITS FALSE NEIGHBOUR: 'it returns false'. Refute it at one input. -/
def fnExactCountYearsWrong : ChangeSpec := { name := "fnExactCountYears", fn := fun _ => fun
  | [d] => { results := [.lit (.bool false)], args := [d] }
  | _ => none }
def FnExactCountYearsWrongFalsely : Prop := fnExactCountYearsRow.holds Tryd.pinned (OpenSpec.ofChange fnExactCountYearsWrong)

/-- 'laws.FnExactReignsOn': WHATEVER THE INPUT: true; the input reads as it did. -/
def fnExactReignsOnSpec : ChangeSpec := { name := "fnExactReignsOn", fn := fun _ => fun
  | [d1, d2] => { results := [.lit (.bool true)], args := [d1, d2] }
  | _ => none }
def fnExactReignsOnRow : OpenClaim := { program := "ytffpaedhdjnbjaadoor", sum := "88a151b75a9f4355f2cb567743150bcdc1d141526226c0b75be2dd6bfaed775b", func := "loop.example/g01034/laws.FnExactReignsOn", spec := "fnExactReignsOn", inPlace := ["internal/bytealg.IndexByteString", "internal/bytealg.IndexString"], unfollowed := true, recurses := true, named := ["unicode/utf8.first", "unicode/utf8.acceptRanges", "internal/bytealg.MaxLen"], apart := false, laid := [("unicode/utf8.acceptRanges", laid_unicode_utf8_acceptRanges), ("unicode/utf8.first", laid_unicode_utf8_first)] }
def FnExactReignsOnSaid : Prop := fnExactReignsOnRow.holds Tryd.pinned (OpenSpec.ofChange fnExactReignsOnSpec)

/-- ITS FALSE NEIGHBOUR: 'it returns false'. Refute it at one input. -/
def fnExactReignsOnWrong : ChangeSpec := { name := "fnExactReignsOn", fn := fun _ => fun
  | [d1, d2] => { results := [.lit (.bool false)], args := [d1, d2] }
  | _ => none }
def FnExactReignsOnWrongFalsely : Prop := fnExactReignsOnRow.holds Tryd.pinned (OpenSpec.ofChange fnExactReignsOnWrong)

/-- 'laws.FnExactRegnalYear': WHATEVER THE INPUT: true; the input reads as it did. -/
def fnExactRegnalYearSpec : ChangeSpec := { name := "fnExactRegnalYear", fn := fun _ => fun
  | [d1, d2] => { results := [.lit (.bool true)], args := [d1, d2] }
  | _ => none }
def fnExactRegnalYearRow : OpenClaim := { program := "ytffpaedhdjnbjaadoor", sum := "88a151b75a9f4355f2cb567743150bcdc1d141526226c0b75be2dd6bfaed775b", func := "loop.example/g01034/laws.FnExactRegnalYear", spec := "fnExactRegnalYear", inPlace := ["internal/bytealg.IndexByteString", "internal/bytealg.IndexString"], unfollowed := true, recurses := true, named := ["unicode/utf8.first", "unicode/utf8.acceptRanges", "internal/bytealg.MaxLen"], apart := false, laid := [("unicode/utf8.acceptRanges", laid_unicode_utf8_acceptRanges), ("unicode/utf8.first", laid_unicode_utf8_first)] }
def FnExactRegnalYearSaid : Prop := fnExactRegnalYearRow.holds Tryd.pinned (OpenSpec.ofChange fnExactRegnalYearSpec)

/-- ITS FALSE NEIGHBOUR: 'it returns false'. Refute it at one input. -/
def fnExactRegnalYearWrong : ChangeSpec := { name := "fnExactRegnalYear", fn := fun _ => fun
  | [d1, d2] => { results := [.lit (.bool false)], args := [d1, d2] }
  | _ => none }
def FnExactRegnalYearWrongFalsely : Prop := fnExactRegnalYearRow.holds Tryd.pinned (OpenSpec.ofChange fnExactRegnalYearWrong)

/-- 'laws.FnExactRegnalSpan': WHATEVER THE INPUT: true; the input reads as it did. -/
def fnExactRegnalSpanSpec : ChangeSpec := { name := "fnExactRegnalSpan", fn := fun _ => fun
  | [d1, d2] => { results := [.lit (.bool true)], args := [d1, d2] }
  | _ => none }
def fnExactRegnalSpanRow : OpenClaim := { program := "ytffpaedhdjnbjaadoor", sum := "88a151b75a9f4355f2cb567743150bcdc1d141526226c0b75be2dd6bfaed775b", func := "loop.example/g01034/laws.FnExactRegnalSpan", spec := "fnExactRegnalSpan", inPlace := ["internal/bytealg.IndexByteString", "internal/bytealg.IndexString"], unfollowed := true, recurses := true, named := ["unicode/utf8.first", "unicode/utf8.acceptRanges", "internal/bytealg.MaxLen"], apart := false, laid := [("unicode/utf8.acceptRanges", laid_unicode_utf8_acceptRanges), ("unicode/utf8.first", laid_unicode_utf8_first)] }
def FnExactRegnalSpanSaid : Prop := fnExactRegnalSpanRow.holds Tryd.pinned (OpenSpec.ofChange fnExactRegnalSpanSpec)

/-- ITS FALSE NEIGHBOUR: 'it returns false'. Refute it at one input. -/
def fnExactRegnalSpanWrong : ChangeSpec := { name := "fnExactRegnalSpan", fn := fun _ => fun
  | [d1, d2] => { results := [.lit (.bool false)], args := [d1, d2] }
  | _ => none }
def FnExactRegnalSpanWrongFalsely : Prop := fnExactRegnalSpanRow.holds Tryd.pinned (OpenSpec.ofChange fnExactRegnalSpanWrong)

/-- 'laws.FnReigns': WHATEVER THE INPUT: true; the input reads as it did. -/
def fnReignsSpec : ChangeSpec := { name := "fnReigns", fn := fun _ => fun
  | [d] => { results := [.lit (.bool true)], args := [d] }
  | _ => none }
def fnReignsRow : OpenClaim := { program := "ytffpaedhdjnbjaadoor", sum := "88a151b75a9f4355f2cb567743150bcdc1d141526226c0b75be2dd6bfaed775b", func := "loop.example/g01034/laws.FnReigns", spec := "fnReigns", inPlace := ["internal/bytealg.IndexByteString", "internal/bytealg.IndexString"], unfollowed := true, recurses := true, named := ["unicode/utf8.first", "unicode/utf8.acceptRanges", "internal/bytealg.MaxLen"], apart := false, laid := [("unicode/utf8.acceptRanges", laid_unicode_utf8_acceptRanges), ("unicode/utf8.first", laid_unicode_utf8_first)] }
def FnReignsSaid : Prop := fnReignsRow.holds Tryd.pinned (OpenSpec.ofChange fnReignsSpec)

/-- ITS FALSE NEIGHBOUR: 'it returns false'. Refute it at one input. -/
def fnReignsWrong : ChangeSpec := { name := "fnReigns", fn := fun _ => fun
  | [d] => { results := [.lit (.bool false)], args := [d] }
  | _ => none }
def FnReignsWrongFalsely : Prop := fnReignsRow.holds Tryd.pinned (OpenSpec.ofChange fnReignsWrong)

/-- 'laws.FnExactIsClause': WHATEVER THE INPUT: true; the input reads as it did. -/
def fnExactIsClauseSpec : ChangeSpec := { name := "fnExactIsClause", fn := fun _ => fun
  | [d] => { results := [.lit (.bool true)], args := [d] }
  | _ => none }
def fnExactIsClauseRow : OpenClaim := { program := "ytffpaedhdjnbjaadoor", sum := "88a151b75a9f4355f2cb567743150bcdc1d141526226c0b75be2dd6bfaed775b", func := "loop.example/g01034/laws.FnExactIsClause", spec := "fnExactIsClause", inPlace := ["internal/bytealg.IndexByteString", "internal/bytealg.IndexString"], named := ["unicode/utf8.first", "unicode/utf8.acceptRanges", "internal/bytealg.MaxLen"], apart := false, laid := [("unicode/utf8.acceptRanges", laid_unicode_utf8_acceptRanges), ("unicode/utf8.first", laid_unicode_utf8_first)] }
def FnExactIsClauseSaid : Prop := fnExactIsClauseRow.holds Tryd.pinned (OpenSpec.ofChange fnExactIsClauseSpec)

/-- ITS FALSE NEIGHBOUR: 'it returns false'. Refute it at one input. -/
def fnExactIsClauseWrong : ChangeSpec := { name := "fnExactIsClause", fn := fun _ => fun
  | [d] => { results := [.lit (.bool false)], args := [d] }
  | _ => none }
def FnExactIsClauseWrongFalsely : Prop := fnExactIsClauseRow.holds Tryd.pinned (OpenSpec.ofChange fnExactIsClauseWrong)

/- THE SECOND FORM. 'bulk': how many values and letters a reading holds, each counted each time it is reached (what is shared counts as often as it is met; a slice's spare places count too). A statement '..UptoSaid' is the law's where the arguments, and the package variables that the reading takes, are together of bulk at most 1048576: NARROWER than '..Said'. Prove '..Said' where nothing that the law and all that it calls make is longer than what came in: it says more and counts as full. Else prove '..UptoSaid'. A law counts once. -/
mutual
def uptoBulk {H : Type} : DataW H → Nat
  | .lit (.string bytes) => bytes.length + 1
  | .lit _ => 1
  | .nil => 1
  | .ptr d => uptoBulk d + 1
  | .slice elems spare => uptoBulkAll elems + uptoBulkAll spare + 1
  | .agg parts => uptoBulkAll parts + 1
  | .iface _ d => uptoBulk d + 1
  | .map entries => uptoBulkEntries entries + 1
  | .held _ => 1
def uptoBulkAll {H : Type} : List (DataW H) → Nat
  | [] => 0
  | d :: r => uptoBulk d + uptoBulkAll r
def uptoBulkEntries {H : Type} : List (Lit × DataW H) → Nat
  | [] => 0
  | x :: r => uptoBulkEntry x + uptoBulkEntries r
def uptoBulkEntry {H : Type} : Lit × DataW H → Nat
  | (.string bytes, d) => bytes.length + uptoBulk d + 1
  | (_, d) => uptoBulk d + 1
 end
def uptoSmall : (H : Type) → List (DataW H) → Bool := fun _ ds => decide (uptoBulkAll ds ≤ 1048576)
def OpenSpec.upto (s : _root_.Go.ChangeSpec) : _root_.Go.OpenSpec := { _root_.Go.OpenSpec.ofChange s with cond := some uptoSmall }

/-- 'laws.FnStyles', WHERE WHAT IT READS IS OF BULK AT MOST 1048576: true; the input reads as it did. -/
def fnStylesUptoRow : OpenClaim := { program := "ytffpaedhdjnbjaadoor", sum := "88a151b75a9f4355f2cb567743150bcdc1d141526226c0b75be2dd6bfaed775b", func := "loop.example/g01034/laws.FnStyles", spec := "fnStyles", inPlace := ["internal/bytealg.CountString", "internal/bytealg.IndexByteString", "internal/bytealg.IndexString"], unfollowed := true, recurses := true, named := ["unicode/utf8.first", "unicode/utf8.acceptRanges", "internal/bytealg.MaxLen"], apart := false, laid := [("unicode/utf8.acceptRanges", laid_unicode_utf8_acceptRanges), ("unicode/utf8.first", laid_unicode_utf8_first)], narrowed := true }
def FnStylesUptoSaid : Prop := fnStylesUptoRow.holds Tryd.pinned (OpenSpec.upto fnStylesSpec)

/-- 'laws.FnExactAreReigns', WHERE WHAT IT READS IS OF BULK AT MOST 1048576: true; the input reads as it did. -/
def fnExactAreReignsUptoRow : OpenClaim := { program := "ytffpaedhdjnbjaadoor", sum := "88a151b75a9f4355f2cb567743150bcdc1d141526226c0b75be2dd6bfaed775b", func := "loop.example/g01034/laws.FnExactAreReigns", spec := "fnExactAreReigns", inPlace := ["internal/bytealg.IndexByteString", "internal/bytealg.IndexString"], named := ["unicode/utf8.first", "unicode/utf8.acceptRanges", "internal/bytealg.MaxLen"], apart := false, laid := [("unicode/utf8.acceptRanges", laid_unicode_utf8_acceptRanges), ("unicode/utf8.first", laid_unicode_utf8_first)], narrowed := true }
def FnExactAreReignsUptoSaid : Prop := fnExactAreReignsUptoRow.holds Tryd.pinned (OpenSpec.upto fnExactAreReignsSpec)

/-- 'laws.FnExactCountYears', WHERE WHAT IT READS IS OF BULK AT MOST 1048576: true; the input reads as it did. -/
def fnExactCountYearsUptoRow : OpenClaim := { program := "ytffpaedhdjnbjaadoor", sum := "88a151b75a9f4355f2cb567743150bcdc1d141526226c0b75be2dd6bfaed775b", func := "loop.example/g01034/laws.FnExactCountYears", spec := "fnExactCountYears", inPlace := ["internal/bytealg.IndexByteString", "internal/bytealg.IndexString"], unfollowed := true, recurses := true, named := ["unicode/utf8.first", "unicode/utf8.acceptRanges", "internal/bytealg.MaxLen"], apart := false, laid := [("unicode/utf8.acceptRanges", laid_unicode_utf8_acceptRanges), ("unicode/utf8.first", laid_unicode_utf8_first)], narrowed := true }
def FnExactCountYearsUptoSaid : Prop := fnExactCountYearsUptoRow.holds Tryd.pinned (OpenSpec.upto fnExactCountYearsSpec)

/-- 'laws.FnExactReignsOn', WHERE WHAT IT READS IS OF BULK AT MOST 1048576: true; the input reads as it did. -/
def fnExactReignsOnUptoRow : OpenClaim := { program := "ytffpaedhdjnbjaadoor", sum := "88a151b75a9f4355f2cb567743150bcdc1d141526226c0b75be2dd6bfaed775b", func := "loop.example/g01034/laws.FnExactReignsOn", spec := "fnExactReignsOn", inPlace := ["internal/bytealg.IndexByteString", "internal/bytealg.IndexString"], unfollowed := true, recurses := true, named := ["unicode/utf8.first", "unicode/utf8.acceptRanges", "internal/bytealg.MaxLen"], apart := false, laid := [("unicode/utf8.acceptRanges", laid_unicode_utf8_acceptRanges), ("unicode/utf8.first", laid_unicode_utf8_first)], narrowed := true }
def FnExactReignsOnUptoSaid : Prop := fnExactReignsOnUptoRow.holds Tryd.pinned (OpenSpec.upto fnExactReignsOnSpec)

/-- 'laws.FnExactRegnalYear', WHERE WHAT IT READS IS OF BULK AT MOST 1048576: true; the input reads as it did. -/
def fnExactRegnalYearUptoRow : OpenClaim := { program := "ytffpaedhdjnbjaadoor", sum := "88a151b75a9f4355f2cb567743150bcdc1d141526226c0b75be2dd6bfaed775b", func := "loop.example/g01034/laws.FnExactRegnalYear", spec := "fnExactRegnalYear", inPlace := ["internal/bytealg.IndexByteString", "internal/bytealg.IndexString"], unfollowed := true, recurses := true, named := ["unicode/utf8.first", "unicode/utf8.acceptRanges", "internal/bytealg.MaxLen"], apart := false, laid := [("unicode/utf8.acceptRanges", laid_unicode_utf8_acceptRanges), ("unicode/utf8.first", laid_unicode_utf8_first)], narrowed := true }
def FnExactRegnalYearUptoSaid : Prop := fnExactRegnalYearUptoRow.holds Tryd.pinned (OpenSpec.upto fnExactRegnalYearSpec)

/-- 'laws.FnExactRegnalSpan', WHERE WHAT IT READS IS OF BULK AT MOST 1048576: true; the input reads as it did. -/
def fnExactRegnalSpanUptoRow : OpenClaim := { program := "ytffpaedhdjnbjaadoor", sum := "88a151b75a9f4355f2cb567743150bcdc1d141526226c0b75be2dd6bfaed775b", func := "loop.example/g01034/laws.FnExactRegnalSpan", spec := "fnExactRegnalSpan", inPlace := ["internal/bytealg.IndexByteString", "internal/bytealg.IndexString"], unfollowed := true, recurses := true, named := ["unicode/utf8.first", "unicode/utf8.acceptRanges", "internal/bytealg.MaxLen"], apart := false, laid := [("unicode/utf8.acceptRanges", laid_unicode_utf8_acceptRanges), ("unicode/utf8.first", laid_unicode_utf8_first)], narrowed := true }
def FnExactRegnalSpanUptoSaid : Prop := fnExactRegnalSpanUptoRow.holds Tryd.pinned (OpenSpec.upto fnExactRegnalSpanSpec)

/-- 'laws.FnReigns', WHERE WHAT IT READS IS OF BULK AT MOST 1048576: true; the input reads as it did. -/
def fnReignsUptoRow : OpenClaim := { program := "ytffpaedhdjnbjaadoor", sum := "88a151b75a9f4355f2cb567743150bcdc1d141526226c0b75be2dd6bfaed775b", func := "loop.example/g01034/laws.FnReigns", spec := "fnReigns", inPlace := ["internal/bytealg.IndexByteString", "internal/bytealg.IndexString"], unfollowed := true, recurses := true, named := ["unicode/utf8.first", "unicode/utf8.acceptRanges", "internal/bytealg.MaxLen"], apart := false, laid := [("unicode/utf8.acceptRanges", laid_unicode_utf8_acceptRanges), ("unicode/utf8.first", laid_unicode_utf8_first)], narrowed := true }
def FnReignsUptoSaid : Prop := fnReignsUptoRow.holds Tryd.pinned (OpenSpec.upto fnReignsSpec)

/-- 'laws.FnExactIsClause', WHERE WHAT IT READS IS OF BULK AT MOST 1048576: true; the input reads as it did. -/
def fnExactIsClauseUptoRow : OpenClaim := { program := "ytffpaedhdjnbjaadoor", sum := "88a151b75a9f4355f2cb567743150bcdc1d141526226c0b75be2dd6bfaed775b", func := "loop.example/g01034/laws.FnExactIsClause", spec := "fnExactIsClause", inPlace := ["internal/bytealg.IndexByteString", "internal/bytealg.IndexString"], named := ["unicode/utf8.first", "unicode/utf8.acceptRanges", "internal/bytealg.MaxLen"], apart := false, laid := [("unicode/utf8.acceptRanges", laid_unicode_utf8_acceptRanges), ("unicode/utf8.first", laid_unicode_utf8_first)], narrowed := true }
def FnExactIsClauseUptoSaid : Prop := fnExactIsClauseUptoRow.holds Tryd.pinned (OpenSpec.upto fnExactIsClauseSpec)

end Rows
end Go.Proofs.YtffpaedhdjnbjaaDoor
