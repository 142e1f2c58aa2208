/-
  DERIVED. GIVEN WITH THE SEED: THE CARDS: each row of YtbejonekekpnaaaDoorRows.lean that lists a variable, with what it lists TIED to the program's text (the seventh form; the later family's looks); each row that meets fmt, with fmt's text TOLD by the authors' own Lean function (tested against real Go, not proved from fmt's source: count such statements apart). THE CARD IS WHAT COUNTS. Prove the row's statement (the work); the ties are given (YtbejonekekpnaaaDoorTie.lean); close each card by the builder's one call (the guide's Derived/Test/ToyasCard.lean, 'card_holds'). Laid BY PROGRAM, IN A SANDBOX (cutbox-door.mjs). By AI agents, Wed Nov 11 2026. No macro, syntax, notation, axiom, sorry.
-/
import Derived.Test.YtbejonekekpnaaaDoorRows
import GoSem.ClaimSeven
namespace Go.Proofs.YtbejonekekpnaaaDoor
namespace Rows

/-- THE TIED CARD OF 'laws.FnExactMonthName'. -/
def fnExactMonthNameCard : Claim7 := { stood := { row := fnExactMonthNameRow, standIns := [], harness := (true, "fe56d7564fc6fc35650d7b7380048fecd04436e2e24a65c95648e37b15c9567c"), looks := false }, kinds := [], alts := [], laidByText := true, laidKinds := [.data, .pinned], laidTests := true, laidLooks := .later }
def FnExactMonthNameCardSaid : Prop := Claim7.holds Tryd.pinned (.plain (OpenSpec.ofChange fnExactMonthNameSpec)) fnExactMonthNameCard

/-- THE TIED CARD OF 'laws.FnExactWeekdayName'. -/
def fnExactWeekdayNameCard : Claim7 := { stood := { row := fnExactWeekdayNameRow, standIns := [], harness := (true, "fe56d7564fc6fc35650d7b7380048fecd04436e2e24a65c95648e37b15c9567c"), looks := false }, kinds := [], alts := [], laidByText := true, laidKinds := [.data, .pinned], laidTests := true, laidLooks := .later }
def FnExactWeekdayNameCardSaid : Prop := Claim7.holds Tryd.pinned (.plain (OpenSpec.ofChange fnExactWeekdayNameSpec)) fnExactWeekdayNameCard

/-- THE TIED CARD OF 'laws.FnExactStyleName'. -/
def fnExactStyleNameCard : Claim7 := { stood := { row := fnExactStyleNameRow, standIns := [], harness := (true, "fe56d7564fc6fc35650d7b7380048fecd04436e2e24a65c95648e37b15c9567c"), looks := false }, kinds := [], alts := [], laidByText := true, laidKinds := [.data, .pinned], laidTests := true, laidLooks := .later }
def FnExactStyleNameCardSaid : Prop := Claim7.holds Tryd.pinned (.plain (OpenSpec.ofChange fnExactStyleNameSpec)) fnExactStyleNameCard

/-- THE TIED CARD OF 'laws.FnExactOrdinalText'. -/
def fnExactOrdinalTextCard : Claim7 := { stood := { row := fnExactOrdinalTextRow, standIns := [], harness := (true, "fe56d7564fc6fc35650d7b7380048fecd04436e2e24a65c95648e37b15c9567c"), looks := false }, kinds := [], alts := [], laidByText := true, laidKinds := [.data, .pinned], laidTests := true, laidLooks := .later }
def FnExactOrdinalTextCardSaid : Prop := Claim7.holds Tryd.pinned (.plain (OpenSpec.ofChange fnExactOrdinalTextSpec)) fnExactOrdinalTextCard

/-- THE TIED CARD OF 'laws.FnExactStyleNamed'. -/
def fnExactStyleNamedCard : Claim7 := { stood := { row := fnExactStyleNamedRow, standIns := [], harness := (true, "fe56d7564fc6fc35650d7b7380048fecd04436e2e24a65c95648e37b15c9567c"), looks := false }, kinds := [], alts := [], laidByText := true, laidKinds := [.data, .pinned], laidTests := true, laidLooks := .later }
def FnExactStyleNamedCardSaid : Prop := Claim7.holds Tryd.pinned (.plain (OpenSpec.ofChange fnExactStyleNamedSpec)) fnExactStyleNamedCard

/-- THE TIED CARD OF 'laws.FnExactReadOrdinal'. -/
def fnExactReadOrdinalCard : Claim7 := { stood := { row := fnExactReadOrdinalRow, standIns := [], harness := (true, "fe56d7564fc6fc35650d7b7380048fecd04436e2e24a65c95648e37b15c9567c"), looks := false }, kinds := [], alts := [], laidByText := true, laidKinds := [.data, .pinned], laidTests := true, laidLooks := .later }
def FnExactReadOrdinalCardSaid : Prop := Claim7.holds Tryd.pinned (.plain (OpenSpec.ofChange fnExactReadOrdinalSpec)) fnExactReadOrdinalCard

/-- THE TIED CARD OF 'laws.FnExactWordDistance'. -/
def fnExactWordDistanceCard : Claim7 := { stood := { row := fnExactWordDistanceRow, standIns := [], harness := (true, "fe56d7564fc6fc35650d7b7380048fecd04436e2e24a65c95648e37b15c9567c"), looks := false }, kinds := [], alts := [], laidByText := true, laidKinds := [.data, .pinned], laidTests := true, laidLooks := .later }
def FnExactWordDistanceCardSaid : Prop := Claim7.holds Tryd.pinned (.plain (OpenSpec.ofChange fnExactWordDistanceSpec)) fnExactWordDistanceCard

/-- THE TIED CARD OF 'laws.FnExactPhraseText'. -/
def fnExactPhraseTextCard : Claim7 := { stood := { row := fnExactPhraseTextRow, standIns := [], harness := (true, "fe56d7564fc6fc35650d7b7380048fecd04436e2e24a65c95648e37b15c9567c"), looks := false }, kinds := [], alts := [], laidByText := true, laidKinds := [.data, .pinned], laidTests := true, laidLooks := .later }
def FnExactPhraseTextCardSaid : Prop := Claim7.holds Tryd.pinned (.plain (OpenSpec.ofChange fnExactPhraseTextSpec)) fnExactPhraseTextCard

/-- THE TIED CARD OF 'laws.FnExactOldNumeral'. -/
def fnExactOldNumeralCard : Claim7 := { stood := { row := fnExactOldNumeralRow, standIns := [], harness := (true, "fe56d7564fc6fc35650d7b7380048fecd04436e2e24a65c95648e37b15c9567c"), looks := false }, kinds := [], alts := [], laidByText := true, laidKinds := [.data, .pinned], laidTests := true, laidLooks := .later }
def FnExactOldNumeralCardSaid : Prop := Claim7.holds Tryd.pinned (.plain (OpenSpec.ofChange fnExactOldNumeralSpec)) fnExactOldNumeralCard

/-- THE TIED CARD OF 'laws.FnExactReadNumeral'. -/
def fnExactReadNumeralCard : Claim7 := { stood := { row := fnExactReadNumeralRow, standIns := [], harness := (true, "fe56d7564fc6fc35650d7b7380048fecd04436e2e24a65c95648e37b15c9567c"), looks := false }, kinds := [], alts := [], laidByText := true, laidKinds := [.data, .pinned], laidTests := true, laidLooks := .later }
def FnExactReadNumeralCardSaid : Prop := Claim7.holds Tryd.pinned (.plain (OpenSpec.ofChange fnExactReadNumeralSpec)) fnExactReadNumeralCard

/-- THE TIED CARD OF 'laws.FnExactSplitPhrase'. -/
def fnExactSplitPhraseCard : Claim7 := { stood := { row := fnExactSplitPhraseRow, standIns := [], harness := (true, "fe56d7564fc6fc35650d7b7380048fecd04436e2e24a65c95648e37b15c9567c"), looks := false }, kinds := [], alts := [], laidByText := true, laidKinds := [.data, .pinned], laidTests := true, laidLooks := .later }
def FnExactSplitPhraseCardSaid : Prop := Claim7.holds Tryd.pinned (.plain (OpenSpec.ofChange fnExactSplitPhraseSpec)) fnExactSplitPhraseCard

/-- THE SECOND FORM's CARD OF 'laws.FnExactMonthName'. -/
def fnExactMonthNameUptoCard : Claim7 := { stood := { row := fnExactMonthNameUptoRow, standIns := [], harness := (true, "fe56d7564fc6fc35650d7b7380048fecd04436e2e24a65c95648e37b15c9567c"), looks := false }, kinds := [], alts := [], laidByText := true, laidKinds := [.data, .pinned], laidTests := true, laidLooks := .later }
def FnExactMonthNameUptoCardSaid : Prop := Claim7.holds Tryd.pinned (.plain (OpenSpec.upto fnExactMonthNameSpec)) fnExactMonthNameUptoCard

/-- THE SECOND FORM's CARD OF 'laws.FnExactWeekdayName'. -/
def fnExactWeekdayNameUptoCard : Claim7 := { stood := { row := fnExactWeekdayNameUptoRow, standIns := [], harness := (true, "fe56d7564fc6fc35650d7b7380048fecd04436e2e24a65c95648e37b15c9567c"), looks := false }, kinds := [], alts := [], laidByText := true, laidKinds := [.data, .pinned], laidTests := true, laidLooks := .later }
def FnExactWeekdayNameUptoCardSaid : Prop := Claim7.holds Tryd.pinned (.plain (OpenSpec.upto fnExactWeekdayNameSpec)) fnExactWeekdayNameUptoCard

/-- THE SECOND FORM's CARD OF 'laws.FnExactStyleName'. -/
def fnExactStyleNameUptoCard : Claim7 := { stood := { row := fnExactStyleNameUptoRow, standIns := [], harness := (true, "fe56d7564fc6fc35650d7b7380048fecd04436e2e24a65c95648e37b15c9567c"), looks := false }, kinds := [], alts := [], laidByText := true, laidKinds := [.data, .pinned], laidTests := true, laidLooks := .later }
def FnExactStyleNameUptoCardSaid : Prop := Claim7.holds Tryd.pinned (.plain (OpenSpec.upto fnExactStyleNameSpec)) fnExactStyleNameUptoCard

/-- THE SECOND FORM's CARD OF 'laws.FnExactOrdinalText'. -/
def fnExactOrdinalTextUptoCard : Claim7 := { stood := { row := fnExactOrdinalTextUptoRow, standIns := [], harness := (true, "fe56d7564fc6fc35650d7b7380048fecd04436e2e24a65c95648e37b15c9567c"), looks := false }, kinds := [], alts := [], laidByText := true, laidKinds := [.data, .pinned], laidTests := true, laidLooks := .later }
def FnExactOrdinalTextUptoCardSaid : Prop := Claim7.holds Tryd.pinned (.plain (OpenSpec.upto fnExactOrdinalTextSpec)) fnExactOrdinalTextUptoCard

/-- THE SECOND FORM's CARD OF 'laws.FnExactStyleNamed'. -/
def fnExactStyleNamedUptoCard : Claim7 := { stood := { row := fnExactStyleNamedUptoRow, standIns := [], harness := (true, "fe56d7564fc6fc35650d7b7380048fecd04436e2e24a65c95648e37b15c9567c"), looks := false }, kinds := [], alts := [], laidByText := true, laidKinds := [.data, .pinned], laidTests := true, laidLooks := .later }
def FnExactStyleNamedUptoCardSaid : Prop := Claim7.holds Tryd.pinned (.plain (OpenSpec.upto fnExactStyleNamedSpec)) fnExactStyleNamedUptoCard

/-- THE SECOND FORM's CARD OF 'laws.FnExactReadOrdinal'. -/
def fnExactReadOrdinalUptoCard : Claim7 := { stood := { row := fnExactReadOrdinalUptoRow, standIns := [], harness := (true, "fe56d7564fc6fc35650d7b7380048fecd04436e2e24a65c95648e37b15c9567c"), looks := false }, kinds := [], alts := [], laidByText := true, laidKinds := [.data, .pinned], laidTests := true, laidLooks := .later }
def FnExactReadOrdinalUptoCardSaid : Prop := Claim7.holds Tryd.pinned (.plain (OpenSpec.upto fnExactReadOrdinalSpec)) fnExactReadOrdinalUptoCard

/-- THE SECOND FORM's CARD OF 'laws.FnExactWordDistance'. -/
def fnExactWordDistanceUptoCard : Claim7 := { stood := { row := fnExactWordDistanceUptoRow, standIns := [], harness := (true, "fe56d7564fc6fc35650d7b7380048fecd04436e2e24a65c95648e37b15c9567c"), looks := false }, kinds := [], alts := [], laidByText := true, laidKinds := [.data, .pinned], laidTests := true, laidLooks := .later }
def FnExactWordDistanceUptoCardSaid : Prop := Claim7.holds Tryd.pinned (.plain (OpenSpec.upto fnExactWordDistanceSpec)) fnExactWordDistanceUptoCard

/-- THE SECOND FORM's CARD OF 'laws.FnExactPhraseText'. -/
def fnExactPhraseTextUptoCard : Claim7 := { stood := { row := fnExactPhraseTextUptoRow, standIns := [], harness := (true, "fe56d7564fc6fc35650d7b7380048fecd04436e2e24a65c95648e37b15c9567c"), looks := false }, kinds := [], alts := [], laidByText := true, laidKinds := [.data, .pinned], laidTests := true, laidLooks := .later }
def FnExactPhraseTextUptoCardSaid : Prop := Claim7.holds Tryd.pinned (.plain (OpenSpec.upto fnExactPhraseTextSpec)) fnExactPhraseTextUptoCard

/-- THE SECOND FORM's CARD OF 'laws.FnExactOldNumeral'. -/
def fnExactOldNumeralUptoCard : Claim7 := { stood := { row := fnExactOldNumeralUptoRow, standIns := [], harness := (true, "fe56d7564fc6fc35650d7b7380048fecd04436e2e24a65c95648e37b15c9567c"), looks := false }, kinds := [], alts := [], laidByText := true, laidKinds := [.data, .pinned], laidTests := true, laidLooks := .later }
def FnExactOldNumeralUptoCardSaid : Prop := Claim7.holds Tryd.pinned (.plain (OpenSpec.upto fnExactOldNumeralSpec)) fnExactOldNumeralUptoCard

/-- THE SECOND FORM's CARD OF 'laws.FnExactReadNumeral'. -/
def fnExactReadNumeralUptoCard : Claim7 := { stood := { row := fnExactReadNumeralUptoRow, standIns := [], harness := (true, "fe56d7564fc6fc35650d7b7380048fecd04436e2e24a65c95648e37b15c9567c"), looks := false }, kinds := [], alts := [], laidByText := true, laidKinds := [.data, .pinned], laidTests := true, laidLooks := .later }
def FnExactReadNumeralUptoCardSaid : Prop := Claim7.holds Tryd.pinned (.plain (OpenSpec.upto fnExactReadNumeralSpec)) fnExactReadNumeralUptoCard

/-- THE SECOND FORM's CARD OF 'laws.FnExactSplitPhrase'. -/
def fnExactSplitPhraseUptoCard : Claim7 := { stood := { row := fnExactSplitPhraseUptoRow, standIns := [], harness := (true, "fe56d7564fc6fc35650d7b7380048fecd04436e2e24a65c95648e37b15c9567c"), looks := false }, kinds := [], alts := [], laidByText := true, laidKinds := [.data, .pinned], laidTests := true, laidLooks := .later }
def FnExactSplitPhraseUptoCardSaid : Prop := Claim7.holds Tryd.pinned (.plain (OpenSpec.upto fnExactSplitPhraseSpec)) fnExactSplitPhraseUptoCard
end Rows
end Go.Proofs.YtbejonekekpnaaaDoor
