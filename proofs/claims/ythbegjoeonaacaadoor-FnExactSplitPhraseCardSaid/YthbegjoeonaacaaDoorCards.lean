/-
  DERIVED. GIVEN WITH THE SEED: THE CARDS: each row of YthbegjoeonaacaaDoorRows.lean that lists a variable, with what it lists TIED to the program's text (the seventh form; the later family's looks); each row that meets fmt, with fmt's text TOLD by the authors' own Lean function (tested against real Go, not proved from fmt's source: count such statements apart). THE CARD IS WHAT COUNTS. Prove the row's statement (the work); the ties are given (YthbegjoeonaacaaDoorTie.lean); close each card by the builder's one call (the guide's Derived/Test/ToyasCard.lean, 'card_holds'). Laid BY PROGRAM, IN A SANDBOX (cutbox-door.mjs). By AI agents, Wed Nov 11 2026. No macro, syntax, notation, axiom, sorry.
-/
import Derived.Test.YthbegjoeonaacaaDoorRows
import GoSem.ClaimSeven
namespace Go.Proofs.YthbegjoeonaacaaDoor
namespace Rows

/-- THE TIED CARD OF 'laws.FnExactPhraseText'. -/
def fnExactPhraseTextCard : Claim7 := { stood := { row := fnExactPhraseTextRow, standIns := [], harness := (true, "93523e325c251d68a2ed632be5b679250f723923bf95831f17646017c6d8f468"), looks := true }, kinds := [], alts := [], laidByText := true, laidKinds := [.data, .pinned], laidTests := true, laidLooks := .later }
def FnExactPhraseTextCardSaid : Prop := Claim7.holds Tryd.pinned (.plain (OpenSpec.ofChange fnExactPhraseTextSpec)) fnExactPhraseTextCard

/-- THE TIED CARD OF 'laws.FnExactReadNumeral'. -/
def fnExactReadNumeralCard : Claim7 := { stood := { row := fnExactReadNumeralRow, standIns := [], harness := (true, "93523e325c251d68a2ed632be5b679250f723923bf95831f17646017c6d8f468"), looks := true }, kinds := [], alts := [], laidByText := true, laidKinds := [.data, .pinned], laidTests := true, laidLooks := .later }
def FnExactReadNumeralCardSaid : Prop := Claim7.holds Tryd.pinned (.plain (OpenSpec.ofChange fnExactReadNumeralSpec)) fnExactReadNumeralCard

/-- THE TIED CARD OF 'laws.FnExactSplitPhrase'. -/
def fnExactSplitPhraseCard : Claim7 := { stood := { row := fnExactSplitPhraseRow, standIns := [], harness := (true, "93523e325c251d68a2ed632be5b679250f723923bf95831f17646017c6d8f468"), looks := true }, kinds := [], alts := [], laidByText := true, laidKinds := [.data, .pinned], laidTests := true, laidLooks := .later }
def FnExactSplitPhraseCardSaid : Prop := Claim7.holds Tryd.pinned (.plain (OpenSpec.ofChange fnExactSplitPhraseSpec)) fnExactSplitPhraseCard

/-- THE TIED CARD OF 'laws.FnExactNormalWord'. -/
def fnExactNormalWordCard : Claim7 := { stood := { row := fnExactNormalWordRow, standIns := [], harness := (true, "93523e325c251d68a2ed632be5b679250f723923bf95831f17646017c6d8f468"), looks := true }, kinds := [], alts := [], laidByText := true, laidKinds := [.data, .pinned], laidTests := true, laidLooks := .later }
def FnExactNormalWordCardSaid : Prop := Claim7.holds Tryd.pinned (.plain (OpenSpec.ofChange fnExactNormalWordSpec)) fnExactNormalWordCard

/-- THE TIED CARD OF 'laws.FnExactReadNumber'. -/
def fnExactReadNumberCard : Claim7 := { stood := { row := fnExactReadNumberRow, standIns := [], harness := (true, "93523e325c251d68a2ed632be5b679250f723923bf95831f17646017c6d8f468"), looks := true }, kinds := [], alts := [], laidByText := true, laidKinds := [.data, .data, .data, .data, .sentinel, .sentinel, .pinned], laidTests := true, laidLooks := .later }
def FnExactReadNumberCardSaid : Prop := Claim7.holds Tryd.pinned (.plain (OpenSpec.ofChange fnExactReadNumberSpec)) fnExactReadNumberCard

/-- THE TIED CARD OF 'laws.FnExactKingYearSet'. -/
def fnExactKingYearSetCard : Claim7 := { stood := { row := fnExactKingYearSetRow, standIns := [], harness := (true, "93523e325c251d68a2ed632be5b679250f723923bf95831f17646017c6d8f468"), looks := true }, kinds := [], alts := [], laidByText := true, laidKinds := [.data, .pinned], laidTests := true, laidLooks := .later }
def FnExactKingYearSetCardSaid : Prop := Claim7.holds Tryd.pinned (.plain (OpenSpec.ofChange fnExactKingYearSetSpec)) fnExactKingYearSetCard

/-- THE TIED CARD OF 'laws.FnExactVoidDays'. -/
def fnExactVoidDaysCard : Claim7 := { stood := { row := fnExactVoidDaysRow, standIns := [], harness := (true, "93523e325c251d68a2ed632be5b679250f723923bf95831f17646017c6d8f468"), looks := true }, kinds := [], alts := [], laidByText := true, laidKinds := [.data, .pinned], laidTests := true, laidLooks := .later }
def FnExactVoidDaysCardSaid : Prop := Claim7.holds Tryd.pinned (.plain (OpenSpec.ofChange fnExactVoidDaysSpec)) fnExactVoidDaysCard

/-- THE TIED CARD OF 'laws.FnExactDisputedDays'. -/
def fnExactDisputedDaysCard : Claim7 := { stood := { row := fnExactDisputedDaysRow, standIns := [], harness := (true, "93523e325c251d68a2ed632be5b679250f723923bf95831f17646017c6d8f468"), looks := true }, kinds := [], alts := [], laidByText := true, laidKinds := [.data, .pinned], laidTests := true, laidLooks := .later }
def FnExactDisputedDaysCardSaid : Prop := Claim7.holds Tryd.pinned (.plain (OpenSpec.ofChange fnExactDisputedDaysSpec)) fnExactDisputedDaysCard

/-- THE TIED CARD OF 'laws.FnExactRegnalText'. -/
def fnExactRegnalTextCard : Claim7 := { stood := { row := fnExactRegnalTextRow, standIns := [], harness := (true, "93523e325c251d68a2ed632be5b679250f723923bf95831f17646017c6d8f468"), looks := true }, kinds := [], alts := [], laidByText := true, laidKinds := [.data, .data, .data, .data, .pinned], laidTests := true, laidLooks := .later }
def FnExactRegnalTextCardSaid : Prop := Claim7.holds Tryd.pinned (.plain (OpenSpec.ofChange fnExactRegnalTextSpec)) fnExactRegnalTextCard

/-- THE SECOND FORM's CARD OF 'laws.FnExactPhraseText'. -/
def fnExactPhraseTextUptoCard : Claim7 := { stood := { row := fnExactPhraseTextUptoRow, standIns := [], harness := (true, "93523e325c251d68a2ed632be5b679250f723923bf95831f17646017c6d8f468"), looks := true }, kinds := [], alts := [], laidByText := true, laidKinds := [.data, .pinned], laidTests := true, laidLooks := .later }
def FnExactPhraseTextUptoCardSaid : Prop := Claim7.holds Tryd.pinned (.plain (OpenSpec.upto fnExactPhraseTextSpec)) fnExactPhraseTextUptoCard

/-- THE SECOND FORM's CARD OF 'laws.FnExactReadNumeral'. -/
def fnExactReadNumeralUptoCard : Claim7 := { stood := { row := fnExactReadNumeralUptoRow, standIns := [], harness := (true, "93523e325c251d68a2ed632be5b679250f723923bf95831f17646017c6d8f468"), looks := true }, kinds := [], alts := [], laidByText := true, laidKinds := [.data, .pinned], laidTests := true, laidLooks := .later }
def FnExactReadNumeralUptoCardSaid : Prop := Claim7.holds Tryd.pinned (.plain (OpenSpec.upto fnExactReadNumeralSpec)) fnExactReadNumeralUptoCard

/-- THE SECOND FORM's CARD OF 'laws.FnExactSplitPhrase'. -/
def fnExactSplitPhraseUptoCard : Claim7 := { stood := { row := fnExactSplitPhraseUptoRow, standIns := [], harness := (true, "93523e325c251d68a2ed632be5b679250f723923bf95831f17646017c6d8f468"), looks := true }, kinds := [], alts := [], laidByText := true, laidKinds := [.data, .pinned], laidTests := true, laidLooks := .later }
def FnExactSplitPhraseUptoCardSaid : Prop := Claim7.holds Tryd.pinned (.plain (OpenSpec.upto fnExactSplitPhraseSpec)) fnExactSplitPhraseUptoCard

/-- THE SECOND FORM's CARD OF 'laws.FnExactNormalWord'. -/
def fnExactNormalWordUptoCard : Claim7 := { stood := { row := fnExactNormalWordUptoRow, standIns := [], harness := (true, "93523e325c251d68a2ed632be5b679250f723923bf95831f17646017c6d8f468"), looks := true }, kinds := [], alts := [], laidByText := true, laidKinds := [.data, .pinned], laidTests := true, laidLooks := .later }
def FnExactNormalWordUptoCardSaid : Prop := Claim7.holds Tryd.pinned (.plain (OpenSpec.upto fnExactNormalWordSpec)) fnExactNormalWordUptoCard

/-- THE SECOND FORM's CARD OF 'laws.FnExactReadNumber'. -/
def fnExactReadNumberUptoCard : Claim7 := { stood := { row := fnExactReadNumberUptoRow, standIns := [], harness := (true, "93523e325c251d68a2ed632be5b679250f723923bf95831f17646017c6d8f468"), looks := true }, kinds := [], alts := [], laidByText := true, laidKinds := [.data, .data, .data, .data, .sentinel, .sentinel, .pinned], laidTests := true, laidLooks := .later }
def FnExactReadNumberUptoCardSaid : Prop := Claim7.holds Tryd.pinned (.plain (OpenSpec.upto fnExactReadNumberSpec)) fnExactReadNumberUptoCard

/-- THE SECOND FORM's CARD OF 'laws.FnExactKingYearSet'. -/
def fnExactKingYearSetUptoCard : Claim7 := { stood := { row := fnExactKingYearSetUptoRow, standIns := [], harness := (true, "93523e325c251d68a2ed632be5b679250f723923bf95831f17646017c6d8f468"), looks := true }, kinds := [], alts := [], laidByText := true, laidKinds := [.data, .pinned], laidTests := true, laidLooks := .later }
def FnExactKingYearSetUptoCardSaid : Prop := Claim7.holds Tryd.pinned (.plain (OpenSpec.upto fnExactKingYearSetSpec)) fnExactKingYearSetUptoCard

/-- THE SECOND FORM's CARD OF 'laws.FnExactVoidDays'. -/
def fnExactVoidDaysUptoCard : Claim7 := { stood := { row := fnExactVoidDaysUptoRow, standIns := [], harness := (true, "93523e325c251d68a2ed632be5b679250f723923bf95831f17646017c6d8f468"), looks := true }, kinds := [], alts := [], laidByText := true, laidKinds := [.data, .pinned], laidTests := true, laidLooks := .later }
def FnExactVoidDaysUptoCardSaid : Prop := Claim7.holds Tryd.pinned (.plain (OpenSpec.upto fnExactVoidDaysSpec)) fnExactVoidDaysUptoCard

/-- THE SECOND FORM's CARD OF 'laws.FnExactDisputedDays'. -/
def fnExactDisputedDaysUptoCard : Claim7 := { stood := { row := fnExactDisputedDaysUptoRow, standIns := [], harness := (true, "93523e325c251d68a2ed632be5b679250f723923bf95831f17646017c6d8f468"), looks := true }, kinds := [], alts := [], laidByText := true, laidKinds := [.data, .pinned], laidTests := true, laidLooks := .later }
def FnExactDisputedDaysUptoCardSaid : Prop := Claim7.holds Tryd.pinned (.plain (OpenSpec.upto fnExactDisputedDaysSpec)) fnExactDisputedDaysUptoCard

/-- THE SECOND FORM's CARD OF 'laws.FnExactRegnalText'. -/
def fnExactRegnalTextUptoCard : Claim7 := { stood := { row := fnExactRegnalTextUptoRow, standIns := [], harness := (true, "93523e325c251d68a2ed632be5b679250f723923bf95831f17646017c6d8f468"), looks := true }, kinds := [], alts := [], laidByText := true, laidKinds := [.data, .data, .data, .data, .pinned], laidTests := true, laidLooks := .later }
def FnExactRegnalTextUptoCardSaid : Prop := Claim7.holds Tryd.pinned (.plain (OpenSpec.upto fnExactRegnalTextSpec)) fnExactRegnalTextUptoCard
end Rows
end Go.Proofs.YthbegjoeonaacaaDoor
