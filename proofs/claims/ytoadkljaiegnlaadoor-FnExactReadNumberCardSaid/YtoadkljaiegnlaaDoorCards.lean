/-
  DERIVED. GIVEN WITH THE SEED: THE CARDS: each row of YtoadkljaiegnlaaDoorRows.lean that lists a variable, with what it lists TIED to the program's text (the seventh form; the later family's looks); each row that meets fmt, with fmt's text TOLD by the authors' own Lean function (tested against real Go, not proved from fmt's source: count such statements apart). THE CARD IS WHAT COUNTS. Prove the row's statement (the work); the ties are given (YtoadkljaiegnlaaDoorTie.lean); close each card by the builder's one call (the guide's Derived/Test/ToyasCard.lean, 'card_holds'). Laid BY PROGRAM, IN A SANDBOX (cutbox-door.mjs). By AI agents, Wed Nov 11 2026. No macro, syntax, notation, axiom, sorry.
-/
import Derived.Test.YtoadkljaiegnlaaDoorRows
import GoSem.ClaimSeven
namespace Go.Proofs.YtoadkljaiegnlaaDoor
namespace Rows

/-- THE TIED CARD OF 'laws.FnExactRegnalText'. -/
def fnExactRegnalTextCard : Claim7 := { stood := { row := fnExactRegnalTextRow, standIns := [], harness := (true, "d5dfcf4a86ec004a98cda433e96d90474cb6788a14da5f17697d94bfc72a0ea7"), looks := true }, kinds := [], alts := [], laidByText := true, laidKinds := [.data, .data, .data, .data, .pinned], laidTests := true, laidLooks := .later }
def FnExactRegnalTextCardSaid : Prop := Claim7.holds Tryd.pinned (.plain (OpenSpec.ofChange fnExactRegnalTextSpec)) fnExactRegnalTextCard

/-- THE TIED CARD OF 'laws.FnExactKingYearSet'. -/
def fnExactKingYearSetCard : Claim7 := { stood := { row := fnExactKingYearSetRow, standIns := [], harness := (true, "d5dfcf4a86ec004a98cda433e96d90474cb6788a14da5f17697d94bfc72a0ea7"), looks := true }, kinds := [], alts := [], laidByText := true, laidKinds := [.data, .pinned], laidTests := true, laidLooks := .later }
def FnExactKingYearSetCardSaid : Prop := Claim7.holds Tryd.pinned (.plain (OpenSpec.ofChange fnExactKingYearSetSpec)) fnExactKingYearSetCard

/-- THE TIED CARD OF 'laws.FnExactVoidDays'. -/
def fnExactVoidDaysCard : Claim7 := { stood := { row := fnExactVoidDaysRow, standIns := [], harness := (true, "d5dfcf4a86ec004a98cda433e96d90474cb6788a14da5f17697d94bfc72a0ea7"), looks := true }, kinds := [], alts := [], laidByText := true, laidKinds := [.data, .pinned], laidTests := true, laidLooks := .later }
def FnExactVoidDaysCardSaid : Prop := Claim7.holds Tryd.pinned (.plain (OpenSpec.ofChange fnExactVoidDaysSpec)) fnExactVoidDaysCard

/-- THE TIED CARD OF 'laws.FnExactDisputedDays'. -/
def fnExactDisputedDaysCard : Claim7 := { stood := { row := fnExactDisputedDaysRow, standIns := [], harness := (true, "d5dfcf4a86ec004a98cda433e96d90474cb6788a14da5f17697d94bfc72a0ea7"), looks := true }, kinds := [], alts := [], laidByText := true, laidKinds := [.data, .pinned], laidTests := true, laidLooks := .later }
def FnExactDisputedDaysCardSaid : Prop := Claim7.holds Tryd.pinned (.plain (OpenSpec.ofChange fnExactDisputedDaysSpec)) fnExactDisputedDaysCard

/-- THE TIED CARD OF 'laws.FnExactReadNumber'. -/
def fnExactReadNumberCard : Claim7 := { stood := { row := fnExactReadNumberRow, standIns := [], harness := (true, "d5dfcf4a86ec004a98cda433e96d90474cb6788a14da5f17697d94bfc72a0ea7"), looks := true }, kinds := [], alts := [], laidByText := true, laidKinds := [.data, .data, .data, .data, .sentinel, .sentinel, .pinned], laidTests := true, laidLooks := .later }
def FnExactReadNumberCardSaid : Prop := Claim7.holds Tryd.pinned (.plain (OpenSpec.ofChange fnExactReadNumberSpec)) fnExactReadNumberCard

/-- THE TIED CARD OF 'laws.FnExactNormalWord'. -/
def fnExactNormalWordCard : Claim7 := { stood := { row := fnExactNormalWordRow, standIns := [], harness := (true, "d5dfcf4a86ec004a98cda433e96d90474cb6788a14da5f17697d94bfc72a0ea7"), looks := true }, kinds := [], alts := [], laidByText := true, laidKinds := [.data, .pinned], laidTests := true, laidLooks := .later }
def FnExactNormalWordCardSaid : Prop := Claim7.holds Tryd.pinned (.plain (OpenSpec.ofChange fnExactNormalWordSpec)) fnExactNormalWordCard

/-- THE SECOND FORM's CARD OF 'laws.FnExactRegnalText'. -/
def fnExactRegnalTextUptoCard : Claim7 := { stood := { row := fnExactRegnalTextUptoRow, standIns := [], harness := (true, "d5dfcf4a86ec004a98cda433e96d90474cb6788a14da5f17697d94bfc72a0ea7"), looks := true }, kinds := [], alts := [], laidByText := true, laidKinds := [.data, .data, .data, .data, .pinned], laidTests := true, laidLooks := .later }
def FnExactRegnalTextUptoCardSaid : Prop := Claim7.holds Tryd.pinned (.plain (OpenSpec.upto fnExactRegnalTextSpec)) fnExactRegnalTextUptoCard

/-- THE SECOND FORM's CARD OF 'laws.FnExactKingYearSet'. -/
def fnExactKingYearSetUptoCard : Claim7 := { stood := { row := fnExactKingYearSetUptoRow, standIns := [], harness := (true, "d5dfcf4a86ec004a98cda433e96d90474cb6788a14da5f17697d94bfc72a0ea7"), looks := true }, kinds := [], alts := [], laidByText := true, laidKinds := [.data, .pinned], laidTests := true, laidLooks := .later }
def FnExactKingYearSetUptoCardSaid : Prop := Claim7.holds Tryd.pinned (.plain (OpenSpec.upto fnExactKingYearSetSpec)) fnExactKingYearSetUptoCard

/-- THE SECOND FORM's CARD OF 'laws.FnExactVoidDays'. -/
def fnExactVoidDaysUptoCard : Claim7 := { stood := { row := fnExactVoidDaysUptoRow, standIns := [], harness := (true, "d5dfcf4a86ec004a98cda433e96d90474cb6788a14da5f17697d94bfc72a0ea7"), looks := true }, kinds := [], alts := [], laidByText := true, laidKinds := [.data, .pinned], laidTests := true, laidLooks := .later }
def FnExactVoidDaysUptoCardSaid : Prop := Claim7.holds Tryd.pinned (.plain (OpenSpec.upto fnExactVoidDaysSpec)) fnExactVoidDaysUptoCard

/-- THE SECOND FORM's CARD OF 'laws.FnExactDisputedDays'. -/
def fnExactDisputedDaysUptoCard : Claim7 := { stood := { row := fnExactDisputedDaysUptoRow, standIns := [], harness := (true, "d5dfcf4a86ec004a98cda433e96d90474cb6788a14da5f17697d94bfc72a0ea7"), looks := true }, kinds := [], alts := [], laidByText := true, laidKinds := [.data, .pinned], laidTests := true, laidLooks := .later }
def FnExactDisputedDaysUptoCardSaid : Prop := Claim7.holds Tryd.pinned (.plain (OpenSpec.upto fnExactDisputedDaysSpec)) fnExactDisputedDaysUptoCard

/-- THE SECOND FORM's CARD OF 'laws.FnExactReadNumber'. -/
def fnExactReadNumberUptoCard : Claim7 := { stood := { row := fnExactReadNumberUptoRow, standIns := [], harness := (true, "d5dfcf4a86ec004a98cda433e96d90474cb6788a14da5f17697d94bfc72a0ea7"), looks := true }, kinds := [], alts := [], laidByText := true, laidKinds := [.data, .data, .data, .data, .sentinel, .sentinel, .pinned], laidTests := true, laidLooks := .later }
def FnExactReadNumberUptoCardSaid : Prop := Claim7.holds Tryd.pinned (.plain (OpenSpec.upto fnExactReadNumberSpec)) fnExactReadNumberUptoCard

/-- THE SECOND FORM's CARD OF 'laws.FnExactNormalWord'. -/
def fnExactNormalWordUptoCard : Claim7 := { stood := { row := fnExactNormalWordUptoRow, standIns := [], harness := (true, "d5dfcf4a86ec004a98cda433e96d90474cb6788a14da5f17697d94bfc72a0ea7"), looks := true }, kinds := [], alts := [], laidByText := true, laidKinds := [.data, .pinned], laidTests := true, laidLooks := .later }
def FnExactNormalWordUptoCardSaid : Prop := Claim7.holds Tryd.pinned (.plain (OpenSpec.upto fnExactNormalWordSpec)) fnExactNormalWordUptoCard
end Rows
end Go.Proofs.YtoadkljaiegnlaaDoor
