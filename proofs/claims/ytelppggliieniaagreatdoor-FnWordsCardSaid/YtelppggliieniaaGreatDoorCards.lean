/-
  DERIVED. GIVEN WITH THE SEED: THE CARDS: each row of YtelppggliieniaaGreatDoorRows.lean that lists a variable, with what it lists TIED to the program's text (the seventh form; the later family's looks); each row that meets fmt, with fmt's text TOLD by the authors' own Lean function (tested against real Go, not proved from fmt's source: count such statements apart). THE CARD IS WHAT COUNTS. Prove the row's statement (the work); the ties are given (YtelppggliieniaaGreatDoorTie.lean); close each card by the builder's one call (the guide's Derived/Test/ToyasCard.lean, 'card_holds'). Laid BY PROGRAM, IN A SANDBOX (cutbox-door.mjs). By AI agents, Wed Nov 11 2026. No macro, syntax, notation, axiom, sorry.
-/
import Derived.Test.YtelppggliieniaaGreatDoorRows
import GoSem.ClaimSeven
namespace Go.Proofs.YtelppggliieniaaGreatDoor
namespace Rows

/-- THE TIED CARD OF 'laws.FnReignLists'. -/
def fnReignListsCard : Claim7 := { stood := { row := fnReignListsRow, standIns := [], harness := (true, "2e66677952f10d2769a8de6ba081cf9b39482341ca342c9cd64223ac6fc05fce"), looks := true }, kinds := [], alts := [], laidByText := true, laidKinds := [.data, .data, .data, .data, .pinned], laidTests := true, laidLooks := .later }
def FnReignListsCardSaid : Prop := Claim7.holds Tryz.pinned (.plain (OpenSpec.ofChange fnReignListsSpec)) fnReignListsCard

/-- THE TIED CARD OF 'laws.FnExactAreAlike'. -/
def fnExactAreAlikeCard : Claim7 := { stood := { row := fnExactAreAlikeRow, standIns := [], harness := (true, "2e66677952f10d2769a8de6ba081cf9b39482341ca342c9cd64223ac6fc05fce"), looks := true }, kinds := [], alts := [], laidByText := true, laidKinds := [.data, .pinned], laidTests := true, laidLooks := .later }
def FnExactAreAlikeCardSaid : Prop := Claim7.holds Tryz.pinned (.plain (OpenSpec.ofChange fnExactAreAlikeSpec)) fnExactAreAlikeCard

/-- THE TIED CARD OF 'laws.FnExactSharedWords'. -/
def fnExactSharedWordsCard : Claim7 := { stood := { row := fnExactSharedWordsRow, standIns := [], harness := (true, "2e66677952f10d2769a8de6ba081cf9b39482341ca342c9cd64223ac6fc05fce"), looks := true }, kinds := [], alts := [], laidByText := true, laidKinds := [.data, .pinned], laidTests := true, laidLooks := .later }
def FnExactSharedWordsCardSaid : Prop := Claim7.holds Tryz.pinned (.plain (OpenSpec.ofChange fnExactSharedWordsSpec)) fnExactSharedWordsCard

/-- THE TIED CARD OF 'laws.FnExactNearestWord'. -/
def fnExactNearestWordCard : Claim7 := { stood := { row := fnExactNearestWordRow, standIns := [], harness := (true, "2e66677952f10d2769a8de6ba081cf9b39482341ca342c9cd64223ac6fc05fce"), looks := true }, kinds := [], alts := [], laidByText := true, laidKinds := [.data, .pinned], laidTests := true, laidLooks := .later }
def FnExactNearestWordCardSaid : Prop := Claim7.holds Tryz.pinned (.plain (OpenSpec.ofChange fnExactNearestWordSpec)) fnExactNearestWordCard

/-- THE TIED CARD OF 'laws.FnWords'. -/
def fnWordsCard : Claim7 := { stood := { row := fnWordsRow, standIns := [], harness := (true, "2e66677952f10d2769a8de6ba081cf9b39482341ca342c9cd64223ac6fc05fce"), looks := true }, kinds := [], alts := [], laidByText := true, laidKinds := [.data, .pinned], laidTests := true, laidLooks := .later }
def FnWordsCardSaid : Prop := Claim7.holds Tryz.pinned (.plain (OpenSpec.ofChange fnWordsSpec)) fnWordsCard

/-- THE TIED CARD OF 'laws.FnExactDoesHold'. -/
def fnExactDoesHoldCard : Claim7 := { stood := { row := fnExactDoesHoldRow, standIns := [], harness := (true, "2e66677952f10d2769a8de6ba081cf9b39482341ca342c9cd64223ac6fc05fce"), looks := true }, kinds := [], alts := [], laidByText := true, laidKinds := [.data, .pinned], laidTests := true, laidLooks := .later }
def FnExactDoesHoldCardSaid : Prop := Claim7.holds Tryz.pinned (.plain (OpenSpec.ofChange fnExactDoesHoldSpec)) fnExactDoesHoldCard

/-- THE TIED CARD OF 'laws.FnPhrases'. -/
def fnPhrasesCard : Claim7 := { stood := { row := fnPhrasesRow, standIns := [], harness := (true, "2e66677952f10d2769a8de6ba081cf9b39482341ca342c9cd64223ac6fc05fce"), looks := true }, kinds := [], alts := [], laidByText := true, laidKinds := [.data, .pinned], laidTests := true, laidLooks := .later }
def FnPhrasesCardSaid : Prop := Claim7.holds Tryz.pinned (.plain (OpenSpec.ofChange fnPhrasesSpec)) fnPhrasesCard

/-- THE TIED CARD OF 'laws.FnNumerals'. -/
def fnNumeralsCard : Claim7 := { stood := { row := fnNumeralsRow, standIns := [], harness := (true, "2e66677952f10d2769a8de6ba081cf9b39482341ca342c9cd64223ac6fc05fce"), looks := true }, kinds := [], alts := [], laidByText := true, laidKinds := [.data, .data, .data, .data, .sentinel, .sentinel, .pinned], laidTests := true, laidLooks := .later }
def FnNumeralsCardSaid : Prop := Claim7.holds Tryz.pinned (.plain (OpenSpec.ofChange fnNumeralsSpec)) fnNumeralsCard

/-- THE SECOND FORM's CARD OF 'laws.FnReignLists'. -/
def fnReignListsUptoCard : Claim7 := { stood := { row := fnReignListsUptoRow, standIns := [], harness := (true, "2e66677952f10d2769a8de6ba081cf9b39482341ca342c9cd64223ac6fc05fce"), looks := true }, kinds := [], alts := [], laidByText := true, laidKinds := [.data, .data, .data, .data, .pinned], laidTests := true, laidLooks := .later }
def FnReignListsUptoCardSaid : Prop := Claim7.holds Tryz.pinned (.plain (OpenSpec.upto fnReignListsSpec)) fnReignListsUptoCard

/-- THE SECOND FORM's CARD OF 'laws.FnExactAreAlike'. -/
def fnExactAreAlikeUptoCard : Claim7 := { stood := { row := fnExactAreAlikeUptoRow, standIns := [], harness := (true, "2e66677952f10d2769a8de6ba081cf9b39482341ca342c9cd64223ac6fc05fce"), looks := true }, kinds := [], alts := [], laidByText := true, laidKinds := [.data, .pinned], laidTests := true, laidLooks := .later }
def FnExactAreAlikeUptoCardSaid : Prop := Claim7.holds Tryz.pinned (.plain (OpenSpec.upto fnExactAreAlikeSpec)) fnExactAreAlikeUptoCard

/-- THE SECOND FORM's CARD OF 'laws.FnExactSharedWords'. -/
def fnExactSharedWordsUptoCard : Claim7 := { stood := { row := fnExactSharedWordsUptoRow, standIns := [], harness := (true, "2e66677952f10d2769a8de6ba081cf9b39482341ca342c9cd64223ac6fc05fce"), looks := true }, kinds := [], alts := [], laidByText := true, laidKinds := [.data, .pinned], laidTests := true, laidLooks := .later }
def FnExactSharedWordsUptoCardSaid : Prop := Claim7.holds Tryz.pinned (.plain (OpenSpec.upto fnExactSharedWordsSpec)) fnExactSharedWordsUptoCard

/-- THE SECOND FORM's CARD OF 'laws.FnExactNearestWord'. -/
def fnExactNearestWordUptoCard : Claim7 := { stood := { row := fnExactNearestWordUptoRow, standIns := [], harness := (true, "2e66677952f10d2769a8de6ba081cf9b39482341ca342c9cd64223ac6fc05fce"), looks := true }, kinds := [], alts := [], laidByText := true, laidKinds := [.data, .pinned], laidTests := true, laidLooks := .later }
def FnExactNearestWordUptoCardSaid : Prop := Claim7.holds Tryz.pinned (.plain (OpenSpec.upto fnExactNearestWordSpec)) fnExactNearestWordUptoCard

/-- THE SECOND FORM's CARD OF 'laws.FnWords'. -/
def fnWordsUptoCard : Claim7 := { stood := { row := fnWordsUptoRow, standIns := [], harness := (true, "2e66677952f10d2769a8de6ba081cf9b39482341ca342c9cd64223ac6fc05fce"), looks := true }, kinds := [], alts := [], laidByText := true, laidKinds := [.data, .pinned], laidTests := true, laidLooks := .later }
def FnWordsUptoCardSaid : Prop := Claim7.holds Tryz.pinned (.plain (OpenSpec.upto fnWordsSpec)) fnWordsUptoCard

/-- THE SECOND FORM's CARD OF 'laws.FnExactDoesHold'. -/
def fnExactDoesHoldUptoCard : Claim7 := { stood := { row := fnExactDoesHoldUptoRow, standIns := [], harness := (true, "2e66677952f10d2769a8de6ba081cf9b39482341ca342c9cd64223ac6fc05fce"), looks := true }, kinds := [], alts := [], laidByText := true, laidKinds := [.data, .pinned], laidTests := true, laidLooks := .later }
def FnExactDoesHoldUptoCardSaid : Prop := Claim7.holds Tryz.pinned (.plain (OpenSpec.upto fnExactDoesHoldSpec)) fnExactDoesHoldUptoCard

/-- THE SECOND FORM's CARD OF 'laws.FnPhrases'. -/
def fnPhrasesUptoCard : Claim7 := { stood := { row := fnPhrasesUptoRow, standIns := [], harness := (true, "2e66677952f10d2769a8de6ba081cf9b39482341ca342c9cd64223ac6fc05fce"), looks := true }, kinds := [], alts := [], laidByText := true, laidKinds := [.data, .pinned], laidTests := true, laidLooks := .later }
def FnPhrasesUptoCardSaid : Prop := Claim7.holds Tryz.pinned (.plain (OpenSpec.upto fnPhrasesSpec)) fnPhrasesUptoCard

/-- THE SECOND FORM's CARD OF 'laws.FnNumerals'. -/
def fnNumeralsUptoCard : Claim7 := { stood := { row := fnNumeralsUptoRow, standIns := [], harness := (true, "2e66677952f10d2769a8de6ba081cf9b39482341ca342c9cd64223ac6fc05fce"), looks := true }, kinds := [], alts := [], laidByText := true, laidKinds := [.data, .data, .data, .data, .sentinel, .sentinel, .pinned], laidTests := true, laidLooks := .later }
def FnNumeralsUptoCardSaid : Prop := Claim7.holds Tryz.pinned (.plain (OpenSpec.upto fnNumeralsSpec)) fnNumeralsUptoCard
end Rows
end Go.Proofs.YtelppggliieniaaGreatDoor
