/-
  DERIVED. GIVEN WITH THE SEED: THE CARDS: each row of YtmpgokijlikddaaGreatDoorRows.lean that lists a variable, with what it lists TIED to the program's text (the seventh form; the later family's looks); each row that meets fmt, with fmt's text TOLD by the authors' own Lean function (tested against real Go, not proved from fmt's source: count such statements apart). THE CARD IS WHAT COUNTS. Prove the row's statement (the work); the ties are given (YtmpgokijlikddaaGreatDoorTie.lean); close each card by the builder's one call (the guide's Derived/Test/ToyasCard.lean, 'card_holds'). Laid BY PROGRAM, IN A SANDBOX (cutbox-door.mjs). By AI agents, Wed Nov 11 2026. No macro, syntax, notation, axiom, sorry.
-/
import Derived.Test.YtmpgokijlikddaaGreatDoorRows
import GoSem.ClaimSeven
namespace Go.Proofs.YtmpgokijlikddaaGreatDoor
namespace Rows

/-- THE TIED CARD OF 'laws.FnReignLists'. -/
def fnReignListsCard : Claim7 := { stood := { row := fnReignListsRow, standIns := [], harness := (true, "71e5c91afdd5262c00d77f27ba12e289d70e0652b0f10beef4a9b727ed50c8b4"), looks := true }, kinds := [], alts := [], laidByText := true, laidKinds := [.data, .data, .data, .data, .pinned], laidTests := true, laidLooks := .later }
def FnReignListsCardSaid : Prop := Claim7.holds Tryz.pinned (.plain (OpenSpec.ofChange fnReignListsSpec)) fnReignListsCard

/-- THE TIED CARD OF 'laws.FnExactDoesHold'. -/
def fnExactDoesHoldCard : Claim7 := { stood := { row := fnExactDoesHoldRow, standIns := [], harness := (true, "71e5c91afdd5262c00d77f27ba12e289d70e0652b0f10beef4a9b727ed50c8b4"), looks := true }, kinds := [], alts := [], laidByText := true, laidKinds := [.data, .pinned], laidTests := true, laidLooks := .later }
def FnExactDoesHoldCardSaid : Prop := Claim7.holds Tryz.pinned (.plain (OpenSpec.ofChange fnExactDoesHoldSpec)) fnExactDoesHoldCard

/-- THE TIED CARD OF 'laws.FnPhrases'. -/
def fnPhrasesCard : Claim7 := { stood := { row := fnPhrasesRow, standIns := [], harness := (true, "71e5c91afdd5262c00d77f27ba12e289d70e0652b0f10beef4a9b727ed50c8b4"), looks := true }, kinds := [], alts := [], laidByText := true, laidKinds := [.data, .pinned], laidTests := true, laidLooks := .later }
def FnPhrasesCardSaid : Prop := Claim7.holds Tryz.pinned (.plain (OpenSpec.ofChange fnPhrasesSpec)) fnPhrasesCard

/-- THE TIED CARD OF 'laws.FnNumerals'. -/
def fnNumeralsCard : Claim7 := { stood := { row := fnNumeralsRow, standIns := [], harness := (true, "71e5c91afdd5262c00d77f27ba12e289d70e0652b0f10beef4a9b727ed50c8b4"), looks := true }, kinds := [], alts := [], laidByText := true, laidKinds := [.data, .data, .data, .data, .sentinel, .sentinel, .pinned], laidTests := true, laidLooks := .later }
def FnNumeralsCardSaid : Prop := Claim7.holds Tryz.pinned (.plain (OpenSpec.ofChange fnNumeralsSpec)) fnNumeralsCard

/-- THE SECOND FORM's CARD OF 'laws.FnReignLists'. -/
def fnReignListsUptoCard : Claim7 := { stood := { row := fnReignListsUptoRow, standIns := [], harness := (true, "71e5c91afdd5262c00d77f27ba12e289d70e0652b0f10beef4a9b727ed50c8b4"), looks := true }, kinds := [], alts := [], laidByText := true, laidKinds := [.data, .data, .data, .data, .pinned], laidTests := true, laidLooks := .later }
def FnReignListsUptoCardSaid : Prop := Claim7.holds Tryz.pinned (.plain (OpenSpec.upto fnReignListsSpec)) fnReignListsUptoCard

/-- THE SECOND FORM's CARD OF 'laws.FnExactDoesHold'. -/
def fnExactDoesHoldUptoCard : Claim7 := { stood := { row := fnExactDoesHoldUptoRow, standIns := [], harness := (true, "71e5c91afdd5262c00d77f27ba12e289d70e0652b0f10beef4a9b727ed50c8b4"), looks := true }, kinds := [], alts := [], laidByText := true, laidKinds := [.data, .pinned], laidTests := true, laidLooks := .later }
def FnExactDoesHoldUptoCardSaid : Prop := Claim7.holds Tryz.pinned (.plain (OpenSpec.upto fnExactDoesHoldSpec)) fnExactDoesHoldUptoCard

/-- THE SECOND FORM's CARD OF 'laws.FnPhrases'. -/
def fnPhrasesUptoCard : Claim7 := { stood := { row := fnPhrasesUptoRow, standIns := [], harness := (true, "71e5c91afdd5262c00d77f27ba12e289d70e0652b0f10beef4a9b727ed50c8b4"), looks := true }, kinds := [], alts := [], laidByText := true, laidKinds := [.data, .pinned], laidTests := true, laidLooks := .later }
def FnPhrasesUptoCardSaid : Prop := Claim7.holds Tryz.pinned (.plain (OpenSpec.upto fnPhrasesSpec)) fnPhrasesUptoCard

/-- THE SECOND FORM's CARD OF 'laws.FnNumerals'. -/
def fnNumeralsUptoCard : Claim7 := { stood := { row := fnNumeralsUptoRow, standIns := [], harness := (true, "71e5c91afdd5262c00d77f27ba12e289d70e0652b0f10beef4a9b727ed50c8b4"), looks := true }, kinds := [], alts := [], laidByText := true, laidKinds := [.data, .data, .data, .data, .sentinel, .sentinel, .pinned], laidTests := true, laidLooks := .later }
def FnNumeralsUptoCardSaid : Prop := Claim7.holds Tryz.pinned (.plain (OpenSpec.upto fnNumeralsSpec)) fnNumeralsUptoCard
end Rows
end Go.Proofs.YtmpgokijlikddaaGreatDoor
