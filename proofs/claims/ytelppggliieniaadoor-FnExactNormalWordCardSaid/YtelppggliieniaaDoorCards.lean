/-
  DERIVED. GIVEN WITH THE SEED: THE CARDS: each row of YtelppggliieniaaDoorRows.lean that lists a variable, with what it lists TIED to the program's text (the seventh form; the later family's looks); each row that meets fmt, with fmt's text TOLD by the authors' own Lean function (tested against real Go, not proved from fmt's source: count such statements apart). THE CARD IS WHAT COUNTS. Prove the row's statement (the work); the ties are given (YtelppggliieniaaDoorTie.lean); close each card by the builder's one call (the guide's Derived/Test/ToyasCard.lean, 'card_holds'). Laid BY PROGRAM, IN A SANDBOX (cutbox-door.mjs). By AI agents, Wed Nov 11 2026. No macro, syntax, notation, axiom, sorry.
-/
import Derived.Test.YtelppggliieniaaDoorRows
import GoSem.ClaimSeven
namespace Go.Proofs.YtelppggliieniaaDoor
namespace Rows

/-- THE TIED CARD OF 'laws.FnExactNormalWord'. -/
def fnExactNormalWordCard : Claim7 := { stood := { row := fnExactNormalWordRow, standIns := [], harness := (true, "9a353ab3d135f917e556a1255dd0ccc14f6dd3303240ff4e032b533983ffb9df"), looks := true }, kinds := [], alts := [], laidByText := true, laidKinds := [.data, .pinned], laidTests := true, laidLooks := .later }
def FnExactNormalWordCardSaid : Prop := Claim7.holds Tryd.pinned (.plain (OpenSpec.ofChange fnExactNormalWordSpec)) fnExactNormalWordCard

/-- THE SECOND FORM's CARD OF 'laws.FnExactNormalWord'. -/
def fnExactNormalWordUptoCard : Claim7 := { stood := { row := fnExactNormalWordUptoRow, standIns := [], harness := (true, "9a353ab3d135f917e556a1255dd0ccc14f6dd3303240ff4e032b533983ffb9df"), looks := true }, kinds := [], alts := [], laidByText := true, laidKinds := [.data, .pinned], laidTests := true, laidLooks := .later }
def FnExactNormalWordUptoCardSaid : Prop := Claim7.holds Tryd.pinned (.plain (OpenSpec.upto fnExactNormalWordSpec)) fnExactNormalWordUptoCard
end Rows
end Go.Proofs.YtelppggliieniaaDoor
