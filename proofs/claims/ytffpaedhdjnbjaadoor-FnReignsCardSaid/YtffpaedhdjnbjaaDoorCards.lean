/-
  DERIVED. GIVEN WITH THE SEED: THE CARDS: each row of YtffpaedhdjnbjaaDoorRows.lean that lists a variable, with what it lists TIED to the program's text (the seventh form; the later family's looks); each row that meets fmt, with fmt's text TOLD by the authors' own Lean function (tested against real Go, not proved from fmt's source: count such statements apart). THE CARD IS WHAT COUNTS. Prove the row's statement (the work); the ties are given (YtffpaedhdjnbjaaDoorTie.lean); close each card by the builder's one call (the guide's Derived/Test/ToyasCard.lean, 'card_holds'). Laid BY PROGRAM, IN A SANDBOX (cutbox-door.mjs). By AI agents, Wed Nov 11 2026. No macro, syntax, notation, axiom, sorry.
-/
import Derived.Test.YtffpaedhdjnbjaaDoorRows
import GoSem.ClaimSeven
namespace Go.Proofs.YtffpaedhdjnbjaaDoor
namespace Rows

/-- THE TIED CARD OF 'laws.FnStyles'. -/
def fnStylesCard : Claim7 := { stood := { row := fnStylesRow, standIns := [], harness := (true, "31d6ed42bb3389f4a50398e62dc132848fb47e314fd955788f85de7b4e126370"), looks := false }, kinds := [], alts := [], laidByText := true, laidKinds := [.data, .pinned], laidTests := true, laidLooks := .later }
def FnStylesCardSaid : Prop := Claim7.holds Tryd.pinned (.plain (OpenSpec.ofChange fnStylesSpec)) fnStylesCard

/-- THE TIED CARD OF 'laws.FnExactAreReigns'. -/
def fnExactAreReignsCard : Claim7 := { stood := { row := fnExactAreReignsRow, standIns := [], harness := (true, "31d6ed42bb3389f4a50398e62dc132848fb47e314fd955788f85de7b4e126370"), looks := false }, kinds := [], alts := [], laidByText := true, laidKinds := [.data, .pinned], laidTests := true, laidLooks := .later }
def FnExactAreReignsCardSaid : Prop := Claim7.holds Tryd.pinned (.plain (OpenSpec.ofChange fnExactAreReignsSpec)) fnExactAreReignsCard

/-- THE TIED CARD OF 'laws.FnExactCountYears'. -/
def fnExactCountYearsCard : Claim7 := { stood := { row := fnExactCountYearsRow, standIns := [], harness := (true, "31d6ed42bb3389f4a50398e62dc132848fb47e314fd955788f85de7b4e126370"), looks := false }, kinds := [], alts := [], laidByText := true, laidKinds := [.data, .pinned], laidTests := true, laidLooks := .later }
def FnExactCountYearsCardSaid : Prop := Claim7.holds Tryd.pinned (.plain (OpenSpec.ofChange fnExactCountYearsSpec)) fnExactCountYearsCard

/-- THE TIED CARD OF 'laws.FnExactReignsOn'. -/
def fnExactReignsOnCard : Claim7 := { stood := { row := fnExactReignsOnRow, standIns := [], harness := (true, "31d6ed42bb3389f4a50398e62dc132848fb47e314fd955788f85de7b4e126370"), looks := false }, kinds := [], alts := [], laidByText := true, laidKinds := [.data, .pinned], laidTests := true, laidLooks := .later }
def FnExactReignsOnCardSaid : Prop := Claim7.holds Tryd.pinned (.plain (OpenSpec.ofChange fnExactReignsOnSpec)) fnExactReignsOnCard

/-- THE TIED CARD OF 'laws.FnExactRegnalYear'. -/
def fnExactRegnalYearCard : Claim7 := { stood := { row := fnExactRegnalYearRow, standIns := [], harness := (true, "31d6ed42bb3389f4a50398e62dc132848fb47e314fd955788f85de7b4e126370"), looks := false }, kinds := [], alts := [], laidByText := true, laidKinds := [.data, .pinned], laidTests := true, laidLooks := .later }
def FnExactRegnalYearCardSaid : Prop := Claim7.holds Tryd.pinned (.plain (OpenSpec.ofChange fnExactRegnalYearSpec)) fnExactRegnalYearCard

/-- THE TIED CARD OF 'laws.FnExactRegnalSpan'. -/
def fnExactRegnalSpanCard : Claim7 := { stood := { row := fnExactRegnalSpanRow, standIns := [], harness := (true, "31d6ed42bb3389f4a50398e62dc132848fb47e314fd955788f85de7b4e126370"), looks := false }, kinds := [], alts := [], laidByText := true, laidKinds := [.data, .pinned], laidTests := true, laidLooks := .later }
def FnExactRegnalSpanCardSaid : Prop := Claim7.holds Tryd.pinned (.plain (OpenSpec.ofChange fnExactRegnalSpanSpec)) fnExactRegnalSpanCard

/-- THE TIED CARD OF 'laws.FnReigns'. -/
def fnReignsCard : Claim7 := { stood := { row := fnReignsRow, standIns := [], harness := (true, "31d6ed42bb3389f4a50398e62dc132848fb47e314fd955788f85de7b4e126370"), looks := false }, kinds := [], alts := [], laidByText := true, laidKinds := [.data, .pinned], laidTests := true, laidLooks := .later }
def FnReignsCardSaid : Prop := Claim7.holds Tryd.pinned (.plain (OpenSpec.ofChange fnReignsSpec)) fnReignsCard

/-- THE TIED CARD OF 'laws.FnExactIsClause'. -/
def fnExactIsClauseCard : Claim7 := { stood := { row := fnExactIsClauseRow, standIns := [], harness := (true, "31d6ed42bb3389f4a50398e62dc132848fb47e314fd955788f85de7b4e126370"), looks := false }, kinds := [], alts := [], laidByText := true, laidKinds := [.data, .pinned], laidTests := true, laidLooks := .later }
def FnExactIsClauseCardSaid : Prop := Claim7.holds Tryd.pinned (.plain (OpenSpec.ofChange fnExactIsClauseSpec)) fnExactIsClauseCard

/-- THE SECOND FORM's CARD OF 'laws.FnStyles'. -/
def fnStylesUptoCard : Claim7 := { stood := { row := fnStylesUptoRow, standIns := [], harness := (true, "31d6ed42bb3389f4a50398e62dc132848fb47e314fd955788f85de7b4e126370"), looks := false }, kinds := [], alts := [], laidByText := true, laidKinds := [.data, .pinned], laidTests := true, laidLooks := .later }
def FnStylesUptoCardSaid : Prop := Claim7.holds Tryd.pinned (.plain (OpenSpec.upto fnStylesSpec)) fnStylesUptoCard

/-- THE SECOND FORM's CARD OF 'laws.FnExactAreReigns'. -/
def fnExactAreReignsUptoCard : Claim7 := { stood := { row := fnExactAreReignsUptoRow, standIns := [], harness := (true, "31d6ed42bb3389f4a50398e62dc132848fb47e314fd955788f85de7b4e126370"), looks := false }, kinds := [], alts := [], laidByText := true, laidKinds := [.data, .pinned], laidTests := true, laidLooks := .later }
def FnExactAreReignsUptoCardSaid : Prop := Claim7.holds Tryd.pinned (.plain (OpenSpec.upto fnExactAreReignsSpec)) fnExactAreReignsUptoCard

/-- THE SECOND FORM's CARD OF 'laws.FnExactCountYears'. -/
def fnExactCountYearsUptoCard : Claim7 := { stood := { row := fnExactCountYearsUptoRow, standIns := [], harness := (true, "31d6ed42bb3389f4a50398e62dc132848fb47e314fd955788f85de7b4e126370"), looks := false }, kinds := [], alts := [], laidByText := true, laidKinds := [.data, .pinned], laidTests := true, laidLooks := .later }
def FnExactCountYearsUptoCardSaid : Prop := Claim7.holds Tryd.pinned (.plain (OpenSpec.upto fnExactCountYearsSpec)) fnExactCountYearsUptoCard

/-- THE SECOND FORM's CARD OF 'laws.FnExactReignsOn'. -/
def fnExactReignsOnUptoCard : Claim7 := { stood := { row := fnExactReignsOnUptoRow, standIns := [], harness := (true, "31d6ed42bb3389f4a50398e62dc132848fb47e314fd955788f85de7b4e126370"), looks := false }, kinds := [], alts := [], laidByText := true, laidKinds := [.data, .pinned], laidTests := true, laidLooks := .later }
def FnExactReignsOnUptoCardSaid : Prop := Claim7.holds Tryd.pinned (.plain (OpenSpec.upto fnExactReignsOnSpec)) fnExactReignsOnUptoCard

/-- THE SECOND FORM's CARD OF 'laws.FnExactRegnalYear'. -/
def fnExactRegnalYearUptoCard : Claim7 := { stood := { row := fnExactRegnalYearUptoRow, standIns := [], harness := (true, "31d6ed42bb3389f4a50398e62dc132848fb47e314fd955788f85de7b4e126370"), looks := false }, kinds := [], alts := [], laidByText := true, laidKinds := [.data, .pinned], laidTests := true, laidLooks := .later }
def FnExactRegnalYearUptoCardSaid : Prop := Claim7.holds Tryd.pinned (.plain (OpenSpec.upto fnExactRegnalYearSpec)) fnExactRegnalYearUptoCard

/-- THE SECOND FORM's CARD OF 'laws.FnExactRegnalSpan'. -/
def fnExactRegnalSpanUptoCard : Claim7 := { stood := { row := fnExactRegnalSpanUptoRow, standIns := [], harness := (true, "31d6ed42bb3389f4a50398e62dc132848fb47e314fd955788f85de7b4e126370"), looks := false }, kinds := [], alts := [], laidByText := true, laidKinds := [.data, .pinned], laidTests := true, laidLooks := .later }
def FnExactRegnalSpanUptoCardSaid : Prop := Claim7.holds Tryd.pinned (.plain (OpenSpec.upto fnExactRegnalSpanSpec)) fnExactRegnalSpanUptoCard

/-- THE SECOND FORM's CARD OF 'laws.FnReigns'. -/
def fnReignsUptoCard : Claim7 := { stood := { row := fnReignsUptoRow, standIns := [], harness := (true, "31d6ed42bb3389f4a50398e62dc132848fb47e314fd955788f85de7b4e126370"), looks := false }, kinds := [], alts := [], laidByText := true, laidKinds := [.data, .pinned], laidTests := true, laidLooks := .later }
def FnReignsUptoCardSaid : Prop := Claim7.holds Tryd.pinned (.plain (OpenSpec.upto fnReignsSpec)) fnReignsUptoCard

/-- THE SECOND FORM's CARD OF 'laws.FnExactIsClause'. -/
def fnExactIsClauseUptoCard : Claim7 := { stood := { row := fnExactIsClauseUptoRow, standIns := [], harness := (true, "31d6ed42bb3389f4a50398e62dc132848fb47e314fd955788f85de7b4e126370"), looks := false }, kinds := [], alts := [], laidByText := true, laidKinds := [.data, .pinned], laidTests := true, laidLooks := .later }
def FnExactIsClauseUptoCardSaid : Prop := Claim7.holds Tryd.pinned (.plain (OpenSpec.upto fnExactIsClauseSpec)) fnExactIsClauseUptoCard
end Rows
end Go.Proofs.YtffpaedhdjnbjaaDoor
