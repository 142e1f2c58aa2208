/-
  No cell of these rows narrows 'for every input' (looked for: loops, veiled, ifaces, maps, wideKeys, modest, calm, conditions, laid).
  DERIVED. THE GIVEN ROWS OF THIS SEAT. 12 by the template 'for every input the law returns true; each argument reads behind the call as it read before'; 0 by the template 'total and deterministic' (their statements: YtonihldkiecobaaTotals.lean).
  GIVEN WITH THE SEED: the statements are not yours to turn. If you find one false, say at which input.
  Laid BY PROGRAM, IN A SANDBOX (cutbox-rows.mjs): the forced cells as the released guide's own fill.sh prints them over the translation 4471c5a1c584331c… (all of the seat's roots in one cut). By AI agents, Wed Nov 11 2026. No macro, syntax, notation, axiom, sorry.
-/
import Derived.Test.YtonihldkiecobaaChecked
import GoSem.Claim
import GoSem.ClaimJoined
import GoSem.ClaimMapViews
import Derived.JoinedTies
import Derived.KernelRfl
namespace Go.Proofs.Ytonihldkiecobaa
/- THE CELL 'sum', in the pinned program and in every row, IS THE sha256 OF THE DUMP (.gsa) THAT YtonihldkiecobaaProg.lean LOADS. Nothing in Lean hashes anything: it is a label: what it is worth is what the hold of that sum in a sandbox is worth. -/
noncomputable def Try.pinned : Pinned := { name := "ytonihldkiecobaa", sum := "4471c5a1c584331c6edc0325ea85df0484843f0254dcff65fc3f83fcbc33ed31", checked := Try.checked }
namespace Rows
def none {H : Type} : Left H := { results := [], args := [] }

/-- 'laws.FnExactIsYearMark': WHATEVER THE INPUT: true; the input reads as it did. -/
def fnExactIsYearMarkSpec : ChangeSpec := { name := "fnExactIsYearMark", fn := fun _ => fun
  | [d] => { results := [.lit (.bool true)], args := [d] }
  | _ => none }
def fnExactIsYearMarkRow : OpenClaim := { program := "ytonihldkiecobaa", sum := "4471c5a1c584331c6edc0325ea85df0484843f0254dcff65fc3f83fcbc33ed31", func := "loop.example/g01034/laws.FnExactIsYearMark", spec := "fnExactIsYearMark", apart := false }
def FnExactIsYearMarkSaid : Prop := fnExactIsYearMarkRow.holds Try.pinned (OpenSpec.ofChange fnExactIsYearMarkSpec)

/-- ITS FALSE NEIGHBOUR: 'it returns false'. Refute it at one input. -/
def fnExactIsYearMarkWrong : ChangeSpec := { name := "fnExactIsYearMark", fn := fun _ => fun
  | [d] => { results := [.lit (.bool false)], args := [d] }
  | _ => none }
def FnExactIsYearMarkWrongFalsely : Prop := fnExactIsYearMarkRow.holds Try.pinned (OpenSpec.ofChange fnExactIsYearMarkWrong)

/-- 'laws.FnExactIndictionOf': WHATEVER THE INPUT: true; the input reads as it did. -/
def fnExactIndictionOfSpec : ChangeSpec := { name := "fnExactIndictionOf", fn := fun _ => fun
  | [d] => { results := [.lit (.bool true)], args := [d] }
  | _ => none }
def fnExactIndictionOfRow : OpenClaim := { program := "ytonihldkiecobaa", sum := "4471c5a1c584331c6edc0325ea85df0484843f0254dcff65fc3f83fcbc33ed31", func := "loop.example/g01034/laws.FnExactIndictionOf", spec := "fnExactIndictionOf", apart := false }
def FnExactIndictionOfSaid : Prop := fnExactIndictionOfRow.holds Try.pinned (OpenSpec.ofChange fnExactIndictionOfSpec)

/-- ITS FALSE NEIGHBOUR: 'it returns false'. Refute it at one input. -/
def fnExactIndictionOfWrong : ChangeSpec := { name := "fnExactIndictionOf", fn := fun _ => fun
  | [d] => { results := [.lit (.bool false)], args := [d] }
  | _ => none }
def FnExactIndictionOfWrongFalsely : Prop := fnExactIndictionOfRow.holds Try.pinned (OpenSpec.ofChange fnExactIndictionOfWrong)

/-- 'laws.FnExactEpactOf': WHATEVER THE INPUT: true; the input reads as it did. -/
def fnExactEpactOfSpec : ChangeSpec := { name := "fnExactEpactOf", fn := fun _ => fun
  | [d] => { results := [.lit (.bool true)], args := [d] }
  | _ => none }
def fnExactEpactOfRow : OpenClaim := { program := "ytonihldkiecobaa", sum := "4471c5a1c584331c6edc0325ea85df0484843f0254dcff65fc3f83fcbc33ed31", func := "loop.example/g01034/laws.FnExactEpactOf", spec := "fnExactEpactOf", apart := false }
def FnExactEpactOfSaid : Prop := fnExactEpactOfRow.holds Try.pinned (OpenSpec.ofChange fnExactEpactOfSpec)

/-- ITS FALSE NEIGHBOUR: 'it returns false'. Refute it at one input. -/
def fnExactEpactOfWrong : ChangeSpec := { name := "fnExactEpactOf", fn := fun _ => fun
  | [d] => { results := [.lit (.bool false)], args := [d] }
  | _ => none }
def FnExactEpactOfWrongFalsely : Prop := fnExactEpactOfRow.holds Try.pinned (OpenSpec.ofChange fnExactEpactOfWrong)

/-- 'laws.FnExactConcurrentOf': WHATEVER THE INPUT: true; the input reads as it did. -/
def fnExactConcurrentOfSpec : ChangeSpec := { name := "fnExactConcurrentOf", fn := fun _ => fun
  | [d] => { results := [.lit (.bool true)], args := [d] }
  | _ => none }
def fnExactConcurrentOfRow : OpenClaim := { program := "ytonihldkiecobaa", sum := "4471c5a1c584331c6edc0325ea85df0484843f0254dcff65fc3f83fcbc33ed31", func := "loop.example/g01034/laws.FnExactConcurrentOf", spec := "fnExactConcurrentOf", apart := false }
def FnExactConcurrentOfSaid : Prop := fnExactConcurrentOfRow.holds Try.pinned (OpenSpec.ofChange fnExactConcurrentOfSpec)

/-- ITS FALSE NEIGHBOUR: 'it returns false'. Refute it at one input. -/
def fnExactConcurrentOfWrong : ChangeSpec := { name := "fnExactConcurrentOf", fn := fun _ => fun
  | [d] => { results := [.lit (.bool false)], args := [d] }
  | _ => none }
def FnExactConcurrentOfWrongFalsely : Prop := fnExactConcurrentOfRow.holds Try.pinned (OpenSpec.ofChange fnExactConcurrentOfWrong)

/-- 'laws.FnExactMarkOf': WHATEVER THE INPUT: true; the input reads as it did. -/
def fnExactMarkOfSpec : ChangeSpec := { name := "fnExactMarkOf", fn := fun _ => fun
  | [d] => { results := [.lit (.bool true)], args := [d] }
  | _ => none }
def fnExactMarkOfRow : OpenClaim := { program := "ytonihldkiecobaa", sum := "4471c5a1c584331c6edc0325ea85df0484843f0254dcff65fc3f83fcbc33ed31", func := "loop.example/g01034/laws.FnExactMarkOf", spec := "fnExactMarkOf", apart := false }
def FnExactMarkOfSaid : Prop := fnExactMarkOfRow.holds Try.pinned (OpenSpec.ofChange fnExactMarkOfSpec)

/-- ITS FALSE NEIGHBOUR: 'it returns false'. Refute it at one input. -/
def fnExactMarkOfWrong : ChangeSpec := { name := "fnExactMarkOf", fn := fun _ => fun
  | [d] => { results := [.lit (.bool false)], args := [d] }
  | _ => none }
def FnExactMarkOfWrongFalsely : Prop := fnExactMarkOfRow.holds Try.pinned (OpenSpec.ofChange fnExactMarkOfWrong)

/-- 'laws.FnExactYearSpan': WHATEVER THE INPUT: true; the input reads as it did. -/
def fnExactYearSpanSpec : ChangeSpec := { name := "fnExactYearSpan", fn := fun _ => fun
  | [d1, d2] => { results := [.lit (.bool true)], args := [d1, d2] }
  | _ => none }
def fnExactYearSpanRow : OpenClaim := { program := "ytonihldkiecobaa", sum := "4471c5a1c584331c6edc0325ea85df0484843f0254dcff65fc3f83fcbc33ed31", func := "loop.example/g01034/laws.FnExactYearSpan", spec := "fnExactYearSpan", apart := false }
def FnExactYearSpanSaid : Prop := fnExactYearSpanRow.holds Try.pinned (OpenSpec.ofChange fnExactYearSpanSpec)

/-- ITS FALSE NEIGHBOUR: 'it returns false'. Refute it at one input. -/
def fnExactYearSpanWrong : ChangeSpec := { name := "fnExactYearSpan", fn := fun _ => fun
  | [d1, d2] => { results := [.lit (.bool false)], args := [d1, d2] }
  | _ => none }
def FnExactYearSpanWrongFalsely : Prop := fnExactYearSpanRow.holds Try.pinned (OpenSpec.ofChange fnExactYearSpanWrong)

/-- 'laws.FnExactIndictionOn': WHATEVER THE INPUT: true; the input reads as it did. -/
def fnExactIndictionOnSpec : ChangeSpec := { name := "fnExactIndictionOn", fn := fun _ => fun
  | [d1, d2] => { results := [.lit (.bool true)], args := [d1, d2] }
  | _ => none }
def fnExactIndictionOnRow : OpenClaim := { program := "ytonihldkiecobaa", sum := "4471c5a1c584331c6edc0325ea85df0484843f0254dcff65fc3f83fcbc33ed31", func := "loop.example/g01034/laws.FnExactIndictionOn", spec := "fnExactIndictionOn", unfollowed := true, recurses := true, apart := false }
def FnExactIndictionOnSaid : Prop := fnExactIndictionOnRow.holds Try.pinned (OpenSpec.ofChange fnExactIndictionOnSpec)

/-- ITS FALSE NEIGHBOUR: 'it returns false'. Refute it at one input. -/
def fnExactIndictionOnWrong : ChangeSpec := { name := "fnExactIndictionOn", fn := fun _ => fun
  | [d1, d2] => { results := [.lit (.bool false)], args := [d1, d2] }
  | _ => none }
def FnExactIndictionOnWrongFalsely : Prop := fnExactIndictionOnRow.holds Try.pinned (OpenSpec.ofChange fnExactIndictionOnWrong)

/-- 'laws.FnExactYearsMarked': WHATEVER THE INPUT: true; the input reads as it did. -/
def fnExactYearsMarkedSpec : ChangeSpec := { name := "fnExactYearsMarked", fn := fun _ => fun
  | [d1, d2, d3] => { results := [.lit (.bool true)], args := [d1, d2, d3] }
  | _ => none }
def fnExactYearsMarkedRow : OpenClaim := { program := "ytonihldkiecobaa", sum := "4471c5a1c584331c6edc0325ea85df0484843f0254dcff65fc3f83fcbc33ed31", func := "loop.example/g01034/laws.FnExactYearsMarked", spec := "fnExactYearsMarked", apart := false }
def FnExactYearsMarkedSaid : Prop := fnExactYearsMarkedRow.holds Try.pinned (OpenSpec.ofChange fnExactYearsMarkedSpec)

/-- ITS FALSE NEIGHBOUR: 'it returns false'. Refute it at one input. -/
def fnExactYearsMarkedWrong : ChangeSpec := { name := "fnExactYearsMarked", fn := fun _ => fun
  | [d1, d2, d3] => { results := [.lit (.bool false)], args := [d1, d2, d3] }
  | _ => none }
def FnExactYearsMarkedWrongFalsely : Prop := fnExactYearsMarkedRow.holds Try.pinned (OpenSpec.ofChange fnExactYearsMarkedWrong)

/-- 'laws.FnExactYearOn': WHATEVER THE INPUT: true; the input reads as it did. -/
def fnExactYearOnSpec : ChangeSpec := { name := "fnExactYearOn", fn := fun _ => fun
  | [d1, d2] => { results := [.lit (.bool true)], args := [d1, d2] }
  | _ => none }
def fnExactYearOnRow : OpenClaim := { program := "ytonihldkiecobaa", sum := "4471c5a1c584331c6edc0325ea85df0484843f0254dcff65fc3f83fcbc33ed31", func := "loop.example/g01034/laws.FnExactYearOn", spec := "fnExactYearOn", unfollowed := true, recurses := true, apart := false }
def FnExactYearOnSaid : Prop := fnExactYearOnRow.holds Try.pinned (OpenSpec.ofChange fnExactYearOnSpec)

/-- ITS FALSE NEIGHBOUR: 'it returns false'. Refute it at one input. -/
def fnExactYearOnWrong : ChangeSpec := { name := "fnExactYearOn", fn := fun _ => fun
  | [d1, d2] => { results := [.lit (.bool false)], args := [d1, d2] }
  | _ => none }
def FnExactYearOnWrongFalsely : Prop := fnExactYearOnRow.holds Try.pinned (OpenSpec.ofChange fnExactYearOnWrong)

/-- 'laws.FnExactYearDifference': WHATEVER THE INPUT: true; the input reads as it did. -/
def fnExactYearDifferenceSpec : ChangeSpec := { name := "fnExactYearDifference", fn := fun _ => fun
  | [d1, d2, d3] => { results := [.lit (.bool true)], args := [d1, d2, d3] }
  | _ => none }
def fnExactYearDifferenceRow : OpenClaim := { program := "ytonihldkiecobaa", sum := "4471c5a1c584331c6edc0325ea85df0484843f0254dcff65fc3f83fcbc33ed31", func := "loop.example/g01034/laws.FnExactYearDifference", spec := "fnExactYearDifference", unfollowed := true, recurses := true, apart := false }
def FnExactYearDifferenceSaid : Prop := fnExactYearDifferenceRow.holds Try.pinned (OpenSpec.ofChange fnExactYearDifferenceSpec)

/-- ITS FALSE NEIGHBOUR: 'it returns false'. Refute it at one input. -/
def fnExactYearDifferenceWrong : ChangeSpec := { name := "fnExactYearDifference", fn := fun _ => fun
  | [d1, d2, d3] => { results := [.lit (.bool false)], args := [d1, d2, d3] }
  | _ => none }
def FnExactYearDifferenceWrongFalsely : Prop := fnExactYearDifferenceRow.holds Try.pinned (OpenSpec.ofChange fnExactYearDifferenceWrong)

/-- 'laws.FnExactDaysWith': WHATEVER THE INPUT: true; the input reads as it did. -/
def fnExactDaysWithSpec : ChangeSpec := { name := "fnExactDaysWith", fn := fun _ => fun
  | [d1, d2, d3, d4] => { results := [.lit (.bool true)], args := [d1, d2, d3, d4] }
  | _ => none }
def fnExactDaysWithRow : OpenClaim := { program := "ytonihldkiecobaa", sum := "4471c5a1c584331c6edc0325ea85df0484843f0254dcff65fc3f83fcbc33ed31", func := "loop.example/g01034/laws.FnExactDaysWith", spec := "fnExactDaysWith", apart := false }
def FnExactDaysWithSaid : Prop := fnExactDaysWithRow.holds Try.pinned (OpenSpec.ofChange fnExactDaysWithSpec)

/-- ITS FALSE NEIGHBOUR: 'it returns false'. Refute it at one input. -/
def fnExactDaysWithWrong : ChangeSpec := { name := "fnExactDaysWith", fn := fun _ => fun
  | [d1, d2, d3, d4] => { results := [.lit (.bool false)], args := [d1, d2, d3, d4] }
  | _ => none }
def FnExactDaysWithWrongFalsely : Prop := fnExactDaysWithRow.holds Try.pinned (OpenSpec.ofChange fnExactDaysWithWrong)

/-- 'laws.FnExactStylesFor': WHATEVER THE INPUT: true; the input reads as it did. -/
def fnExactStylesForSpec : ChangeSpec := { name := "fnExactStylesFor", fn := fun _ => fun
  | [d1, d2] => { results := [.lit (.bool true)], args := [d1, d2] }
  | _ => none }
def fnExactStylesForRow : OpenClaim := { program := "ytonihldkiecobaa", sum := "4471c5a1c584331c6edc0325ea85df0484843f0254dcff65fc3f83fcbc33ed31", func := "loop.example/g01034/laws.FnExactStylesFor", spec := "fnExactStylesFor", unfollowed := true, recurses := true, apart := false }
def FnExactStylesForSaid : Prop := fnExactStylesForRow.holds Try.pinned (OpenSpec.ofChange fnExactStylesForSpec)

/-- ITS FALSE NEIGHBOUR: 'it returns false'. Refute it at one input. -/
def fnExactStylesForWrong : ChangeSpec := { name := "fnExactStylesFor", fn := fun _ => fun
  | [d1, d2] => { results := [.lit (.bool false)], args := [d1, d2] }
  | _ => none }
def FnExactStylesForWrongFalsely : Prop := fnExactStylesForRow.holds Try.pinned (OpenSpec.ofChange fnExactStylesForWrong)

/- THE SECOND FORM. 'bulk': how many values and letters a reading holds, each counted each time it is reached (what is shared counts as often as it is met; a slice's spare places count too). A statement '..UptoSaid' is the law's where the arguments, and the package variables that the reading takes, are together of bulk at most 1048576: NARROWER than '..Said'. Prove '..Said' where nothing that the law and all that it calls make is longer than what came in: it says more and counts as full. Else prove '..UptoSaid'. A law counts once. -/
mutual
def uptoBulk {H : Type} : DataW H → Nat
  | .lit (.string bytes) => bytes.length + 1
  | .lit _ => 1
  | .nil => 1
  | .ptr d => uptoBulk d + 1
  | .slice elems spare => uptoBulkAll elems + uptoBulkAll spare + 1
  | .agg parts => uptoBulkAll parts + 1
  | .iface _ d => uptoBulk d + 1
  | .map entries => uptoBulkEntries entries + 1
  | .held _ => 1
def uptoBulkAll {H : Type} : List (DataW H) → Nat
  | [] => 0
  | d :: r => uptoBulk d + uptoBulkAll r
def uptoBulkEntries {H : Type} : List (Lit × DataW H) → Nat
  | [] => 0
  | x :: r => uptoBulkEntry x + uptoBulkEntries r
def uptoBulkEntry {H : Type} : Lit × DataW H → Nat
  | (.string bytes, d) => bytes.length + uptoBulk d + 1
  | (_, d) => uptoBulk d + 1
 end
def uptoSmall : (H : Type) → List (DataW H) → Bool := fun _ ds => decide (uptoBulkAll ds ≤ 1048576)
def OpenSpec.upto (s : _root_.Go.ChangeSpec) : _root_.Go.OpenSpec := { _root_.Go.OpenSpec.ofChange s with cond := some uptoSmall }

/-- 'laws.FnExactIsYearMark', WHERE WHAT IT READS IS OF BULK AT MOST 1048576: true; the input reads as it did. -/
def fnExactIsYearMarkUptoRow : OpenClaim := { program := "ytonihldkiecobaa", sum := "4471c5a1c584331c6edc0325ea85df0484843f0254dcff65fc3f83fcbc33ed31", func := "loop.example/g01034/laws.FnExactIsYearMark", spec := "fnExactIsYearMark", apart := false, narrowed := true }
def FnExactIsYearMarkUptoSaid : Prop := fnExactIsYearMarkUptoRow.holds Try.pinned (OpenSpec.upto fnExactIsYearMarkSpec)

/-- 'laws.FnExactIndictionOf', WHERE WHAT IT READS IS OF BULK AT MOST 1048576: true; the input reads as it did. -/
def fnExactIndictionOfUptoRow : OpenClaim := { program := "ytonihldkiecobaa", sum := "4471c5a1c584331c6edc0325ea85df0484843f0254dcff65fc3f83fcbc33ed31", func := "loop.example/g01034/laws.FnExactIndictionOf", spec := "fnExactIndictionOf", apart := false, narrowed := true }
def FnExactIndictionOfUptoSaid : Prop := fnExactIndictionOfUptoRow.holds Try.pinned (OpenSpec.upto fnExactIndictionOfSpec)

/-- 'laws.FnExactEpactOf', WHERE WHAT IT READS IS OF BULK AT MOST 1048576: true; the input reads as it did. -/
def fnExactEpactOfUptoRow : OpenClaim := { program := "ytonihldkiecobaa", sum := "4471c5a1c584331c6edc0325ea85df0484843f0254dcff65fc3f83fcbc33ed31", func := "loop.example/g01034/laws.FnExactEpactOf", spec := "fnExactEpactOf", apart := false, narrowed := true }
def FnExactEpactOfUptoSaid : Prop := fnExactEpactOfUptoRow.holds Try.pinned (OpenSpec.upto fnExactEpactOfSpec)

/-- 'laws.FnExactConcurrentOf', WHERE WHAT IT READS IS OF BULK AT MOST 1048576: true; the input reads as it did. -/
def fnExactConcurrentOfUptoRow : OpenClaim := { program := "ytonihldkiecobaa", sum := "4471c5a1c584331c6edc0325ea85df0484843f0254dcff65fc3f83fcbc33ed31", func := "loop.example/g01034/laws.FnExactConcurrentOf", spec := "fnExactConcurrentOf", apart := false, narrowed := true }
def FnExactConcurrentOfUptoSaid : Prop := fnExactConcurrentOfUptoRow.holds Try.pinned (OpenSpec.upto fnExactConcurrentOfSpec)

/-- 'laws.FnExactMarkOf', WHERE WHAT IT READS IS OF BULK AT MOST 1048576: true; the input reads as it did. -/
def fnExactMarkOfUptoRow : OpenClaim := { program := "ytonihldkiecobaa", sum := "4471c5a1c584331c6edc0325ea85df0484843f0254dcff65fc3f83fcbc33ed31", func := "loop.example/g01034/laws.FnExactMarkOf", spec := "fnExactMarkOf", apart := false, narrowed := true }
def FnExactMarkOfUptoSaid : Prop := fnExactMarkOfUptoRow.holds Try.pinned (OpenSpec.upto fnExactMarkOfSpec)

/-- 'laws.FnExactYearSpan', WHERE WHAT IT READS IS OF BULK AT MOST 1048576: true; the input reads as it did. -/
def fnExactYearSpanUptoRow : OpenClaim := { program := "ytonihldkiecobaa", sum := "4471c5a1c584331c6edc0325ea85df0484843f0254dcff65fc3f83fcbc33ed31", func := "loop.example/g01034/laws.FnExactYearSpan", spec := "fnExactYearSpan", apart := false, narrowed := true }
def FnExactYearSpanUptoSaid : Prop := fnExactYearSpanUptoRow.holds Try.pinned (OpenSpec.upto fnExactYearSpanSpec)

/-- 'laws.FnExactIndictionOn', WHERE WHAT IT READS IS OF BULK AT MOST 1048576: true; the input reads as it did. -/
def fnExactIndictionOnUptoRow : OpenClaim := { program := "ytonihldkiecobaa", sum := "4471c5a1c584331c6edc0325ea85df0484843f0254dcff65fc3f83fcbc33ed31", func := "loop.example/g01034/laws.FnExactIndictionOn", spec := "fnExactIndictionOn", unfollowed := true, recurses := true, apart := false, narrowed := true }
def FnExactIndictionOnUptoSaid : Prop := fnExactIndictionOnUptoRow.holds Try.pinned (OpenSpec.upto fnExactIndictionOnSpec)

/-- 'laws.FnExactYearsMarked', WHERE WHAT IT READS IS OF BULK AT MOST 1048576: true; the input reads as it did. -/
def fnExactYearsMarkedUptoRow : OpenClaim := { program := "ytonihldkiecobaa", sum := "4471c5a1c584331c6edc0325ea85df0484843f0254dcff65fc3f83fcbc33ed31", func := "loop.example/g01034/laws.FnExactYearsMarked", spec := "fnExactYearsMarked", apart := false, narrowed := true }
def FnExactYearsMarkedUptoSaid : Prop := fnExactYearsMarkedUptoRow.holds Try.pinned (OpenSpec.upto fnExactYearsMarkedSpec)

/-- 'laws.FnExactYearOn', WHERE WHAT IT READS IS OF BULK AT MOST 1048576: true; the input reads as it did. -/
def fnExactYearOnUptoRow : OpenClaim := { program := "ytonihldkiecobaa", sum := "4471c5a1c584331c6edc0325ea85df0484843f0254dcff65fc3f83fcbc33ed31", func := "loop.example/g01034/laws.FnExactYearOn", spec := "fnExactYearOn", unfollowed := true, recurses := true, apart := false, narrowed := true }
def FnExactYearOnUptoSaid : Prop := fnExactYearOnUptoRow.holds Try.pinned (OpenSpec.upto fnExactYearOnSpec)

/-- 'laws.FnExactYearDifference', WHERE WHAT IT READS IS OF BULK AT MOST 1048576: true; the input reads as it did. -/
def fnExactYearDifferenceUptoRow : OpenClaim := { program := "ytonihldkiecobaa", sum := "4471c5a1c584331c6edc0325ea85df0484843f0254dcff65fc3f83fcbc33ed31", func := "loop.example/g01034/laws.FnExactYearDifference", spec := "fnExactYearDifference", unfollowed := true, recurses := true, apart := false, narrowed := true }
def FnExactYearDifferenceUptoSaid : Prop := fnExactYearDifferenceUptoRow.holds Try.pinned (OpenSpec.upto fnExactYearDifferenceSpec)

/-- 'laws.FnExactDaysWith', WHERE WHAT IT READS IS OF BULK AT MOST 1048576: true; the input reads as it did. -/
def fnExactDaysWithUptoRow : OpenClaim := { program := "ytonihldkiecobaa", sum := "4471c5a1c584331c6edc0325ea85df0484843f0254dcff65fc3f83fcbc33ed31", func := "loop.example/g01034/laws.FnExactDaysWith", spec := "fnExactDaysWith", apart := false, narrowed := true }
def FnExactDaysWithUptoSaid : Prop := fnExactDaysWithUptoRow.holds Try.pinned (OpenSpec.upto fnExactDaysWithSpec)

/-- 'laws.FnExactStylesFor', WHERE WHAT IT READS IS OF BULK AT MOST 1048576: true; the input reads as it did. -/
def fnExactStylesForUptoRow : OpenClaim := { program := "ytonihldkiecobaa", sum := "4471c5a1c584331c6edc0325ea85df0484843f0254dcff65fc3f83fcbc33ed31", func := "loop.example/g01034/laws.FnExactStylesFor", spec := "fnExactStylesFor", unfollowed := true, recurses := true, apart := false, narrowed := true }
def FnExactStylesForUptoSaid : Prop := fnExactStylesForUptoRow.holds Try.pinned (OpenSpec.upto fnExactStylesForSpec)

end Rows
end Go.Proofs.Ytonihldkiecobaa
