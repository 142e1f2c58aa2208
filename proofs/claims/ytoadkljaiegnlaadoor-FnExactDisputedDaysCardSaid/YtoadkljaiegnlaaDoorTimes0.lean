/- The days that are in at least one, or two, of a list of reigns: the reference's function. Printed by walks/gen_times.py. Conditions: a valid list; how it lies. -/
import Derived.Test.YtoadkljaiegnlaaDoorKingP
import Derived.Test.YtoadkljaiegnlaaDoorAppPd
import Derived.Test.YtoadkljaiegnlaaDoorMake
import Derived.IntWalk
namespace Go.Proofs.YtoadkljaiegnlaaDoor
open Go.RowKit
theorem inn_T {S : List Sp} {i j : Nat} (h : max (S.getD i sp0).1 (S.getD j sp0).1 ≤ min (S.getD i sp0).2 (S.getD j sp0).2) : inn S i (j + 1) = inn S i j ++ [(max (S.getD i sp0).1 (S.getD j sp0).1, min (S.getD i sp0).2 (S.getD j sp0).2)] := by rw [inn, mt_T h]
theorem inn_F {S : List Sp} {i j : Nat} (h : ¬ max (S.getD i sp0).1 (S.getD j sp0).1 ≤ min (S.getD i sp0).2 (S.getD j sp0).2) : inn S i (j + 1) = inn S i j := by rw [inn, mt_F h, List.append_nil]
end Go.Proofs.YtoadkljaiegnlaaDoor
