/- The opener of a [2]int. -/
import Derived.Test.YtjlmbdhjpjbneaaO
import Derived.Lib.SmallJoins
namespace Go.Proofs.Ytjlmbdhjpjbneaa
open Go.ChangeShapes Go.WideShapes Go.ChangeAt Go.RowKit
set_option linter.unusedVariables false
set_option maxRecDepth 100000

/-- What the walk is told of a [2]int. -/
def IsArr2 (v : Value) : Prop := ∃ a b : Int, v = .agg #[.int .i64 a, .int .i64 b] ∧ (-9223372036854775808 ≤ a ∧ a ≤ 9223372036854775807) ∧ (-9223372036854775808 ≤ b ∧ b ≤ 9223372036854775807)
end Go.Proofs.Ytjlmbdhjpjbneaa
