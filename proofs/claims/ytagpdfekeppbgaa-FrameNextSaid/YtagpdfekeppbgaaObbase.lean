/- Numbers of 64 bits. -/
import Derived.Test.YtagpdfekeppbgaaOBTF
import Derived.Test.YtagpdfekeppbgaaOM8
import Derived.Test.YtagpdfekeppbgaaOTZ
set_option linter.unusedVariables false
namespace Go.T
def I64 (n : Int) : Prop := -9223372036854775808 ≤ n ∧ n ≤ 9223372036854775807
instance (n : Int) : Decidable (I64 n) := inferInstanceAs (Decidable (_ ∧ _))
end Go.T
