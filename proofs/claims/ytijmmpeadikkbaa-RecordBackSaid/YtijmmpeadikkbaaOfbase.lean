/- Numbers of 64 bits. -/
import Derived.Test.YtijmmpeadikkbaaOFTF
import Derived.Test.YtijmmpeadikkbaaOM8
import Derived.Test.YtijmmpeadikkbaaOTZ
set_option linter.unusedVariables false
namespace Go.T
def I64 (n : Int) : Prop := -9223372036854775808 ≤ n ∧ n ≤ 9223372036854775807
instance (n : Int) : Decidable (I64 n) := inferInstanceAs (Decidable (_ ∧ _))
end Go.T
