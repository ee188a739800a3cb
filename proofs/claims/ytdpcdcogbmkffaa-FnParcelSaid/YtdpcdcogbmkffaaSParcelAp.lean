/- append(b, s...) of a string. -/
import Derived.Test.YtdpcdcogbmkffaaSParcelRi
import Derived.Lib.AppendStr
set_option linter.unusedVariables false
set_option linter.unusedSimpArgs false
namespace Go.Sy
section
variable {P : Program}
open Go.Lib in
variable {N : Cx} {ops : Array Oper}
variable {k : Nat} {σ : Sg} {K : List Tr → Sg → Prop}
end
end Go.Sy

