/- What the functions of a node compute, part 4: a number put into its place. -/
import Derived.Test.YtdpcdcogbmkffaaSParcelRc
set_option linter.unusedVariables false
set_option linter.unusedSimpArgs false
namespace Go.Sy
end Go.Sy

