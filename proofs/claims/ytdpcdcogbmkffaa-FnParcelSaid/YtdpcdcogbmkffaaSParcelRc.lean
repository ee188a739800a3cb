/- What the functions of a node compute, part 3: entries that are sent. -/
import Derived.Test.YtdpcdcogbmkffaaSParcelRb
set_option linter.unusedVariables false
set_option linter.unusedSimpArgs false
namespace Go.Sy
end Go.Sy

