/- The laws on votes and on what is known committed, in plain words. -/
import Derived.Test.YtdpcdcogbmkffaaSXParcelWholeRg
set_option linter.unusedVariables false
set_option linter.unusedSimpArgs false
namespace Go.Sy
end Go.Sy

