/- The laws on standing, proposing and sending, in plain words. -/
import Derived.Test.YtdpcdcogbmkffaaSParcelOp
set_option linter.unusedVariables false
set_option linter.unusedSimpArgs false
namespace Go.Sy
end Go.Sy

