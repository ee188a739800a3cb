/- An element of an array of one's own whose slices stand open: read and written as a whole. -/
import Derived.Test.YtdpcdcogbmkffaaSParcelEz
set_option linter.unusedVariables false
set_option linter.unusedSimpArgs false
namespace Go.Sy
end Go.Sy

