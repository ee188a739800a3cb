/- What a node's steps keep: each step of a right node is a right node; what must be saved makes just what it has then. -/
import Derived.Test.YtdpcdcogbmkffaaSParcelDw
set_option linter.unusedVariables false
set_option linter.unusedSimpArgs false
namespace Go.Sy
end Go.Sy

