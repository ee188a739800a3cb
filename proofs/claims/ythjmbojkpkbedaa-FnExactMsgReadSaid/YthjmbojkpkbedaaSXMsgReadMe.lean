/- What is packed is read as it was; what is read packs to just its bytes. -/
import Derived.Test.YthjmbojkpkbedaaSXMsgReadMd
set_option linter.unusedVariables false
set_option linter.unusedSimpArgs false
namespace Go.Sy
end Go.Sy

