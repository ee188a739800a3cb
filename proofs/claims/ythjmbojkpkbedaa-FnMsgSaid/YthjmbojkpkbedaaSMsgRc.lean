/- What the functions of a node compute, part 3: entries that are sent. -/
import Derived.Test.YthjmbojkpkbedaaSMsgRb
set_option linter.unusedVariables false
set_option linter.unusedSimpArgs false
namespace Go.Sy
def rest (r : Raft) : Raft := { r with role := 1, yes := [], next := [], match_ := [] }
end Go.Sy

