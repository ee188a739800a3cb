/- An element read as a whole, its slices opened in the same step. -/
import Derived.Test.YtocjgmdfocaamaaGreatSRecsTellZ
set_option linter.unusedVariables false
set_option linter.unusedSimpArgs false
namespace Go.Sy
end Go.Sy

