/- Messages as bytes: what the two sides pack. -/
import Derived.Test.YtdpcdcogbmkffaaSParcelMa
set_option linter.unusedVariables false
set_option linter.unusedSimpArgs false
namespace Go.Sy
theorem u8Of_mod (x : Int) : u8Of (x % 256) = u8Of x := by unfold u8Of; rw [Int.emod_emod_of_dvd x (by omega)]
end Go.Sy

