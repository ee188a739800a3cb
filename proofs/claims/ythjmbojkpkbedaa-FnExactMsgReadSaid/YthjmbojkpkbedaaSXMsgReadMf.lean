/- What is read packs to just its bytes. -/
import Derived.Test.YthjmbojkpkbedaaSXMsgReadMe
set_option linter.unusedVariables false
set_option linter.unusedSimpArgs false
namespace Go.Sy
def Un (b : List UInt8) (a : Int) (x : List UInt8) (a' : Int) : Prop := 0 ≤ a ∧ a' = a + (x.length : Int) ∧ b.drop a.toNat = x ++ b.drop a'.toNat
theorem Un.nil {b : List UInt8} {a : Int} (h : 0 ≤ a) : Un b a [] a := ⟨h, by simp, rfl⟩
end Go.Sy

