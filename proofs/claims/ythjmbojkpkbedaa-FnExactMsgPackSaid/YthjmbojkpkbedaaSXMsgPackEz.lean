/- Arrays that are only read from now on; arguments under a weaker reading. -/
import Derived.Test.YthjmbojkpkbedaaSXMsgPackDw
set_option linter.unusedVariables false
set_option linter.unusedSimpArgs false
namespace Go.Sy
def frzT : V → V → Prop
  | .own _ es zs, b => b = .sl true es zs
  | a, b => a = b ∧ gV a = true
def FrzT (xs ys : List V) : Prop := xs.length = ys.length ∧ ∀ (k : Nat) (x y : V), xs[k]? = some x → ys[k]? = some y → (cl x).length = (cl y).length ∧ ∀ (j : Nat) (a b : V), (cl x)[j]? = some a → (cl y)[j]? = some b → frzT a b
theorem frzTOf {α : Type} {f g : α → V} (l : List α) (h : ∀ o, (cl (f o)).length = (cl (g o)).length ∧ ∀ (j : Nat) (a b : V), (cl (f o))[j]? = some a → (cl (g o))[j]? = some b → frzT a b) : FrzT (l.map f) (l.map g) := by
  refine ⟨by simp, fun k x y hx hy => ?_⟩
  rw [List.getElem?_map] at hx hy
  obtain ⟨o, ho, rfl⟩ := Option.map_eq_some_iff.1 hx
  rw [ho] at hy
  obtain rfl := Option.some.inj hy
  exact h o
end Go.Sy

