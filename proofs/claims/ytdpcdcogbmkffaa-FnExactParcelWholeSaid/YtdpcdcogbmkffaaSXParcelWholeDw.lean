/- Runs whose result is told only up to a property: the result is chosen ahead of the run, for every state that the values describe. -/
import Derived.Test.YtdpcdcogbmkffaaSXParcelWholeY
set_option linter.unusedVariables false
set_option linter.unusedSimpArgs false
namespace Go.Sy
structure Cur where
  data : List UInt8
  pos : Int
  seed : Int
section
variable {P : Program} {N : Cx}
def LW (P : Program) (c : Code) (Q : Exit → Act → World → Prop) (a : Act) (w : World) : Prop :=
  ∀ b k cs, ∃ e a' w', Q e a' w' ∧ Arrives P (lone (b.at a (.code c :: .inLoop c :: k)) cs w) b k cs e a' w'
def AWL (P : Program) (N : Cx) (c : Code) (σ : Sg) (K : Exit → Sg → Prop) : Prop :=
  ∀ G0 w0 a w, St G0 w0 N σ a w → LW P c (fun e a' w' => ∃ σ', K e σ' ∧ St G0 w0 N σ' a' w') a w
theorem AWL.weak {c : Code} {σ σ' : Sg} {K : Exit → Sg → Prop} (hs : Sub N σ σ') (h : AWL P N c σ' K) : AWL P N c σ K := fun G0 w0 a w s => h G0 w0 a w (hs G0 w0 a w s)
end
end Go.Sy

