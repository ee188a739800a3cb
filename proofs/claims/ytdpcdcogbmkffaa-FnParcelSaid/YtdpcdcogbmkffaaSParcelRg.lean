/- What a row of nodes that have spoken for a while keeps. -/
import Derived.Test.YtdpcdcogbmkffaaSParcelRf
set_option linter.unusedVariables false
set_option linter.unusedSimpArgs false
namespace Go.Sy
def NodeIn (n : Int) (r : Raft) : Prop := raftOk r = true ∧ r.of_ = n
theorem NodesIn.set {n : Int} {l : List Raft} (h : ∀ r ∈ l, NodeIn n r) (i : Nat) {q : Raft} (hq : NodeIn n q) : ∀ r ∈ l.set i q, NodeIn n r := fun r hr => by
  rcases List.mem_or_eq_of_mem_set hr with hr | rfl
  · exact h r hr
  · exact hq
end Go.Sy

