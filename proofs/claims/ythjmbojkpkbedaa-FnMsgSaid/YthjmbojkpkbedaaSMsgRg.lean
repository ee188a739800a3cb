/- What a row of nodes that have spoken for a while keeps. -/
import Derived.Test.YthjmbojkpkbedaaSMsgRf
set_option linter.unusedVariables false
set_option linter.unusedSimpArgs false
namespace Go.Sy
def NodeIn (n : Int) (r : Raft) : Prop := raftOk r = true ∧ r.of_ = n
theorem NodesIn.set {n : Int} {l : List Raft} (h : ∀ r ∈ l, NodeIn n r) (i : Nat) {q : Raft} (hq : NodeIn n q) : ∀ r ∈ l.set i q, NodeIn n r := fun r hr => by
  rcases List.mem_or_eq_of_mem_set hr with hr | rfl
  · exact h r hr
  · exact hq
theorem l8F_six (k : Int) : (l8F k).size ≤ 6 := by
  unfold l8F
  split
  · rename_i h
    have h := inR_iff.1 h
    have : k.toNat = 1 ∨ k.toNat = 2 ∨ k.toNat = 3 ∨ k.toNat = 4 ∨ k.toNat = 5 ∨ k.toNat = 6 ∨ k.toNat = 7 := by omega
    rcases this with h | h | h | h | h | h | h <;> rw [h] <;> decide
  · decide
end Go.Sy

