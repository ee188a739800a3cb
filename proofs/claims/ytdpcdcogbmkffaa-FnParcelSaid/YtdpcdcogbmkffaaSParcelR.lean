/- What the functions of a node compute, in plain words. -/
import Derived.Test.YtdpcdcogbmkffaaSParcelW
set_option linter.unusedVariables false
set_option linter.unusedSimpArgs false
namespace Go.Sy
def termAt (l : List Ent) (n : Int) : Int := if n < 1 ∨ (l.length : Int) < n then 0 else ((l[(n - 1).toNat]?).map (·.term)).getD 0
def allIn (lo hi : Int) : List Int → Bool
  | [] => true
  | n :: l => inR n lo hi && allIn lo hi l
def zHard : Hard := ⟨0, 0, []⟩
def zRaft : Raft := ⟨0, 0, 0, 0, zHard, [], [], []⟩
def raftOk1 (r : Raft) : Bool := ofOk r.of_ && (inR r.id 0 (r.of_ - 1) && (inR r.role 1 3 && (hardOk r.hard && (inR r.commit 0 r.hard.log.length && (asc (r.of_ - 1) (-1) r.yes && !hasI r.id r.yes)))))
def raftOk2 (r : Raft) : Bool := (r.role == 2 || (r.yes.length : Int) == 0) && (r.role == 1 || (decide (1 ≤ r.hard.term) && r.hard.vote == r.id + 1))
def raftOk3 (r : Raft) : Bool := if r.role = 3 then ((r.next.length : Int) == r.of_ && allIn 1 (r.hard.log.length + 1) r.next) && ((r.match_.length : Int) == r.of_ && allIn 0 r.hard.log.length r.match_) else (r.next.length : Int) == 0 && (r.match_.length : Int) == 0
def raftOk (r : Raft) : Bool := raftOk1 r && (raftOk2 r && raftOk3 r)
def same (r : Raft) : Raft := if raftOk r = true then r else zRaft
def put (r : Raft) (e : Ent) : Raft := { r with hard := { r.hard with log := r.hard.log ++ [e] } }
end Go.Sy

