/- What the functions compute, in plain words. -/
import Derived.Test.YtdpcdcogbmkffaaSParcelN
set_option linter.unusedVariables false
set_option linter.unusedSimpArgs false
namespace Go.Sy
def inR (n a b : Int) : Bool := decide (a ≤ n) && decide (n ≤ b)
def ofOk (n : Int) : Bool := n == 1 || n == 3 || n == 5
def hasI (x : Int) : List Int → Bool
  | [] => false
  | a :: l => (a == x) || hasI x l
theorem inR_iff {n a b : Int} : inR n a b = true ↔ a ≤ n ∧ n ≤ b := by simp [inR]
theorem noBytes : (⟨#[]⟩ : ByteArray).toList = [] := by rw [ByteArray.toList_eq]
def cmdOk (c : Cmd) : Bool :=
  if c.kind = 1 then c.release == 0 && c.node == 0 && c.size == 0 && c.digest.toList == []
  else if c.kind = 2 then inR c.release 1 1000 && inR c.size 0 1000 && c.digest.size == 32 && c.node == 0
  else if c.kind = 3 then inR c.release 1 1000 && inR c.node 0 4 && c.size == 0 && c.digest.toList == []
  else (c.kind == 4 || c.kind == 5) && inR c.release 1 1000 && c.node == 0 && c.size == 0 && c.digest.toList == []
def asc (hi : Int) : Int → List Int → Bool
  | _, [] => true
  | p, n :: l => inR n 0 hi && decide (p < n) && asc hi n l
def logOk (t : Int) : Int → List Ent → Bool
  | _, [] => true
  | p, e :: l => decide (1 ≤ e.term) && decide (e.term ≤ t) && cmdOk e.cmd && decide (p ≤ e.term) && logOk t e.term l
def hardOk (h : Hard) : Bool := inR h.term 0 1000000000 && inR h.vote 0 5 && decide (h.log.length ≤ 80) && logOk h.term 0 h.log
end Go.Sy

