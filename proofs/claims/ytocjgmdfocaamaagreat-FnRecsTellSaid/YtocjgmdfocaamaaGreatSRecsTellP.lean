/- What the functions compute, in plain words. -/
import Derived.Test.YtocjgmdfocaamaaGreatSRecsTellN
set_option linter.unusedVariables false
set_option linter.unusedSimpArgs false
namespace Go.Sy
def inR (n a b : Int) : Bool := decide (a ≤ n) && decide (n ≤ b)
def ofOk (n : Int) : Bool := n == 1 || n == 3 || n == 5
def hasI (x : Int) : List Int → Bool
  | [] => false
  | a :: l => (a == x) || hasI x l
theorem inR_iff {n a b : Int} : inR n a b = true ↔ a ≤ n ∧ n ≤ b := by simp [inR]
theorem inR_not {n a b : Int} : inR n a b = false ↔ ¬ (a ≤ n ∧ n ≤ b) := by simp [inR]
theorem noBytes : (⟨#[]⟩ : ByteArray).toList = [] := by rw [ByteArray.toList_eq]
def cmdOk (c : Cmd) : Bool :=
  if c.kind = 1 then c.release == 0 && c.node == 0 && c.size == 0 && c.digest.toList == []
  else if c.kind = 2 then inR c.release 1 1000 && inR c.size 0 1000 && c.digest.size == 32 && c.node == 0
  else if c.kind = 3 then inR c.release 1 1000 && inR c.node 0 4 && c.size == 0 && c.digest.toList == []
  else (c.kind == 4 || c.kind == 5) && inR c.release 1 1000 && c.node == 0 && c.size == 0 && c.digest.toList == []
def entOk (e : Ent) : Bool := inR e.term 1 1000000000 && cmdOk e.cmd
def asc (hi : Int) : Int → List Int → Bool
  | _, [] => true
  | p, n :: l => inR n 0 hi && decide (p < n) && asc hi n l
def logOk (t : Int) : Int → List Ent → Bool
  | _, [] => true
  | p, e :: l => decide (1 ≤ e.term) && decide (e.term ≤ t) && cmdOk e.cmd && decide (p ≤ e.term) && logOk t e.term l
def hardOk (h : Hard) : Bool := inR h.term 0 1000000000 && inR h.vote 0 5 && decide (h.log.length ≤ 80) && logOk h.term 0 h.log
def lastT (l : List Ent) : Int := ((l[l.length - 1]?).map (·.term)).getD 0
theorem lastT_take {l : List Ent} {k : Nat} {e : Ent} (hk : 0 < k) (h : l[k - 1]? = some e) : lastT (l.take k) = e.term := by
  have := (List.getElem?_eq_some_iff.1 h).1
  unfold lastT
  rw [List.length_take, show min k l.length - 1 = k - 1 from by omega, List.getElem?_take, if_pos (by omega), h]
  rfl
theorem asc_step {hi p n : Int} {l : List Int} (h : inR n 0 hi = true) (hp : p < n) : asc hi p (n :: l) = asc hi n l := by simp [asc, h, hp]
theorem asc_bad1 {hi p n : Int} {l : List Int} (h : inR n 0 hi = false) : false = asc hi p (n :: l) := by simp [asc, h]
theorem asc_bad2 {hi p n : Int} {l : List Int} (h : ¬ p < n) : false = asc hi p (n :: l) := by simp [asc, h]
theorem at_k {α : Type} {l : List α} {k : Nat} {a : α} (h : l[k]? = some a) (e : α) (_ : 0 < k + 1) (he : l[k + 1 - 1]? = some e) : e = a := by
  rw [show k + 1 - 1 = k from by omega, h] at he
  exact (Option.some.inj he).symm
end Go.Sy

