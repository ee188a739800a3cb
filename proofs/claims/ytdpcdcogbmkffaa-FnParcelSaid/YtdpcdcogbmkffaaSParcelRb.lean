/- What the functions of a node compute, part 2: who has got how much, what is held by most. -/
import Derived.Test.YtdpcdcogbmkffaaSParcelR
set_option linter.unusedVariables false
set_option linter.unusedSimpArgs false
namespace Go.Sy
def cntGe (l : List Int) (n : Int) : Int := (l.countP (fun x => decide (x ≥ n)) : Nat)
def mostB (r : Raft) (n : Int) : Bool := decide (2 * cntGe r.match_ n > r.of_) && termAt r.hard.log n == r.hard.term
def commitGo (r : Raft) : Nat → Int
  | 0 => r.commit
  | k + 1 => if ((k : Int) + 1) > r.commit then (if mostB r (k + 1) = true then (k : Int) + 1 else commitGo r k) else r.commit
def commitOf (r : Raft) : Int := commitGo r r.hard.log.length
theorem commitGo_end {r : Raft} {n : Int} (h : ¬ n > r.commit) (h0 : 0 ≤ n) : commitGo r n.toNat = r.commit := by
  cases hk : n.toNat with
  | zero => rfl
  | succ k => unfold commitGo; rw [if_neg (by omega)]
theorem commitGo_go {r : Raft} {n : Int} (h : n > r.commit) (h0 : 0 < n) : commitGo r n.toNat = if mostB r n = true then n else commitGo r (n - 1).toNat := by
  obtain ⟨k, rfl⟩ : ∃ k : Nat, n = (k : Int) + 1 := ⟨(n - 1).toNat, by omega⟩
  have e1 : ((k : Int) + 1).toNat = k + 1 := by omega
  have e2 : ((k : Int) + 1 - 1).toNat = k := by omega
  rw [e1, e2]
  conv => lhs; unfold commitGo
  rw [if_pos h]
def CInv (r : Raft) (n c : Int) : Prop := (c = r.commit ∧ 0 ≤ n ∧ commitOf r = commitGo r n.toNat) ∨ (n ≤ c ∧ c = commitOf r)
theorem CInv.start (r : Raft) : CInv r r.hard.log.length r.commit := .inl ⟨rfl, by omega, by simp [commitOf]⟩
theorem CInv.skip {r : Raft} {n c : Int} (h : CInv r n c) (hn : n > c) (h0 : 0 ≤ c) (hb : mostB r n = false) : CInv r (n - 1) c := by
  rcases h with ⟨h1, h2, h3⟩ | ⟨h1, h2⟩
  · refine .inl ⟨h1, by omega, ?_⟩
    rw [h3, commitGo_go (by omega) (by omega), hb]
    rfl
  · omega
theorem CInv.take {r : Raft} {n c : Int} (h : CInv r n c) (hn : n > c) (h0 : 0 ≤ c) (hb : mostB r n = true) : CInv r (n - 1) n := by
  rcases h with ⟨h1, h2, h3⟩ | ⟨h1, h2⟩
  · refine .inr ⟨by omega, ?_⟩
    rw [h3, commitGo_go (by omega) (by omega), hb]
    rfl
  · omega
theorem CInv.done {r : Raft} {n c : Int} (h : CInv r n c) (hn : ¬ n > c) : c = commitOf r := by
  rcases h with ⟨h1, h2, h3⟩ | ⟨h1, h2⟩
  · rw [h3, commitGo_end (by omega) h2, h1]
  · exact h2
end Go.Sy

