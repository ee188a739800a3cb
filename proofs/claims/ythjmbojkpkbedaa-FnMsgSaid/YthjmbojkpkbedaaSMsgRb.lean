/- What the functions of a node compute, part 2: who has got how much, what is held by most. -/
import Derived.Test.YthjmbojkpkbedaaSMsgR
set_option linter.unusedVariables false
set_option linter.unusedSimpArgs false
namespace Go.Sy
theorem num8_in {h : Bool} {x lo hi : Int} (q : num8 h x lo hi = true) (h0 : lo ≤ 0) (h1 : 0 ≤ hi) : lo ≤ x ∧ x ≤ hi := by
  unfold num8 at q
  split at q
  · exact inR_iff.1 q
  · have := beq_iff_eq.1 q; omega
theorem msgFits_nums {m : Msg} (h : msgFits m = true) : (0 ≤ m.term ∧ m.term ≤ 1000000000) ∧ (0 ≤ m.at_ ∧ m.at_ ≤ 80) ∧ (0 ≤ m.atTerm ∧ m.atTerm ≤ 1000000000) ∧ (0 ≤ m.commit ∧ m.commit ≤ 80) ∧ m.entries.length ≤ 6 := by
  simp only [msgFits, fits1, fits2, Bool.and_eq_true] at h
  obtain ⟨⟨_, _, h2, h3, h4, h5⟩, ⟨_, _, _, _, h6⟩, _⟩ := h
  have q6 := num8_in h6 (by omega) (by omega)
  exact ⟨num8_in h2 (by omega) (by omega), num8_in h3 (by omega) (by omega), num8_in h4 (by omega) (by omega), num8_in h5 (by omega) (by omega), by omega⟩
def cntGe (l : List Int) (n : Int) : Int := (l.countP (fun x => decide (x ≥ n)) : Nat)
def mostB (r : Raft) (n : Int) : Bool := decide (2 * cntGe r.match_ n > r.of_) && termAt r.hard.log n == r.hard.term
def commitGo (r : Raft) : Nat → Int
  | 0 => r.commit
  | k + 1 => if ((k : Int) + 1) > r.commit then (if mostB r (k + 1) = true then (k : Int) + 1 else commitGo r k) else r.commit
def commitOf (r : Raft) : Int := commitGo r r.hard.log.length
theorem commitGo_end {r : Raft} {n : Int} (h : ¬ n > r.commit) (h0 : 0 ≤ n) : commitGo r n.toNat = r.commit := by
  cases hk : n.toNat with
  | zero => rfl
  | succ k => unfold commitGo; rw [if_neg (by omega)]
theorem commitGo_go {r : Raft} {n : Int} (h : n > r.commit) (h0 : 0 < n) : commitGo r n.toNat = if mostB r n = true then n else commitGo r (n - 1).toNat := by
  obtain ⟨k, rfl⟩ : ∃ k : Nat, n = (k : Int) + 1 := ⟨(n - 1).toNat, by omega⟩
  have e1 : ((k : Int) + 1).toNat = k + 1 := by omega
  have e2 : ((k : Int) + 1 - 1).toNat = k := by omega
  rw [e1, e2]
  conv => lhs; unfold commitGo
  rw [if_pos h]
def CInv (r : Raft) (n c : Int) : Prop := (c = r.commit ∧ 0 ≤ n ∧ commitOf r = commitGo r n.toNat) ∨ (n ≤ c ∧ c = commitOf r)
theorem CInv.start (r : Raft) : CInv r r.hard.log.length r.commit := .inl ⟨rfl, by omega, by simp [commitOf]⟩
theorem CInv.skip {r : Raft} {n c : Int} (h : CInv r n c) (hn : n > c) (h0 : 0 ≤ c) (hb : mostB r n = false) : CInv r (n - 1) c := by
  rcases h with ⟨h1, h2, h3⟩ | ⟨h1, h2⟩
  · refine .inl ⟨h1, by omega, ?_⟩
    rw [h3, commitGo_go (by omega) (by omega), hb]
    rfl
  · omega
theorem CInv.take {r : Raft} {n c : Int} (h : CInv r n c) (hn : n > c) (h0 : 0 ≤ c) (hb : mostB r n = true) : CInv r (n - 1) n := by
  rcases h with ⟨h1, h2, h3⟩ | ⟨h1, h2⟩
  · refine .inr ⟨by omega, ?_⟩
    rw [h3, commitGo_go (by omega) (by omega), hb]
    rfl
  · omega
theorem CInv.done {r : Raft} {n c : Int} (h : CInv r n c) (hn : ¬ n > c) : c = commitOf r := by
  rcases h with ⟨h1, h2, h3⟩ | ⟨h1, h2⟩
  · rw [h3, commitGo_end (by omega) h2, h1]
  · exact h2
end Go.Sy

