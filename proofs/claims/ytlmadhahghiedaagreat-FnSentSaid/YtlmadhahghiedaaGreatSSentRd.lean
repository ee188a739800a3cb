/- What the functions of a node compute, part 4: a number put into its place. -/
import Derived.Test.YtlmadhahghiedaaGreatSSentRc
set_option linter.unusedVariables false
set_option linter.unusedSimpArgs false
namespace Go.Sy
def putA (v : Int) : List Int → List Int
  | [] => [v]
  | x :: l => if x < v then x :: putA v l else if x = v then x :: l else v :: x :: l
theorem asc_pair : ∀ (l : List Int) (p hi : Int), asc hi p l = true → (∀ x ∈ l, p < x) ∧ l.Pairwise (· < ·)
  | [], p, hi, _ => ⟨fun x h => (by cases h), List.Pairwise.nil⟩
  | n :: l, p, hi, h => by
    simp only [asc, Bool.and_eq_true, inR_iff, decide_eq_true_eq] at h
    obtain ⟨h1, h2⟩ := asc_pair l n hi h.2
    refine ⟨fun x hx => ?_, List.pairwise_cons.2 ⟨h1, h2⟩⟩
    rcases List.mem_cons.1 hx with rfl | hx
    · omega
    · have := h1 x hx; omega
def l7G (v : Int) : Bool → List Int → List Int
  | d, [] => if d = true then [] else [v]
  | d, x :: l => (if (!d && decide (x ≥ v)) = true then [v] else []) ++ ((if x = v then [] else [x]) ++ l7G v (d || decide (x ≥ v)) l)
theorem l7G_done {v : Int} : ∀ l : List Int, (∀ x ∈ l, v < x) → l7G v true l = l
  | [], _ => rfl
  | x :: l, h => by
    have h1 := h x List.mem_cons_self
    rw [l7G, if_neg (by simp), if_neg (by omega), Bool.true_or, l7G_done l (fun y hy => h y (List.mem_cons_of_mem _ hy))]
    rfl
theorem l7G_put {v : Int} : ∀ l : List Int, l.Pairwise (· < ·) → l7G v false l = putA v l
  | [], _ => rfl
  | x :: l, h => by
    obtain ⟨h1, h2⟩ := List.pairwise_cons.1 h
    unfold l7G putA
    by_cases q1 : x < v
    · rw [if_neg (by simp; omega), if_neg (by omega), if_pos q1, show (false || decide (x ≥ v)) = false by simp; omega, l7G_put l h2]
      rfl
    · rw [if_pos (by simp; omega), if_neg q1, show (false || decide (x ≥ v)) = true by simp; omega]
      by_cases q2 : x = v
      · subst q2
        rw [if_pos rfl, if_pos rfl, l7G_done l h1]
        rfl
      · rw [if_neg q2, if_neg q2, l7G_done l (fun y hy => by have := h1 y hy; omega)]
        rfl
theorem putA_len (v : Int) : ∀ l : List Int, (putA v l).length ≤ l.length + 1
  | [] => by simp [putA]
  | x :: l => by
    have := putA_len v l
    unfold putA
    (repeat' split) <;> simp <;> omega
def yesR (r : Raft) (m : Msg) : Raft := { r with yes := putA m.from_ r.yes }
def yess (r : Raft) (m : Msg) : Raft × List Rec × List Out :=
  if hears r m 2 = true then
    (if m.term > r.hard.term then (folT r m.term, [voteRec (folT r m.term)], [])
    else if r.role ≠ 2 ∨ m.term ≠ r.hard.term ∨ m.yes = false then (r, [], [])
    else if 2 * (((yesR r m).yes.length : Int) + 1) > r.of_ then (leadR (yesR r m), leadRecs (yesR r m), sendAll (leadR (yesR r m)))
    else (yesR r m, [], []))
  else (same r, [], [])
theorem raftOk_pair {r : Raft} (h : raftOk r = true) : r.yes.Pairwise (· < ·) ∧ (r.yes.length : Int) ≤ r.of_ := by
  have h1 := raftOk_1 h
  refine ⟨?_, raftOk1_len h1⟩
  simp only [raftOk1, Bool.and_eq_true] at h1
  exact (asc_pair _ _ _ h1.2.2.2.2.2.1).2
section
variable {r : Raft} {m : Msg}
theorem yess_un (h : hears r m 2 = false) (ho : raftOk r = true) : yess r m = (r, [], []) := by unfold yess; rw [if_neg (by rw [h]; decide), same, if_pos ho]
theorem yess_term (h : hears r m 2 = true) (h1 : m.term > r.hard.term) : yess r m = (folT r m.term, [voteRec (folT r m.term)], []) := by unfold yess; rw [if_pos h, if_pos h1]
theorem yess_not (h : hears r m 2 = true) (h1 : ¬ m.term > r.hard.term) (h2 : r.role ≠ 2 ∨ m.term ≠ r.hard.term ∨ m.yes = false) : yess r m = (r, [], []) := by unfold yess; rw [if_pos h, if_neg h1, if_pos h2]
theorem yess_less (h : hears r m 2 = true) (h1 : ¬ m.term > r.hard.term) (h2 : r.role = 2) (h3 : m.term = r.hard.term) (hy : m.yes = true) (hc : ¬ 2 * (((putA m.from_ r.yes).length : Int) + 1) > r.of_) : yess r m = ({ r with yes := putA m.from_ r.yes }, [], []) := by
  unfold yess
  rw [if_pos h, if_neg h1, if_neg (by rintro (q | q | q) <;> first | omega | (rw [hy] at q; cases q)), if_neg (show ¬ 2 * (((yesR r m).yes.length : Int) + 1) > r.of_ from hc)]; rfl
theorem yess_lead (h : hears r m 2 = true) (h1 : ¬ m.term > r.hard.term) (h2 : r.role = 2) (h3 : m.term = r.hard.term) (hy : m.yes = true) (hc : 2 * (((putA m.from_ r.yes).length : Int) + 1) > r.of_) : yess r m = (leadR { r with yes := putA m.from_ r.yes }, leadRecs { r with yes := putA m.from_ r.yes }, sendAll (leadR { r with yes := putA m.from_ r.yes })) := by
  unfold yess
  rw [if_pos h, if_neg h1, if_neg (by rintro (q | q | q) <;> first | omega | (rw [hy] at q; cases q)), if_pos (show 2 * (((yesR r m).yes.length : Int) + 1) > r.of_ from hc)]; rfl
end
end Go.Sy

