/- The laws on standing, proposing and sending, in plain words. -/
import Derived.Test.YtlmadhahghiedaaGreatSStandsOp
set_option linter.unusedVariables false
set_option linter.unusedSimpArgs false
namespace Go.Sy
theorem sendUp_length (r : Raft) : ∀ k : Nat, ((sendUp r k).length : Int) = k - (if 0 ≤ r.id ∧ r.id < k then 1 else 0)
  | 0 => by rw [if_neg (by omega)]; rfl
  | k + 1 => by
    have ih := sendUp_length r k
    unfold sendUp
    rw [List.length_append]
    by_cases h : (k : Int) = r.id
    · rw [if_pos h]
      rw [if_neg (by omega)] at ih
      rw [if_pos (by omega)]
      simp only [List.length_nil]; omega
    · rw [if_neg h]
      simp only [List.length_cons, List.length_nil]
      by_cases h2 : 0 ≤ r.id ∧ r.id < k
      · rw [if_pos h2] at ih; rw [if_pos (by omega)]; omega
      · rw [if_neg h2] at ih; rw [if_neg (by omega)]; omega
theorem sendAll_length {r : Raft} (h : 0 ≤ r.id ∧ r.id < r.of_) : ((sendAll r).length : Int) = r.of_ - 1 := by
  have := sendUp_length r r.of_.toNat
  rw [if_pos (by omega)] at this
  unfold sendAll
  omega
theorem askUp_length {r : Raft} (hy : r.yes = []) : ∀ k : Nat, ((askUp r k).length : Int) = k - (if 0 ≤ r.id ∧ r.id < k then 1 else 0)
  | 0 => by rw [if_neg (by omega)]; rfl
  | k + 1 => by
    have ih := askUp_length hy k
    have e : hasI (k : Int) r.yes = false := by rw [hy]; rfl
    unfold askUp
    rw [List.length_append]
    by_cases h : (k : Int) = r.id
    · rw [if_pos (.inl h)]
      rw [if_neg (by omega)] at ih
      rw [if_pos (by omega)]
      simp only [List.length_nil]; omega
    · rw [if_neg (by rw [e]; simp [h])]
      simp only [List.length_cons, List.length_nil]
      by_cases h2 : 0 ≤ r.id ∧ r.id < k
      · rw [if_pos h2] at ih; rw [if_pos (by omega)]; omega
      · rw [if_neg h2] at ih; rw [if_neg (by omega)]; omega
theorem asks_length {r : Raft} (hy : r.yes = []) (h : 0 ≤ r.id ∧ r.id < r.of_) : ((asks r).length : Int) = r.of_ - 1 := by
  have := askUp_length hy r.of_.toNat
  rw [if_pos (by omega)] at this
  unfold asks
  omega
theorem leadR_id (r : Raft) : (leadR r).id = r.id := by unfold leadR; split <;> rfl
theorem stand_law {r : Raft} (h : ((stands r).2.1.length : Int) > 0) : ((stands r).1.hard.term = r.hard.term + 1 ∧ (stands r).1.hard.vote = r.id + 1 ∧ ((stands r).2.2.length : Int) = r.of_ - 1 ∧ raftOk (stands r).1 = true) ∧ (0 ≤ r.hard.term ∧ r.hard.term ≤ 1000000000) ∧ (0 ≤ r.id ∧ r.id ≤ 5) ∧ (1 ≤ r.of_ ∧ r.of_ ≤ 5) := by
  by_cases hc : raftOk r = true ∧ r.role ≠ 3 ∧ r.hard.term ≠ 1000000000
  · have hn := raftOk1_nums (raftOk_1 hc.1)
    refine ⟨⟨?_, ?_, ?_, stands_ok hc.1⟩, by omega, by omega, by omega⟩
    · unfold stands; rw [if_pos hc]; split
      · exact leadR_term _
      · rfl
    · unfold stands; rw [if_pos hc]; split
      · exact leadR_vote _
      · rfl
    · unfold stands; rw [if_pos hc]; split
      · have := sendAll_length (r := leadR (standR r)) (by rw [leadR_id, leadR_of]; show 0 ≤ r.id ∧ r.id < r.of_; omega)
        rw [leadR_of] at this; exact this
      · exact asks_length (r := standR r) rfl (by show 0 ≤ r.id ∧ r.id < r.of_; omega)
  · unfold stands at h
    rw [if_neg hc] at h
    simp at h
theorem prop_law {r : Raft} {c : Cmd} (h : propOk r c = true) : (propR r c).hard.log = r.hard.log ++ [propE r c] ∧ ((propRecs r c).length : Int) = 1 ∧ ((propOuts r c).length : Int) = r.of_ - 1 ∧ raftOk (propR r c) = true ∧ r.hard.log.length ≤ 80 ∧ (1 ≤ r.of_ ∧ r.of_ ≤ 5) := by
  have h2 := h
  simp only [propOk, Bool.and_eq_true] at h2
  have hn := raftOk1_nums (raftOk_1 h2.1)
  refine ⟨by unfold propR; rw [if_pos h]; rfl, by unfold propRecs; rw [if_pos h]; rfl, ?_, prop_ok h2.1, hn.2.2.2.2.2.2, by omega⟩
  unfold propOuts
  rw [if_pos h]
  exact sendAll_length (r := had (put r (propE r c))) (by show 0 ≤ r.id ∧ r.id < r.of_; omega)
theorem prop_no {r : Raft} {c : Cmd} (h : propOk r c = false) : ((propRecs r c).length : Int) = 0 ∧ ((propOuts r c).length : Int) = 0 := by
  unfold propRecs propOuts
  rw [if_neg (by rw [h]; decide), if_neg (by rw [h]; decide)]
  exact ⟨rfl, rfl⟩
theorem prop_last {r : Raft} {c : Cmd} {e : Ent} {n : Int} (h : propOk r c = true) (hn : n = ((propR r c).hard.log.length : Int)) (he : (propR r c).hard.log[(n - 1).toNat]? = some e) : cmdEq e.cmd c = true := by
  obtain ⟨h1, _⟩ := prop_law h
  rw [h1] at hn he
  rw [List.length_append] at hn
  simp only [List.length_cons, List.length_nil] at hn
  rw [show (n - 1).toNat = r.hard.log.length by omega, List.getElem?_append_right (Nat.le_refl _), Nat.sub_self] at he
  simp only [List.getElem?_cons_zero, Option.some.injEq] at he
  rw [← he]
  simp [cmdEq, propE]
end Go.Sy

