/- The laws on standing, proposing and sending, in plain words. -/
import Derived.Test.YtocjgmdfocaamaaGreatSRecsTellOp
set_option linter.unusedVariables false
set_option linter.unusedSimpArgs false
namespace Go.Sy
theorem sendUp_length (r : Raft) : ∀ k : Nat, ((sendUp r k).length : Int) = k - (if 0 ≤ r.id ∧ r.id < k then 1 else 0)
  | 0 => by rw [if_neg (by omega)]; rfl
  | k + 1 => by
    have ih := sendUp_length r k
    unfold sendUp
    rw [List.length_append]
    by_cases h : (k : Int) = r.id
    · rw [if_pos h]
      rw [if_neg (by omega)] at ih
      rw [if_pos (by omega)]
      simp only [List.length_nil]; omega
    · rw [if_neg h]
      simp only [List.length_cons, List.length_nil]
      by_cases h2 : 0 ≤ r.id ∧ r.id < k
      · rw [if_pos h2] at ih; rw [if_pos (by omega)]; omega
      · rw [if_neg h2] at ih; rw [if_neg (by omega)]; omega
theorem sendAll_length {r : Raft} (h : 0 ≤ r.id ∧ r.id < r.of_) : ((sendAll r).length : Int) = r.of_ - 1 := by
  have := sendUp_length r r.of_.toNat
  rw [if_pos (by omega)] at this
  unfold sendAll
  omega
theorem leadR_id (r : Raft) : (leadR r).id = r.id := by unfold leadR; split <;> rfl
theorem sendUp_mem (r : Raft) : ∀ k : Nat, ∀ o ∈ sendUp r k, o = sendOf r o.to ∧ 0 ≤ o.to ∧ o.to < k ∧ o.to ≠ r.id
  | 0, o, h => by cases h
  | k + 1, o, h => by
    unfold sendUp at h
    rcases List.mem_append.1 h with h | h
    · have := sendUp_mem r k o h
      exact ⟨this.1, this.2.1, by omega, this.2.2.2⟩
    · split at h
      · cases h
      · rename_i hne
        rw [List.mem_singleton.1 h]
        exact ⟨rfl, by show (0 : Int) ≤ k; omega, by show (k : Int) < ((k + 1 : Nat) : Int); omega, hne⟩
theorem fits_send {f t a s c : Int} {l : List Ent} (hf : 0 ≤ f ∧ f ≤ 4) (ht : 0 ≤ t ∧ t ≤ 1000000000) (ha : 0 ≤ a ∧ a ≤ 80) (hs : 0 ≤ s ∧ s ≤ 1000000000) (hc : 0 ≤ c ∧ c ≤ 80) (hl : l.length ≤ 6) (he : entsOk l = true) : msgFits ⟨3, f, t, a, s, c, false, 0, 0, ⟨#[]⟩, zCmd, l⟩ = true := by
  have e : ∀ b, hasF ⟨3, f, t, a, s, c, false, 0, 0, ⟨#[]⟩, zCmd, l⟩ b = hasU b [102, 116, 97, 115, 99, 101] := fun b => rfl
  have h0 : (!((l8F 3).toList == [])) = true := by rw [ByteArray.toList_eq]; rfl
  have hlen : inR (l.length : Int) 0 6 = true := inR_iff.2 (by omega)
  simp only [msgFits, fits1, fits2, fits3, e, num8, hasU, h0, inR_iff.2 hf, inR_iff.2 ht, inR_iff.2 ha, inR_iff.2 hs, inR_iff.2 hc, he, hlen]
  simp [cmdEq_refl']
  rfl
where cmdEq_refl' : ∀ c : Cmd, cmdEq c c = true := fun c => by simp [cmdEq]
theorem entsOk_of {t p : Int} (ht : t ≤ 1000000000) : ∀ {l : List Ent}, (∀ e ∈ l, 1 ≤ e.term ∧ e.term ≤ t ∧ cmdOk e.cmd = true) → entsOk l = true
  | [], _ => rfl
  | e :: l, h => by
    have h1 := h e List.mem_cons_self
    rw [entsOk_cons]
    exact ⟨by simp only [entOk, Bool.and_eq_true, inR_iff]; exact ⟨by omega, h1.2.2⟩, entsOk_of (p := p) ht (fun q hq => h q (List.mem_cons_of_mem _ hq))⟩
theorem termAt_in {r : Raft} (ho : hardOk r.hard = true) (n : Int) : 0 ≤ termAt r.hard.log n ∧ termAt r.hard.log n ≤ 1000000000 := by
  obtain ⟨q1, q2, q3, q4⟩ := hardOk_iff.1 ho
  unfold termAt
  split
  · omega
  · cases h : r.hard.log[(n - 1).toNat]? with
    | none => simp
    | some e =>
      have := logOk_get _ _ q4 e (List.mem_of_getElem? h)
      show 0 ≤ e.term ∧ e.term ≤ 1000000000
      omega
theorem sendOf_fits {r : Raft} {k : Int} (ho : raftOk r = true) (hn : 0 ≤ nextOf r k - 1 ∧ nextOf r k - 1 ≤ r.hard.log.length) : msgFits (sendOf r k).msg = true := by
  have h1 := raftOk1_nums (raftOk_1 ho)
  obtain ⟨_, _, _, hh, _⟩ := raftOk_iff.1 ho
  obtain ⟨q1, q2, q3, q4⟩ := hardOk_iff.1 hh
  refine fits_send (by omega) q1 (by omega) (termAt_in hh _) (by omega) (by rw [List.length_take]; omega) (entsOk_of (p := 0) q1.2 (fun e he => logOk_get _ _ q4 e (List.mem_of_mem_drop (List.mem_of_mem_take he))))
end Go.Sy

