/- The laws on votes and on what is known committed, in plain words. -/
import Derived.Test.YtlmadhahghiedaaGreatSGotRg
set_option linter.unusedVariables false
set_option linter.unusedSimpArgs false
namespace Go.Sy
theorem rd_u8 {H : Type} {enc : TypeId × Value → H} {P : Program} {W : World} {t : TypeId} (ht : P.underlying t = some (.int .u8)) : RdV enc P W t 1 (fun b : UInt8 => [encU8 b]) (fun _ => True) := by
  intro fuel cs x h
  obtain ⟨n, hK, hl, hw⟩ := rd_int (enc := enc) (W := W) ht fuel cs x h
  have hb : 0 ≤ n ∧ n ≤ 255 := by
    simp only [Lit.wf, Bool.and_eq_true, decide_eq_true_eq] at hw
    simp [IntKind.min, IntKind.max, IntKind.bits, IntKind.signed] at hw
    omega
  refine ⟨UInt8.ofNat n.toNat, ?_, hl, trivial⟩
  have e : encU8 (UInt8.ofNat n.toNat) = .int .u8 n := by
    unfold encU8
    congr 1
    rw [UInt8.toNat_ofNat']
    omega
  simpa only [e] using hK
section
variable {r : Raft} {m : Msg}
theorem got_same (ho : raftOk r = true) (h : (gots r m).1.role ≠ 3) : (gots r m).1.commit = r.commit := by
  unfold gots at h ⊢
  split at h
  · rename_i hh
    rw [if_pos hh]
    split at h
    · rename_i h1; rw [if_pos h1]; rfl
    · rename_i h1
      rw [if_neg h1]
      split at h
      · rename_i h2; rw [if_pos h2]
      · rename_i h2
        have hr : r.role = 3 := by
          by_cases q : r.role = 3
          · exact q
          · exact (h2 (.inl q)).elim
        rw [if_neg h2]
        split at h
        · split at h
          · exact (h hr).elim
          · exact (h hr).elim
        · exact (h hr).elim
  · rename_i hh
    rw [if_neg hh]
    show (same r).commit = r.commit
    rw [same_ok ho]
theorem term_at {l : List Ent} {n : Int} {e : Ent} (h : l[(n - 1).toNat]? = some e) (h1 : 1 ≤ n ∧ n ≤ l.length) : termAt l n = e.term := by
  unfold termAt
  rw [if_neg (by omega), h]
  rfl
theorem got_recs : (gots r m).2.1.length ≤ 1 := by
  unfold gots
  (repeat' split) <;> simp
theorem commitGo_most (q : Raft) : ∀ k : Nat, commitGo q k ≠ q.commit → mostB q (commitGo q k) = true ∧ q.commit < commitGo q k ∧ commitGo q k ≤ k
  | 0, h => (h rfl).elim
  | k + 1, h => by
    unfold commitGo at h ⊢
    split at h
    · rename_i h1
      rw [if_pos h1]
      split at h
      · rename_i h2
        rw [if_pos h2]
        exact ⟨h2, h1, by omega⟩
      · rename_i h2
        rw [if_neg h2]
        have := commitGo_most q k h
        exact ⟨this.1, this.2.1, by omega⟩
    · exact (h rfl).elim
theorem got_most (ho : raftOk r = true) (hc : (gots r m).1.commit ≠ r.commit) (h3 : (gots r m).1.role = 3) :
    (2 * cntGe (gots r m).1.match_ (gots r m).1.commit > r.of_ ∧ termAt (gots r m).1.hard.log (gots r m).1.commit = (gots r m).1.hard.term) ∧ (gots r m).2.1 = [] ∧ (1 ≤ (gots r m).1.commit ∧ (gots r m).1.commit ≤ (gots r m).1.hard.log.length) := by
  have hn := raftOk1_nums (raftOk_1 ho)
  unfold gots at hc h3 ⊢
  split at hc
  · rename_i hh
    rw [if_pos hh] at h3 ⊢
    split at hc
    · exact (hc rfl).elim
    · rename_i h1
      rw [if_neg h1] at h3 ⊢
      split at hc
      · exact (hc rfl).elim
      · rename_i h2
        rw [if_neg h2] at h3 ⊢
        split at hc
        · rename_i hy
          rw [if_pos hy] at h3 ⊢
          split at hc
          · rename_i ha
            rw [if_pos ha] at h3 ⊢
            have := commitGo_most (gotUp r m) (gotUp r m).hard.log.length hc
            obtain ⟨q1, q2, q3⟩ := this
            simp only [mostB, Bool.and_eq_true, decide_eq_true_eq, beq_iff_eq] at q1
            refine ⟨q1, rfl, ?_, q3⟩
            have e : (gotUp r m).commit = r.commit := rfl
            show 1 ≤ commitGo (gotUp r m) _
            omega
          · exact (hc rfl).elim
        · exact (hc rfl).elim
  · rename_i hh
    exact (hc (by show (same r).commit = r.commit; rw [same_ok ho])).elim
end
end Go.Sy

