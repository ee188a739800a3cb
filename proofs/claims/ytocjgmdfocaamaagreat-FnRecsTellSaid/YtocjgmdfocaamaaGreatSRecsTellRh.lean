/- The laws on votes and on what is known committed, in plain words. -/
import Derived.Test.YtocjgmdfocaamaaGreatSRecsTellRg
set_option linter.unusedVariables false
set_option linter.unusedSimpArgs false
namespace Go.Sy
theorem rd_u8 {H : Type} {enc : TypeId × Value → H} {P : Program} {W : World} {t : TypeId} (ht : P.underlying t = some (.int .u8)) : RdV enc P W t 1 (fun b : UInt8 => [encU8 b]) (fun _ => True) := by
  intro fuel cs x h
  obtain ⟨n, hK, hl, hw⟩ := rd_int (enc := enc) (W := W) ht fuel cs x h
  have hb : 0 ≤ n ∧ n ≤ 255 := by
    simp only [Lit.wf, Bool.and_eq_true, decide_eq_true_eq] at hw
    simp [IntKind.min, IntKind.max, IntKind.bits, IntKind.signed] at hw
    omega
  refine ⟨UInt8.ofNat n.toNat, ?_, hl, trivial⟩
  have e : encU8 (UInt8.ofNat n.toNat) = .int .u8 n := by
    unfold encU8
    congr 1
    rw [UInt8.toNat_ofNat']
    omega
  simpa only [e] using hK
section
variable {r : Raft} {m : Msg}
theorem ask1_of : (ask1 r m).of_ = r.of_ ∧ (ask1 r m).id = r.id ∧ (ask1 r m).hard.log = r.hard.log := by
  unfold ask1 ask0
  (repeat' split) <;> exact ⟨rfl, rfl, rfl⟩
theorem ask1_yes (hy : askYes r m = true) : (ask1 r m).hard.term = m.term ∧ (ask1 r m).hard.vote = m.from_ + 1 := by
  unfold ask1
  rw [if_pos hy]
  refine ⟨?_, rfl⟩
  unfold askYes yesB at hy
  simp only [Bool.and_eq_true, beq_iff_eq] at hy
  exact hy.1.symm
end
end Go.Sy

