/- The laws on votes and on what is known committed, in plain words. -/
import Derived.Test.YtdpcdcogbmkffaaSParcelRg
set_option linter.unusedVariables false
set_option linter.unusedSimpArgs false
namespace Go.Sy
theorem rd_u8 {H : Type} {enc : TypeId × Value → H} {P : Program} {W : World} {t : TypeId} (ht : P.underlying t = some (.int .u8)) : RdV enc P W t 1 (fun b : UInt8 => [encU8 b]) (fun _ => True) := by
  intro fuel cs x h
  obtain ⟨n, hK, hl, hw⟩ := rd_int (enc := enc) (W := W) ht fuel cs x h
  have hb : 0 ≤ n ∧ n ≤ 255 := by
    simp only [Lit.wf, Bool.and_eq_true, decide_eq_true_eq] at hw
    simp [IntKind.min, IntKind.max, IntKind.bits, IntKind.signed] at hw
    omega
  refine ⟨UInt8.ofNat n.toNat, ?_, hl, trivial⟩
  have e : encU8 (UInt8.ofNat n.toNat) = .int .u8 n := by
    unfold encU8
    congr 1
    rw [UInt8.toNat_ofNat']
    omega
  simpa only [e] using hK
end Go.Sy

