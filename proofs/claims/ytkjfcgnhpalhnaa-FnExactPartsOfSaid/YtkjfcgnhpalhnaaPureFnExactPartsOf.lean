/- The law FnExactPartsOf answers true for every size (a whole number of 64 bits). No condition. -/
import Derived.Test.YtkjfcgnhpalhnaaPFnExactPartsOfx1
namespace Go.Proofs.Ytkjfcgnhpalhnaa.Pure
open Go.RowKit Go.Proofs.Ytkjfcgnhpalhnaa.PFnExactPartsOf Go.Proofs.YtkjfcgnhpalhnaaW.PrintWords Go.Proofs.YtkjfcgnhpalhnaaW.PrintLast
set_option linter.unusedVariables false
set_option linter.unusedSimpArgs false

theorem w64 (n : Int) (h0 : -9223372036854775808 ≤ n) (h1 : n ≤ 9223372036854775807) : wrap64 n = n := by unfold wrap64; omega
theorem tmn {a : Int} (b : Int) (h : 0 ≤ a) : Int.tmod a b = a % b := Int.tmod_eq_emod_of_nonneg h
theorem wfi {x : Int} (h : (Lit.int .i64 x).wf = true) : -9223372036854775808 ≤ x ∧ x ≤ 9223372036854775807 := by
  simp [Lit.wf, IntKind.min, IntKind.max, IntKind.signed, IntKind.bits] at h
  omega
theorem wf8 {x : Int} (h : (Lit.int .u8 x).wf = true) : 0 ≤ x ∧ x ≤ 255 := by
  simp [Lit.wf, IntKind.min, IntKind.max, IntKind.signed, IntKind.bits] at h
  omega
theorem evc {α : Type} {g : Nat → Option α} {r : α} (h : ∀ k, g k = some r) : Ev g r := ⟨0, fun k _ => h k⟩

theorem i_within (n a b : Int) : impl_within.f n a b = some (decide (a ≤ n ∧ n ≤ b)) := by
  unfold impl_within.f
  by_cases h : n ≥ a
  · rw [if_pos h]; simp [show a ≤ n from h]
  · rw [if_neg h]; simp [show ¬ a ≤ n from h]

theorem s_In (n a b : Int) : spec_l1In.f n a b = some (decide (a ≤ n ∧ n ≤ b)) := by
  unfold spec_l1In.f
  by_cases h : n ≥ a
  · rw [if_pos h]; simp [show a ≤ n from h]
  · rw [if_neg h]; simp [show ¬ a ≤ n from h]

theorem s_PartsOf (n : Int) : spec_PartsOf.f n = some (if 0 ≤ n ∧ n ≤ 1000 then (n + 15) / 16 else -1) := by
  unfold spec_PartsOf.f
  rw [s_In]
  simp only [Option.bind_some]
  by_cases h : 0 ≤ n ∧ n ≤ 1000
  · rw [w64 (n + 16) (by omega) (by omega), w64 (n + 16 - 1) (by omega) (by omega)]
    have e : Int.tdiv (n + 16 - 1) 16 = (n + 15) / 16 := by rw [Int.tdiv_eq_ediv_of_nonneg (by omega)]; omega
    rw [e, w64 _ (by omega) (by omega)]
    simp [h]
  · simp [h]
theorem i_PartsOf (n : Int) : impl_PartsOf.f n = some (if 0 ≤ n ∧ n ≤ 1000 then (n + 15) / 16 else -1) := by
  unfold impl_PartsOf.f impl_isSize.f
  rw [i_within]
  simp only [Option.bind_some]
  by_cases h : 0 ≤ n ∧ n ≤ 1000
  · rw [w64 (n + 16) (by omega) (by omega), w64 (n + 16 - 1) (by omega) (by omega)]
    have e : Int.tdiv (n + 16 - 1) 16 = (n + 15) / 16 := by rw [Int.tdiv_eq_ediv_of_nonneg (by omega)]; omega
    rw [e, w64 _ (by omega) (by omega)]
    simp [h]
  · simp [h]

theorem FnExactPartsOf : laws_FnExactPartsOf.Pure := by
  intro n _
  unfold laws_FnExactPartsOf.f
  rw [s_PartsOf, i_PartsOf]
  simp

end Go.Proofs.Ytkjfcgnhpalhnaa.Pure
