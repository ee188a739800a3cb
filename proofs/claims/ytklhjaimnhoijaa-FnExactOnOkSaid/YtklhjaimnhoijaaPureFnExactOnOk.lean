/- The law FnExactOnOk answers true for every On (three whole numbers of 64 bits). No condition. -/
import Derived.Test.YtklhjaimnhoijaaPFnExactOnOkx1
namespace Go.Proofs.Ytklhjaimnhoijaa.Pure
open Go.RowKit Go.Proofs.Ytklhjaimnhoijaa.PFnExactOnOk Go.Proofs.YtklhjaimnhoijaaW.PrintWords Go.Proofs.YtklhjaimnhoijaaW.PrintLast
set_option linter.unusedVariables false
set_option linter.unusedSimpArgs false

theorem w64 (n : Int) (h0 : -9223372036854775808 ≤ n) (h1 : n ≤ 9223372036854775807) : wrap64 n = n := by unfold wrap64; omega
theorem tmn {a : Int} (b : Int) (h : 0 ≤ a) : Int.tmod a b = a % b := Int.tmod_eq_emod_of_nonneg h
theorem wfi {x : Int} (h : (Lit.int .i64 x).wf = true) : -9223372036854775808 ≤ x ∧ x ≤ 9223372036854775807 := by
  simp [Lit.wf, IntKind.min, IntKind.max, IntKind.signed, IntKind.bits] at h
  omega
theorem wf8 {x : Int} (h : (Lit.int .u8 x).wf = true) : 0 ≤ x ∧ x ≤ 255 := by
  simp [Lit.wf, IntKind.min, IntKind.max, IntKind.signed, IntKind.bits] at h
  omega
theorem evc {α : Type} {g : Nat → Option α} {r : α} (h : ∀ k, g k = some r) : Ev g r := ⟨0, fun k _ => h k⟩

theorem i_within (n a b : Int) : impl_within.f n a b = some (decide (a ≤ n ∧ n ≤ b)) := by
  unfold impl_within.f
  by_cases h : n ≥ a
  · rw [if_pos h]; simp [show a ≤ n from h]
  · rw [if_neg h]; simp [show ¬ a ≤ n from h]

theorem s_In (n a b : Int) : spec_l1In.f n a b = some (decide (a ≤ n ∧ n ≤ b)) := by
  unfold spec_l1In.f
  by_cases h : n ≥ a
  · rw [if_pos h]; simp [show a ≤ n from h]
  · rw [if_neg h]; simp [show ¬ a ≤ n from h]

def OnP (k d w : Int) : Prop := (k = 1 ∧ 1 ≤ d ∧ d ≤ 31 ∧ w = 0) ∨ (k = 2 ∧ d = 0 ∧ 0 ≤ w ∧ w ≤ 6) ∨ (k = 3 ∧ 1 ≤ d ∧ d ≤ 31 ∧ 0 ≤ w ∧ w ≤ 6)
instance (k d w : Int) : Decidable (OnP k d w) := by unfold OnP; exact inferInstance
theorem i_OnOk (k d w : Int) : impl_OnOk.f k d w = some (decide (OnP k d w)) := by
  unfold impl_OnOk.f OnP
  rw [i_within, i_within]
  simp only [Option.bind_some]
  by_cases h1 : k = 1
  · subst h1; by_cases h : 1 ≤ d ∧ d ≤ 31 <;> by_cases hw : w = 0 <;> simp [h, hw]
  · rw [if_neg h1]
    by_cases h2 : k = 2
    · subst h2; by_cases h : d = 0 <;> by_cases hw : 0 ≤ w ∧ w ≤ 6 <;> simp [h, hw]
    · rw [if_neg h2]
      by_cases h3 : k = 3
      · subst h3; by_cases h : 1 ≤ d ∧ d ≤ 31 <;> by_cases hw : 0 ≤ w ∧ w ≤ 6 <;> simp [h, hw]
      · simp [h1, h2, h3]
theorem s_OnOk (k d w : Int) : spec_OnOk.f k d w = some (decide (OnP k d w)) := by
  unfold spec_OnOk.f OnP
  rw [s_In, s_In]
  simp only [Option.bind_some]
  by_cases h1 : k = 1
  · subst h1; by_cases h : 1 ≤ d ∧ d ≤ 31 <;> by_cases hw : w = 0 <;> simp [h, hw]
  · rw [if_neg h1]
    by_cases h2 : k = 2
    · subst h2; by_cases h : d = 0 <;> by_cases hw : 0 ≤ w ∧ w ≤ 6 <;> simp [h, hw]
    · rw [if_neg h2]
      by_cases h3 : k = 3
      · subst h3; by_cases h : 1 ≤ d ∧ d ≤ 31 <;> by_cases hw : 0 ≤ w ∧ w ≤ 6 <;> simp [h, hw]
      · simp [h1, h2, h3]

theorem FnExactOnOk : ∀ (a0_0 : Int) (a0_1 : Int) (a0_2 : Int), (Lit.int .i64 a0_0).wf = true → (Lit.int .i64 a0_1).wf = true → (Lit.int .i64 a0_2).wf = true → laws_FnExactOnOk.f a0_0 a0_1 a0_2 = some true := by
  intro k d w _ _ _
  unfold laws_FnExactOnOk.f laws_toOn.f
  simp only [Option.bind_some]
  rw [s_OnOk, i_OnOk]
  simp

end Go.Proofs.Ytklhjaimnhoijaa.Pure
