/- The law FnExactPartOf answers true for every text and every place (a whole number of 64 bits). No condition. -/
import Derived.Test.YtkjfcgnhpalhnaaPFnExactPartOfx1
namespace Go.Proofs.Ytkjfcgnhpalhnaa.Pure
open Go.RowKit Go.Proofs.Ytkjfcgnhpalhnaa.PFnExactPartOf Go.Proofs.YtkjfcgnhpalhnaaW.PrintWords Go.Proofs.YtkjfcgnhpalhnaaW.PrintLast
set_option linter.unusedVariables false
set_option linter.unusedSimpArgs false

theorem w64 (n : Int) (h0 : -9223372036854775808 ≤ n) (h1 : n ≤ 9223372036854775807) : wrap64 n = n := by unfold wrap64; omega
theorem tmn {a : Int} (b : Int) (h : 0 ≤ a) : Int.tmod a b = a % b := Int.tmod_eq_emod_of_nonneg h
theorem wfi {x : Int} (h : (Lit.int .i64 x).wf = true) : -9223372036854775808 ≤ x ∧ x ≤ 9223372036854775807 := by
  simp [Lit.wf, IntKind.min, IntKind.max, IntKind.signed, IntKind.bits] at h
  omega
theorem wf8 {x : Int} (h : (Lit.int .u8 x).wf = true) : 0 ≤ x ∧ x ≤ 255 := by
  simp [Lit.wf, IntKind.min, IntKind.max, IntKind.signed, IntKind.bits] at h
  omega
theorem evc {α : Type} {g : Nat → Option α} {r : α} (h : ∀ k, g k = some r) : Ev g r := ⟨0, fun k _ => h k⟩

theorem i_within (n a b : Int) : impl_within.f n a b = some (decide (a ≤ n ∧ n ≤ b)) := by
  unfold impl_within.f
  by_cases h : n ≥ a
  · rw [if_pos h]; simp [show a ≤ n from h]
  · rw [if_neg h]; simp [show ¬ a ≤ n from h]

theorem s_In (n a b : Int) : spec_l1In.f n a b = some (decide (a ≤ n ∧ n ≤ b)) := by
  unfold spec_l1In.f
  by_cases h : n ≥ a
  · rw [if_pos h]; simp [show a ≤ n from h]
  · rw [if_neg h]; simp [show ¬ a ≤ n from h]

theorem s_PartsOf (n : Int) : spec_PartsOf.f n = some (if 0 ≤ n ∧ n ≤ 1000 then (n + 15) / 16 else -1) := by
  unfold spec_PartsOf.f
  rw [s_In]
  simp only [Option.bind_some]
  by_cases h : 0 ≤ n ∧ n ≤ 1000
  · rw [w64 (n + 16) (by omega) (by omega), w64 (n + 16 - 1) (by omega) (by omega)]
    have e : Int.tdiv (n + 16 - 1) 16 = (n + 15) / 16 := by rw [Int.tdiv_eq_ediv_of_nonneg (by omega)]; omega
    rw [e, w64 _ (by omega) (by omega)]
    simp [h]
  · simp [h]
theorem i_PartsOf (n : Int) : impl_PartsOf.f n = some (if 0 ≤ n ∧ n ≤ 1000 then (n + 15) / 16 else -1) := by
  unfold impl_PartsOf.f impl_isSize.f
  rw [i_within]
  simp only [Option.bind_some]
  by_cases h : 0 ≤ n ∧ n ≤ 1000
  · rw [w64 (n + 16) (by omega) (by omega), w64 (n + 16 - 1) (by omega) (by omega)]
    have e : Int.tdiv (n + 16 - 1) 16 = (n + 15) / 16 := by rw [Int.tdiv_eq_ediv_of_nonneg (by omega)]; omega
    rw [e, w64 _ (by omega) (by omega)]
    simp [h]
  · simp [h]

/-- Part i of a text: what both tell. -/
def partOf (s : ByteArray) (i : Int) : ByteArray × Bool :=
  if (s.size : Int) ≤ 1000 ∧ 0 ≤ i ∧ i * 16 < (s.size : Int) then (s.extract (i * 16).toNat (min ((i + 1) * 16) (s.size : Int)).toNat, true) else (⟨#[]⟩, false)
theorem s_PartOf (s : ByteArray) (i : Int) (hi : -9223372036854775808 ≤ i ∧ i ≤ 9223372036854775807) (hs : s.size ≤ 140737488351232) : spec_PartOf.f s i = some (partOf s i) := by
  unfold spec_PartOf.f partOf
  by_cases h : (s.size : Int) > 1000
  · rw [if_pos h, if_neg (by omega)]
  · rw [if_neg h, s_PartsOf]
    simp only [Option.bind_some]
    rw [if_pos ⟨by omega, by omega⟩, s_In, w64 _ (by omega) (by omega)]
    simp only [Option.bind_some]
    by_cases hr : 0 ≤ i ∧ i ≤ ((s.size : Int) + 15) / 16 - 1
    · simp only [decide_eq_true hr, if_true]
      unfold spec_l1Min.f
      rw [w64 (i + 1) (by omega) (by omega), w64 ((i + 1) * 16) (by omega) (by omega), w64 (i * 16) (by omega) (by omega)]
      rw [if_pos (show (s.size : Int) ≤ 1000 ∧ 0 ≤ i ∧ i * 16 < (s.size : Int) by omega)]
      by_cases hc : (i + 1) * 16 < (s.size : Int)
      · rw [if_pos hc]
        simp only [Option.bind_some]
        rw [if_pos (by omega), if_pos (by omega), if_pos (by omega), Int.min_eq_left (by omega)]
      · rw [if_neg hc]
        simp only [Option.bind_some]
        rw [if_pos (by omega), if_pos (by omega), if_pos (by omega), Int.min_eq_right (by omega)]
    · simp only [decide_eq_false hr, Bool.false_eq_true, if_false]
      rw [if_neg (by omega)]
theorem i_PartOf (s : ByteArray) (i : Int) (hi : -9223372036854775808 ≤ i ∧ i ≤ 9223372036854775807) (hs : s.size ≤ 140737488351232) : impl_PartOf.f s i = some (partOf s i) := by
  unfold impl_PartOf.f partOf
  rw [i_PartsOf]
  simp only [Option.bind_some]
  by_cases h : (s.size : Int) > 1000
  · rw [if_neg (show ¬ (0 ≤ (s.size : Int) ∧ (s.size : Int) ≤ 1000) by omega), i_within, w64 (-1 - 1) (by omega) (by omega)]
    simp only [Option.bind_some, decide_eq_false (show ¬ (0 ≤ i ∧ i ≤ -1 - 1) by omega), Bool.false_eq_true, if_false]
    rw [if_neg (by omega)]
  · rw [if_pos ⟨by omega, by omega⟩, i_within, w64 _ (by omega) (by omega)]
    simp only [Option.bind_some]
    by_cases hr : 0 ≤ i ∧ i ≤ ((s.size : Int) + 15) / 16 - 1
    · simp only [decide_eq_true hr, if_true]
      unfold impl_partLong.f
      simp only [Option.bind_some]
      rw [w64 (i * 16) (by omega) (by omega), w64 ((s.size : Int) - i * 16) (by omega) (by omega)]
      have hm : mn 16 ((s.size : Int) - i * 16) = min 16 ((s.size : Int) - i * 16) := by unfold mn; omega
      rw [hm, w64 (i * 16 + min 16 ((s.size : Int) - i * 16)) (by omega) (by omega)]
      rw [if_pos (by omega), if_pos (by omega), if_pos (by omega), if_pos (show (s.size : Int) ≤ 1000 ∧ 0 ≤ i ∧ i * 16 < (s.size : Int) by omega)]
      rw [show i * 16 + min 16 ((s.size : Int) - i * 16) = min ((i + 1) * 16) (s.size : Int) by omega]
    · simp only [decide_eq_false hr, Bool.false_eq_true, if_false]
      rw [if_neg (by omega)]

theorem FnExactPartOf : laws_FnExactPartOf.Pure := by
  intro s i hs hw
  unfold laws_FnExactPartOf.f
  by_cases h : (s.size : Int) > 1048576
  · rw [if_pos h]
  · rw [if_neg h, s_PartOf s i (wfi hw) hs, i_PartOf s i (wfi hw) hs]
    simp

end Go.Proofs.Ytkjfcgnhpalhnaa.Pure
