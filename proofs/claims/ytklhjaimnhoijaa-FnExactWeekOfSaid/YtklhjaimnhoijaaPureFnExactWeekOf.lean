/- The law FnExactWeekOf answers true for every whole number of 64 bits: the program's WeekOf and the reference's WeekOf are both (day + 4) modulo 7. No condition. -/
import Derived.Test.YtklhjaimnhoijaaPFnExactWeekOfx1
namespace Go.Proofs.Ytklhjaimnhoijaa.Pure
open Go.RowKit Go.Proofs.Ytklhjaimnhoijaa.PFnExactWeekOf Go.Proofs.YtklhjaimnhoijaaW.PrintWords Go.Proofs.YtklhjaimnhoijaaW.PrintLast
set_option linter.unusedVariables false
set_option linter.unusedSimpArgs false

theorem w64 (n : Int) (h0 : -9223372036854775808 ≤ n) (h1 : n ≤ 9223372036854775807) : wrap64 n = n := by unfold wrap64; omega
theorem tmn {a : Int} (b : Int) (h : 0 ≤ a) : Int.tmod a b = a % b := Int.tmod_eq_emod_of_nonneg h
theorem wfi {x : Int} (h : (Lit.int .i64 x).wf = true) : -9223372036854775808 ≤ x ∧ x ≤ 9223372036854775807 := by
  simp [Lit.wf, IntKind.min, IntKind.max, IntKind.signed, IntKind.bits] at h
  omega
theorem wf8 {x : Int} (h : (Lit.int .u8 x).wf = true) : 0 ≤ x ∧ x ≤ 255 := by
  simp [Lit.wf, IntKind.min, IntKind.max, IntKind.signed, IntKind.bits] at h
  omega
theorem evc {α : Type} {g : Nat → Option α} {r : α} (h : ∀ k, g k = some r) : Ev g r := ⟨0, fun k _ => h k⟩

theorem tm7 (a : Int) : Int.tmod a 7 = if 0 ≤ a then a % 7 else -((-a) % 7) := by
  split
  · rename_i h; exact tmn 7 h
  · rename_i h
    have e : Int.tmod (-(-a)) 7 = -(Int.tmod (-a) 7) := Int.neg_tmod ..
    rw [Int.neg_neg] at e
    rw [e, tmn 7 (by omega)]
def wk (a : Int) : Int := (a + 4) % 7
theorem wk_bd (a : Int) : 0 ≤ wk a ∧ wk a ≤ 6 := by unfold wk; omega
theorem i_WeekOf (a : Int) : impl_WeekOf.f a = some (wk a) := by
  unfold impl_WeekOf.f wk
  have h := tm7 a
  have hb : -7 < Int.tmod a 7 ∧ Int.tmod a 7 < 7 := by split at h <;> omega
  rw [w64 (Int.tmod a 7 + 7) (by omega) (by omega), w64 (Int.tmod a 7 + 7 + 4) (by omega) (by omega), tmn 7 (show 0 ≤ Int.tmod a 7 + 7 + 4 by omega)]
  split at h <;> simp only [Option.some.injEq] <;> omega
theorem s_WeekOf (a : Int) : spec_WeekOf.f a = some (wk a) := by
  unfold spec_WeekOf.f wk
  have h := tm7 a
  have hb : -7 < Int.tmod a 7 ∧ Int.tmod a 7 < 7 := by split at h <;> omega
  rw [w64 (Int.tmod a 7 + 7) (by omega) (by omega), tmn 7 (show 0 ≤ Int.tmod a 7 + 7 by omega), w64 ((Int.tmod a 7 + 7) % 7 + 4) (by omega) (by omega), tmn 7 (show 0 ≤ (Int.tmod a 7 + 7) % 7 + 4 by omega)]
  split at h <;> simp only [Option.some.injEq] <;> omega

theorem FnExactWeekOf : laws_FnExactWeekOf.Pure := by
  intro a w0
  unfold laws_FnExactWeekOf.f
  rw [s_WeekOf, i_WeekOf]
  simp

end Go.Proofs.Ytklhjaimnhoijaa.Pure
