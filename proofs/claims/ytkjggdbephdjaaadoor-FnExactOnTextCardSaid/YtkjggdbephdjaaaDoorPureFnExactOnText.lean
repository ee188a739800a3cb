/- The law FnExactOnText answers true for every argument. No condition. -/
import Derived.Test.YtkjggdbephdjaaaDoorQFnExactOnTextx2
namespace Go.Proofs.YtkjggdbephdjaaaDoor.Pure
open Go.RowKit Go.Proofs.YtkjggdbephdjaaaDoor.QFnExactOnText Go.Proofs.YtkjggdbephdjaaaDoorW.PrintWords Go.Proofs.YtkjggdbephdjaaaDoorW.PrintLast
set_option linter.unusedVariables false
set_option linter.unusedSimpArgs false

theorem w64 (n : Int) (h0 : -9223372036854775808 ≤ n) (h1 : n ≤ 9223372036854775807) : wrap64 n = n := by unfold wrap64; omega
theorem tmn {a : Int} (b : Int) (h : 0 ≤ a) : Int.tmod a b = a % b := Int.tmod_eq_emod_of_nonneg h
theorem wfi {x : Int} (h : (Lit.int .i64 x).wf = true) : -9223372036854775808 ≤ x ∧ x ≤ 9223372036854775807 := by
  simp [Lit.wf, IntKind.min, IntKind.max, IntKind.signed, IntKind.bits] at h
  omega
theorem wf8 {x : Int} (h : (Lit.int .u8 x).wf = true) : 0 ≤ x ∧ x ≤ 255 := by
  simp [Lit.wf, IntKind.min, IntKind.max, IntKind.signed, IntKind.bits] at h
  omega
theorem evc {α : Type} {g : Nat → Option α} {r : α} (h : ∀ k, g k = some r) : Ev g r := ⟨0, fun k _ => h k⟩
theorem getD_mem {α : Type} (l : List α) (n : Nat) (z : α) (h : n < l.length) : l.getD n z ∈ l := by
  rw [List.getD_eq_getElem?_getD, List.getElem?_eq_getElem h]
  exact List.getElem_mem h
theorem ex_step {α : Type} {g f : Nat → Option α} (h : ∀ k, g (k + 1) = f k) (e : ∃ r, Ev f r) : ∃ r, Ev g r := by
  obtain ⟨r, e⟩ := e
  exact ⟨r, Ev.step h e⟩
theorem ex_bind {α β : Type} {g : Nat → Option α} {f : Nat → α → Option β} {a : α} (h : Ev g a) (e : ∃ r, Ev (fun n => f n a) r) : ∃ r, Ev (fun n => (g n).bind (f n)) r := by
  obtain ⟨r, e⟩ := e
  exact ⟨r, Ev.bind h e⟩

theorem i_within (n a b : Int) : impl_within.f n a b = some (decide (a ≤ n ∧ n ≤ b)) := by
  unfold impl_within.f
  by_cases h : n ≥ a
  · rw [if_pos h]; simp [show a ≤ n from h]
  · rw [if_neg h]; simp [show ¬ a ≤ n from h]

theorem s_In (n a b : Int) : spec_l1In.f n a b = some (decide (a ≤ n ∧ n ≤ b)) := by
  unfold spec_l1In.f
  by_cases h : n ≥ a
  · rw [if_pos h]; simp [show a ≤ n from h]
  · rw [if_neg h]; simp [show ¬ a ≤ n from h]

def OnP (k d w : Int) : Prop := (k = 1 ∧ 1 ≤ d ∧ d ≤ 31 ∧ w = 0) ∨ (k = 2 ∧ d = 0 ∧ 0 ≤ w ∧ w ≤ 6) ∨ (k = 3 ∧ 1 ≤ d ∧ d ≤ 31 ∧ 0 ≤ w ∧ w ≤ 6)
instance (k d w : Int) : Decidable (OnP k d w) := by unfold OnP; exact inferInstance
theorem i_OnOk (k d w : Int) : impl_OnOk.f k d w = some (decide (OnP k d w)) := by
  unfold impl_OnOk.f OnP
  rw [i_within, i_within]
  simp only [Option.bind_some]
  by_cases h1 : k = 1
  · subst h1; by_cases h : 1 ≤ d ∧ d ≤ 31 <;> by_cases hw : w = 0 <;> simp [h, hw]
  · rw [if_neg h1]
    by_cases h2 : k = 2
    · subst h2; by_cases h : d = 0 <;> by_cases hw : 0 ≤ w ∧ w ≤ 6 <;> simp [h, hw]
    · rw [if_neg h2]
      by_cases h3 : k = 3
      · subst h3; by_cases h : 1 ≤ d ∧ d ≤ 31 <;> by_cases hw : 0 ≤ w ∧ w ≤ 6 <;> simp [h, hw]
      · simp [h1, h2, h3]
theorem s_OnOk (k d w : Int) : spec_OnOk.f k d w = some (decide (OnP k d w)) := by
  unfold spec_OnOk.f OnP
  rw [s_In, s_In]
  simp only [Option.bind_some]
  by_cases h1 : k = 1
  · subst h1; by_cases h : 1 ≤ d ∧ d ≤ 31 <;> by_cases hw : w = 0 <;> simp [h, hw]
  · rw [if_neg h1]
    by_cases h2 : k = 2
    · subst h2; by_cases h : d = 0 <;> by_cases hw : 0 ≤ w ∧ w ≤ 6 <;> simp [h, hw]
    · rw [if_neg h2]
      by_cases h3 : k = 3
      · subst h3; by_cases h : 1 ≤ d ∧ d ≤ 31 <;> by_cases hw : 0 ≤ w ∧ w ≤ 6 <;> simp [h, hw]
      · simp [h1, h2, h3]

/-- A number of 0 .. 31 in decimal digits. -/
def nT (n : Int) : ByteArray := if n < 10 then strOfNums [(wrap64 (48 + n)) % 256] else strOfNums [(wrap64 (48 + n / 10)) % 256] ++ strOfNums [(wrap64 (48 + n % 10)) % 256]
theorem small_all : ∀ n : Nat, n < 32 → (strconv_small.f (n : Int)).map (fun b => b.data.toList) = some ((nT (n : Int)).data.toList) := by decide +kernel
theorem nT_size : ∀ n : Nat, n < 32 → (nT (n : Int)).data.size ≤ 2 := by decide +kernel
theorem i_small (n : Nat) (h : n < 32) : strconv_small.f (n : Int) = some (nT (n : Int)) := by
  have e := small_all n h
  cases hb : strconv_small.f (n : Int) with
  | none => rw [hb] at e; simp at e
  | some b =>
    rw [hb] at e
    simp only [Option.map_some, Option.some.injEq] at e
    exact congrArg some (ByteArray.ext (Array.ext' e))
theorem i_digits (n : Nat) (h : n < 32) : Ev (fun k => impl_digits.f k (n : Int)) (nT (n : Int)) := by
  unfold impl_digits.f strconv_Itoa_13.f strconv_Itoa_14.f strconv_FormatInt.f
  simp only [if_true, if_pos (show 0 ≤ (n : Int) by omega), decide_eq_true (show (n : Int) < 100 by omega)]
  have e : Ev (fun k => strconv_FormatInt.j0 k (n : Int) true) (nT (n : Int)) := by
    refine Ev.step (fun k => by rw [strconv_FormatInt.j0]) ?_
    simp only [if_true, i_small n h, Option.bind_some]
    exact Ev.now _
  exact Ev.bind (Ev.bind (Ev.bind e (Ev.now _)) (Ev.now _)) (Ev.now _)
theorem s_num0 (n : Nat) (h : n < 10) : Ev (fun k => spec_l12Num.f k (n : Int)) (strOfNums [(wrap64 (48 + (n : Int))) % 256]) := by
  refine Ev.step (fun k => by rw [spec_l12Num.f]) ?_
  simp only [if_neg (show ¬ (n : Int) < 0 by omega), if_pos (show (n : Int) < 10 by omega)]
  exact Ev.now _
theorem one_size (x : Int) : (strOfNums [x]).size = 1 := rfl
theorem s_num (n : Nat) (h : n < 32) : Ev (fun k => spec_l12Num.f k (n : Int)) (nT (n : Int)) := by
  unfold nT
  by_cases h0 : (n : Int) < 10
  · rw [if_pos h0]
    exact s_num0 n (by omega)
  · rw [if_neg h0]
    have e := s_num0 (n / 10) (by omega)
    have en : ((n / 10 : Nat) : Int) = (n : Int) / 10 := by omega
    rw [en] at e
    refine Ev.step (fun k => by rw [spec_l12Num.f]) ?_
    rw [Int.tdiv_eq_ediv_of_nonneg (by omega), w64 ((n : Int) / 10) (by omega) (by omega), tmn 10 (show 0 ≤ (n : Int) by omega)]
    simp only [if_neg (show ¬ (n : Int) < 0 by omega), if_neg h0]
    refine Ev.bind e ?_
    simp only [Option.bind_some, one_size, if_pos (show 1 + 1 ≤ 9223372036854775807 by decide)]
    exact Ev.now _

theorem FnExactOnText : ∀ (a0_0 : Int) (a0_1 : Int) (a0_2 : Int), (Lit.int .i64 a0_0).wf = true → (Lit.int .i64 a0_1).wf = true → (Lit.int .i64 a0_2).wf = true → ∃ k, laws_FnExactOnText.f k a0_0 a0_1 a0_2 = some true := by
  intro q d w _ _ _
  refine Ev.rounds ?_
  have key : ∃ R, Ev (fun k => spec_OnText.f k q d w) R ∧ Ev (fun k => impl_OnText.f k q d w) R := by
    unfold spec_OnText.f impl_OnText.f
    rw [s_OnOk, i_OnOk]
    simp only [Option.bind_some]
    by_cases h : OnP q d w
    · simp only [decide_eq_true h, if_true]
      have tx : ∀ n : Int, 0 ≤ n → n ≤ 31 → Ev (fun k => spec_l12Num.f k n) (nT n) ∧ Ev (fun k => impl_digits.f k n) (nT n) ∧ (nT n).size ≤ 2 := by
        intro n h0 h1
        obtain ⟨m, rfl⟩ := Int.eq_ofNat_of_zero_le h0
        exact ⟨s_num m (by omega), i_digits m (by omega), nT_size m (by omega)⟩
      unfold OnP at h
      by_cases h1 : q = 1
      · obtain ⟨s1, i1, z1⟩ := tx d (by omega) (by omega)
        simp only [if_pos h1]
        exact ⟨_, Ev.bind s1 (Ev.now _), Ev.bind i1 (Ev.now _)⟩
      · by_cases h2 : q = 2
        · obtain ⟨s1, i1, z1⟩ := tx w (by omega) (by omega)
          simp only [if_neg h1, if_pos h2]
          refine ⟨(⟨#[108, 97, 115, 116]⟩ : ByteArray) ++ nT w, Ev.bind s1 ?_, Ev.bind i1 ?_⟩
          · simp only [if_pos (show 4 + (nT w).size ≤ 9223372036854775807 by omega)]
            exact Ev.now _
          · simp only [if_pos (show 4 + (nT w).size ≤ 9223372036854775807 by omega)]
            exact Ev.now _
        · obtain ⟨s1, i1, z1⟩ := tx w (by omega) (by omega)
          obtain ⟨s2, i2, z2⟩ := tx d (by omega) (by omega)
          simp only [if_neg h1, if_neg h2]
          refine ⟨(nT w ++ (⟨#[62, 61]⟩ : ByteArray)) ++ nT d, Ev.bind s1 ?_, Ev.bind i1 ?_⟩
          · simp only [if_pos (show (nT w).size + 2 ≤ 9223372036854775807 by omega)]
            refine Ev.bind s2 ?_
            simp only [if_pos (show (nT w).size + 2 + (nT d).size ≤ 9223372036854775807 by omega)]
            exact Ev.now _
          · simp only [if_pos (show (nT w).size + 2 ≤ 9223372036854775807 by omega)]
            refine Ev.bind i2 ?_
            simp only [if_pos (show (nT w).size + 2 + (nT d).size ≤ 9223372036854775807 by omega)]
            exact Ev.now _
    · simp only [decide_eq_false h, Bool.false_eq_true, if_false]
      exact ⟨_, Ev.now _, Ev.now _⟩
  obtain ⟨R, hs, hi⟩ := key
  unfold laws_FnExactOnText.f laws_toOn.f
  simp only [Option.bind_some]
  refine Ev.bind hs (Ev.bind hi ?_)
  simp only [if_true]
  exact Ev.now _

end Go.Proofs.YtkjggdbephdjaaaDoor.Pure
