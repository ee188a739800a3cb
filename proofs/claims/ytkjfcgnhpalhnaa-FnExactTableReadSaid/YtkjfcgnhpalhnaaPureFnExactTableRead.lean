/- The law FnExactTableRead answers true for every argument. No condition. -/
import Derived.Test.YtkjfcgnhpalhnaaQFnExactTableReadx8
namespace Go.Proofs.Ytkjfcgnhpalhnaa.Pure
open Go.RowKit Go.Proofs.Ytkjfcgnhpalhnaa.QFnExactTableRead Go.Proofs.YtkjfcgnhpalhnaaW.PrintWords Go.Proofs.YtkjfcgnhpalhnaaW.PrintLast
set_option linter.unusedVariables false
set_option linter.unusedSimpArgs false

theorem w64 (n : Int) (h0 : -9223372036854775808 ≤ n) (h1 : n ≤ 9223372036854775807) : wrap64 n = n := by unfold wrap64; omega
theorem tmn {a : Int} (b : Int) (h : 0 ≤ a) : Int.tmod a b = a % b := Int.tmod_eq_emod_of_nonneg h
theorem wfi {x : Int} (h : (Lit.int .i64 x).wf = true) : -9223372036854775808 ≤ x ∧ x ≤ 9223372036854775807 := by
  simp [Lit.wf, IntKind.min, IntKind.max, IntKind.signed, IntKind.bits] at h
  omega
theorem wf8 {x : Int} (h : (Lit.int .u8 x).wf = true) : 0 ≤ x ∧ x ≤ 255 := by
  simp [Lit.wf, IntKind.min, IntKind.max, IntKind.signed, IntKind.bits] at h
  omega
theorem evc {α : Type} {g : Nat → Option α} {r : α} (h : ∀ k, g k = some r) : Ev g r := ⟨0, fun k _ => h k⟩
theorem getD_mem {α : Type} (l : List α) (n : Nat) (z : α) (h : n < l.length) : l.getD n z ∈ l := by
  rw [List.getD_eq_getElem?_getD, List.getElem?_eq_getElem h]
  exact List.getElem_mem h
theorem ex_step {α : Type} {g f : Nat → Option α} (h : ∀ k, g (k + 1) = f k) (e : ∃ r, Ev f r) : ∃ r, Ev g r := by
  obtain ⟨r, e⟩ := e
  exact ⟨r, Ev.step h e⟩
theorem ex_bind {α β : Type} {g : Nat → Option α} {f : Nat → α → Option β} {a : α} (h : Ev g a) (e : ∃ r, Ev (fun n => f n a) r) : ∃ r, Ev (fun n => (g n).bind (f n)) r := by
  obtain ⟨r, e⟩ := e
  exact ⟨r, Ev.bind h e⟩

theorem ev_same {α : Type} {g : Nat → Option α} {r s : α} (h : Ev g r) (k : Ev g s) : r = s := by
  obtain ⟨K, h⟩ := h
  obtain ⟨K', k⟩ := k
  have h1 := h (max K K') (by omega)
  have h2 := k (max K K') (by omega)
  rw [h1] at h2
  exact Option.some.inj h2

theorem up_ind (n : Nat) (P : Nat → Prop) (he : P n) (hs : ∀ i, i < n → P (i + 1) → P i) (i : Nat) (h : i ≤ n) : P i := by
  have key : ∀ (d i : Nat), i + d = n → P i := by
    intro d
    induction d with
    | zero => intro i h; obtain rfl : i = n := by omega
              exact he
    | succ d ih => intro i h; exact hs i (by omega) (ih (i + 1) (by omega))
  exact key (n - i) i (by omega)
theorem eq_fill {β : Type} (y : Nat → β) (n : Nat) (ys : List β) (hl : ys.length = n) (h : ∀ j, j < n → ys[j]? = some (y j)) : ys = (List.range n).map y := by
  apply List.ext_getElem?
  intro j
  by_cases hj : j < n
  · rw [h j hj]; simp [hj]
  · rw [List.getElem?_eq_none (by omega), List.getElem?_eq_none (by simp; omega)]
theorem map_rd {α β : Type} (l : List α) (z : α) (f : α → β) : (List.range l.length).map (fun i => f (l.getD i z)) = l.map f := by
  apply List.ext_getElem?
  intro j
  by_cases hj : j < l.length
  · simp [hj, List.getD]
  · rw [List.getElem?_eq_none (by simp; omega), List.getElem?_eq_none (by simp; omega)]
theorem set_fill {β : Type} (y : Nat → β) (i : Nat) (ys : List β) (h : ∀ j, j < i → ys[j]? = some (y j)) (hi : i < ys.length) : ∀ j, j < i + 1 → (ys.set i (y i))[j]? = some (y j) := by
  intro j hj
  by_cases e : j = i
  · subst e; rw [List.getElem?_set_self hi]
  · rw [List.getElem?_set_ne (by omega)]; exact h j (by omega)
theorem inc (i : Nat) (h : i < 1000000000000000) : wrap64 ((i : Int) + 1) = ((i + 1 : Nat) : Int) := by rw [w64 _ (by omega) (by omega)]; omega

theorem i_within (n a b : Int) : impl_within.f n a b = some (decide (a ≤ n ∧ n ≤ b)) := by
  unfold impl_within.f
  by_cases h : n ≥ a
  · rw [if_pos h]; simp [show a ≤ n from h]
  · rw [if_neg h]; simp [show ¬ a ≤ n from h]

theorem s_In (n a b : Int) : spec_l1In.f n a b = some (decide (a ≤ n ∧ n ≤ b)) := by
  unfold spec_l1In.f
  by_cases h : n ≥ a
  · rw [if_pos h]; simp [show a ≤ n from h]
  · rw [if_neg h]; simp [show ¬ a ≤ n from h]

theorem eq_shifts (l : List S88) (hl : l.length ≤ 1048576) : Ev (fun k => laws_eqShiftS.f k l l) true := by
  unfold laws_eqShiftS.f
  simp only [if_true]
  have key := up_ind l.length (fun i => Ev (fun k => laws_eqShiftS.l0 k l l (i : Int)) true)
    (by
      refine Ev.step (fun k => by rw [laws_eqShiftS.l0]) ?_
      simp only [Int.lt_irrefl, if_false]
      exact Ev.now _)
    (by
      intro i hi ih
      refine Ev.step (fun k => by rw [laws_eqShiftS.l0]) ?_
      unfold laws_eqShift.f
      simp only [if_pos (show (i : Int) < (l.length : Int) by omega), if_pos (show 0 ≤ (i : Int) by omega), if_true, Option.bind_some]
      rw [inc i (by omega)]
      exact ih)
  exact key 0 (by omega)
theorem eq_table (f : Int) (l : List S88) (hl : l.length ≤ 1048576) : Ev (fun k => laws_eqTable.f k f l f l) true := by
  unfold laws_eqTable.f
  simp only [if_true]
  refine Ev.bind (eq_shifts l hl) ?_
  simp only [if_true]
  exact Ev.now _
/-- What each shift must be: from i on, Off ahead being off. -/
def tk (l : List S88) : Nat → Int → Nat → Bool
  | 0, _, _ => true
  | d + 1, off, i =>
    decide (-1000000000 ≤ (rd_T88 l (i : Int)).f0 ∧ (rd_T88 l (i : Int)).f0 ≤ 1000000000) && (decide (i = 0) || decide ((rd_T88 l ((i : Int) - 1)).f0 < (rd_T88 l (i : Int)).f0)) &&
    decide (-2000 ≤ (rd_T88 l (i : Int)).f1 ∧ (rd_T88 l (i : Int)).f1 ≤ 2000) && decide (¬ (rd_T88 l (i : Int)).f1 = off) && tk l d (rd_T88 l (i : Int)).f1 (i + 1)
def tOk (f : Int) (l : List S88) : Bool := decide (-2000 ≤ f ∧ f ≤ 2000) && decide ((l.length : Int) ≤ 300) && tk l l.length f 0
theorem s_tokl (f : Int) (l : List S88) (hl : l.length ≤ 1048576) : ∀ (d : Nat) (off : Int) (i : Nat), i + d = l.length → Ev (fun k => spec_TableOk.l0 k off (i : Int) f l) (tk l d off i) := by
  intro d
  induction d with
  | zero =>
    intro off i h
    refine Ev.step (fun k => by rw [spec_TableOk.l0]) ?_
    simp only [if_neg (show ¬ (i : Int) < (l.length : Int) by omega)]
    exact Ev.now _
  | succ d ih =>
    intro off i h
    have ih' := ih (rd_T88 l (i : Int)).f1 (i + 1) (by omega)
    refine Ev.step (fun k => by rw [spec_TableOk.l0]) ?_
    rw [s_In, s_In, inc i (by omega)]
    simp only [Option.bind_some, if_pos (show (i : Int) < (l.length : Int) by omega), if_pos (show 0 ≤ (i : Int) by omega), tk]
    by_cases h1 : -1000000000 ≤ (rd_T88 l (i : Int)).f0 ∧ (rd_T88 l (i : Int)).f0 ≤ 1000000000
    · simp only [decide_eq_true h1, if_true, Bool.true_and]
      have tail : Ev (fun k => if decide (-2000 ≤ (rd_T88 l (i : Int)).f1 ∧ (rd_T88 l (i : Int)).f1 ≤ 2000) = true then (if (rd_T88 l (i : Int)).f1 = off then some false else spec_TableOk.l0 k (rd_T88 l (i : Int)).f1 ((i + 1 : Nat) : Int) f l) else some false) (decide (-2000 ≤ (rd_T88 l (i : Int)).f1 ∧ (rd_T88 l (i : Int)).f1 ≤ 2000) && decide (¬ (rd_T88 l (i : Int)).f1 = off) && tk l d (rd_T88 l (i : Int)).f1 (i + 1)) := by
        by_cases h2 : -2000 ≤ (rd_T88 l (i : Int)).f1 ∧ (rd_T88 l (i : Int)).f1 ≤ 2000
        · simp only [decide_eq_true h2, if_true, Bool.true_and]
          by_cases h3 : (rd_T88 l (i : Int)).f1 = off
          · simp only [if_pos h3, decide_eq_false (show ¬ ¬ (rd_T88 l (i : Int)).f1 = off from fun h => h h3), Bool.false_and]
            exact Ev.now _
          · simp only [if_neg h3, decide_eq_true h3, Bool.true_and]
            exact ih'
        · simp only [decide_eq_false h2, Bool.false_eq_true, if_false, Bool.false_and]
          exact Ev.now _
      by_cases h0 : i = 0
      · simp only [if_neg (show ¬ (i : Int) > 0 by omega), decide_eq_true h0, Bool.true_or, Bool.true_and]
        exact tail
      · rw [w64 ((i : Int) - 1) (by omega) (by omega)]
        simp only [if_pos (show (i : Int) > 0 by omega), if_pos (show 0 ≤ (i : Int) - 1 by omega), if_pos (show (i : Int) - 1 < (l.length : Int) by omega), decide_eq_false h0, Bool.false_or]
        by_cases h4 : (rd_T88 l ((i : Int) - 1)).f0 ≥ (rd_T88 l (i : Int)).f0
        · simp only [if_pos h4, decide_eq_false (show ¬ (rd_T88 l ((i : Int) - 1)).f0 < (rd_T88 l (i : Int)).f0 by omega), Bool.false_and]
          exact Ev.now _
        · simp only [if_neg h4, decide_eq_true (show (rd_T88 l ((i : Int) - 1)).f0 < (rd_T88 l (i : Int)).f0 by omega), Bool.true_and]
          exact tail
    · simp only [decide_eq_false h1, Bool.false_eq_true, if_false, Bool.false_and]
      exact Ev.now _
theorem s_TableOk (f : Int) (l : List S88) (hl : l.length ≤ 1048576) : Ev (fun k => spec_TableOk.f k f l) (tOk f l) := by
  unfold spec_TableOk.f tOk
  rw [s_In]
  simp only [Option.bind_some]
  have no : ∀ b : Bool, b = true → Ev (fun k => spec_TableOk.j0 k b f l) false := by
    intro b hb
    refine Ev.step (fun k => by rw [spec_TableOk.j0]) ?_
    simp only [hb, if_true]
    exact Ev.now _
  by_cases h1 : -2000 ≤ f ∧ f ≤ 2000
  · simp only [decide_eq_true h1, if_true, Bool.true_and]
    by_cases h2 : (l.length : Int) > 300
    · simp only [decide_eq_false (show ¬ (l.length : Int) ≤ 300 by omega), Bool.false_and]
      exact no _ (decide_eq_true h2)
    · simp only [decide_eq_true (show (l.length : Int) ≤ 300 by omega), Bool.true_and, decide_eq_false h2]
      refine Ev.step (fun k => by rw [spec_TableOk.j0]) ?_
      simp only [Bool.false_eq_true, if_false]
      exact s_tokl f l hl l.length f 0 (by omega)
  · simp only [decide_eq_false h1, Bool.false_eq_true, if_false, Bool.false_and]
    exact no true rfl
theorem i_isMinute (n : Int) : impl_isMinute.f n = some (decide (-1000000000 ≤ n ∧ n ≤ 1000000000)) := by unfold impl_isMinute.f; rw [i_within]; rfl
theorem i_isOff (n : Int) : impl_isOff.f n = some (decide (-2000 ≤ n ∧ n ≤ 2000)) := by unfold impl_isOff.f; rw [i_within]; rfl
theorem i_tokl (f : Int) (l : List S88) (hl : l.length ≤ 1048576) : ∀ (d : Nat) (off : Int) (i : Nat), i + d = l.length → Ev (fun k => impl_TableOk.l0 k off l (l.length : Int) (i : Int) f l) (tk l d off i && (decide (-2000 ≤ f ∧ f ≤ 2000) && decide ((l.length : Int) ≤ 300))) := by
  intro d
  induction d with
  | zero =>
    intro off i h
    refine Ev.step (fun k => by rw [impl_TableOk.l0]) ?_
    rw [i_isOff f]
    simp only [if_neg (show ¬ (i : Int) < (l.length : Int) by omega), Option.bind_some, tk, Bool.true_and]
    by_cases h1 : -2000 ≤ f ∧ f ≤ 2000
    · simp only [decide_eq_true h1, if_true, Bool.true_and]; exact Ev.now _
    · simp only [decide_eq_false h1, Bool.false_eq_true, if_false, Bool.false_and]; exact Ev.now _
  | succ d ih =>
    intro off i h
    have ih' := ih (rd_T88 l (i : Int)).f1 (i + 1) (by omega)
    refine Ev.step (fun k => by rw [impl_TableOk.l0]) ?_
    rw [i_isMinute, i_isOff, inc i (by omega)]
    simp only [Option.bind_some, if_pos (show (i : Int) < (l.length : Int) by omega), if_pos (show 0 ≤ (i : Int) by omega), tk]
    by_cases h1 : -1000000000 ≤ (rd_T88 l (i : Int)).f0 ∧ (rd_T88 l (i : Int)).f0 ≤ 1000000000
    · simp only [decide_eq_true h1, if_true, Bool.true_and]
      have tail : Ev (fun k => if decide (-2000 ≤ (rd_T88 l (i : Int)).f1 ∧ (rd_T88 l (i : Int)).f1 ≤ 2000) = true then (if (rd_T88 l (i : Int)).f1 = off then some false else impl_TableOk.l0 k (rd_T88 l (i : Int)).f1 l (l.length : Int) ((i + 1 : Nat) : Int) f l) else some false) (decide (-2000 ≤ (rd_T88 l (i : Int)).f1 ∧ (rd_T88 l (i : Int)).f1 ≤ 2000) && decide (¬ (rd_T88 l (i : Int)).f1 = off) && tk l d (rd_T88 l (i : Int)).f1 (i + 1) && (decide (-2000 ≤ f ∧ f ≤ 2000) && decide ((l.length : Int) ≤ 300))) := by
        by_cases h2 : -2000 ≤ (rd_T88 l (i : Int)).f1 ∧ (rd_T88 l (i : Int)).f1 ≤ 2000
        · simp only [decide_eq_true h2, if_true, Bool.true_and]
          by_cases h3 : (rd_T88 l (i : Int)).f1 = off
          · simp only [if_pos h3, decide_eq_false (show ¬ ¬ (rd_T88 l (i : Int)).f1 = off from fun h => h h3), Bool.false_and]
            exact Ev.now _
          · simp only [if_neg h3, decide_eq_true h3, Bool.true_and]
            exact ih'
        · simp only [decide_eq_false h2, Bool.false_eq_true, if_false, Bool.false_and]
          exact Ev.now _
      by_cases h0 : i = 0
      · simp only [if_neg (show ¬ (i : Int) > 0 by omega), decide_eq_true h0, Bool.true_or, Bool.true_and]
        exact tail
      · rw [w64 ((i : Int) - 1) (by omega) (by omega)]
        simp only [if_pos (show (i : Int) > 0 by omega), if_pos (show 0 ≤ (i : Int) - 1 by omega), if_pos (show (i : Int) - 1 < (l.length : Int) by omega), decide_eq_false h0, Bool.false_or]
        by_cases h4 : (rd_T88 l ((i : Int) - 1)).f0 ≥ (rd_T88 l (i : Int)).f0
        · simp only [if_pos h4, decide_eq_false (show ¬ (rd_T88 l ((i : Int) - 1)).f0 < (rd_T88 l (i : Int)).f0 by omega), Bool.false_and]
          exact Ev.now _
        · simp only [if_neg h4, decide_eq_true (show (rd_T88 l ((i : Int) - 1)).f0 < (rd_T88 l (i : Int)).f0 by omega), Bool.true_and]
          exact tail
    · simp only [decide_eq_false h1, Bool.false_eq_true, if_false, Bool.false_and]
      exact Ev.now _
theorem i_TableOk (f : Int) (l : List S88) (hl : l.length ≤ 1048576) : Ev (fun k => impl_TableOk.f k f l) (tOk f l) := by
  unfold impl_TableOk.f
  have := i_tokl f l hl l.length f 0 (by omega)
  have e : tOk f l = (tk l l.length f 0 && (decide (-2000 ≤ f ∧ f ≤ 2000) && decide ((l.length : Int) ≤ 300))) := by unfold tOk; rw [Bool.and_comm]
  rw [e]
  exact this

theorem tk_get {l : List S88} : ∀ (d : Nat) (off : Int) (i : Nat), tk l d off i = true → ∀ j, i ≤ j → j < i + d → (-1000000000 ≤ (rd_T88 l (j : Int)).f0 ∧ (rd_T88 l (j : Int)).f0 ≤ 1000000000) ∧ (-2000 ≤ (rd_T88 l (j : Int)).f1 ∧ (rd_T88 l (j : Int)).f1 ≤ 2000) := by
  intro d
  induction d with
  | zero => intro off i h j h1 h2; omega
  | succ d ih =>
    intro off i h j h1 h2
    unfold tk at h
    simp only [Bool.and_eq_true, decide_eq_true_eq] at h
    obtain ⟨⟨⟨⟨a, _⟩, b⟩, _⟩, c⟩ := h
    by_cases e : j = i
    · subst e; exact ⟨a, b⟩
    · exact ih _ (i + 1) c j (by omega) (by omega)

theorem pow63 : (2 : Nat) ^ 63 = 9223372036854775808 := by decide
theorem or_shl (x i P : Nat) (c : Int) (hi : i ≤ 8) (hP : P = 2 ^ (7 * i)) (hPb : 128 * P ≤ 9223372036854775808) (hx : x < P) (h0 : 0 ≤ c) (h1 : c ≤ 255) : Go.bits .or .i64 (x : Int) (shl .i64 (Go.bits .and .i64 c 127) (wrap64 (7 * (i : Int)))) = ((x + (c.toNat % 128) * P : Nat) : Int) := by
  have i63 : (2 : Int) ^ 63 = 9223372036854775808 := by decide
  have wr : ∀ n : Int, 0 ≤ n → n < 2 ^ 63 → IntKind.i64.wrap n = n := by
    intro n a b
    rw [Go.IntKind.wrap_i64]
    rw [i63] at b
    clear hP
    omega
  have hc63 : c < 2 ^ 63 := by rw [i63]; clear wr hP; omega
  have e1 : Go.bits .and .i64 c 127 = c % 128 := bits_mask .i64 63 (by decide) wr 7 (by decide) c h0 hc63
  obtain ⟨d, hd⟩ : ∃ d, d = c.toNat % 128 := ⟨_, rfl⟩
  have hd2 : d ≤ 127 := by clear wr hP; omega
  have ec : c % 128 = ((d : Nat) : Int) := by clear wr hP; omega
  have hmul : d * P ≤ 127 * P := Nat.mul_le_mul_right _ hd2
  obtain ⟨D, hD⟩ : ∃ D, D = d * P := ⟨_, rfl⟩
  have hDb : D < 9223372036854775808 := by rw [← hD] at hmul; clear wr hP hD; omega
  have hxb : x < 9223372036854775808 := by clear wr hP hD hmul; omega
  have e2 : shl .i64 (c % 128) (wrap64 (7 * (i : Int))) = ((D : Nat) : Int) := by
    unfold shl
    have e7 : wrap64 (7 * (i : Int)) = 7 * (i : Int) := by clear wr hP hD hmul; exact w64 _ (by omega) (by omega)
    have hm : min (7 * (i : Int)).toNat (IntKind.i64).bits = 7 * i := by
      have h64 : (IntKind.i64).bits = 64 := rfl
      clear wr hP hD hmul
      omega
    rw [e7, hm, ec]
    have e : (((d : Nat) : Int) * 2 ^ (7 * i)) = ((D : Nat) : Int) := by rw [hD, hP]; push_cast; rfl
    rw [e]
    exact wr _ (Int.natCast_nonneg _) (by rw [i63]; clear wr hP hD hmul; omega)
  have n63 := pow63
  have e3 : Go.bits .or .i64 (x : Int) ((D : Nat) : Int) = ((x ||| D : Nat) : Int) := (bits_nat .i64 63 (by decide) wr x D (by rw [n63]; exact hxb) (by rw [n63]; exact hDb)).2
  rw [← hd, e1, e2, e3]
  have h := Nat.two_pow_add_eq_or_of_lt (i := 7 * i) (b := x) (by rw [← hP]; exact hx) d
  rw [← hP, Nat.mul_comm, ← hD] at h
  rw [Nat.or_comm, ← h, Nat.add_comm, ← hD]
/-- What GetNum tells: nothing, or a number and where it ends. -/
def gOk (b : List Int) (a : Nat) (R : Int × Int × Bool) : Prop := R = (0, 0, false) ∨ ∃ m n : Nat, R = ((m : Int), (n : Int), true) ∧ a < n ∧ n ≤ b.length ∧ m < 9223372036854775808
theorem getnum (b : List Int) (hb : ∀ j, j < b.length → 0 ≤ rd b (j : Int) ∧ rd b (j : Int) ≤ 255) (hl : b.length ≤ 1048576) (a : Nat) (ha : a ≤ b.length) : ∃ R, Ev (fun k => spec_GetNum.f k b (a : Int)) R ∧ Ev (fun k => impl_GetNum.f k b (a : Int)) R ∧ gOk b a R := by
  have key := up_ind 9 (fun i => ∀ (x : Nat) (u : Int), x < 2 ^ (7 * i) → (i < 9 → u = ((2 ^ (7 * i) : Nat) : Int)) → ∃ R, Ev (fun k => spec_GetNum.l0 k b (a : Int) (x : Int) u (i : Int)) R ∧ Ev (fun k => impl_GetNum.l0 k b (a : Int) (x : Int) (i : Int)) R ∧ gOk b a R)
    (by
      intro x u hx hu
      refine ⟨(0, 0, false), Ev.step (fun k => by rw [spec_GetNum.l0]) ?_, Ev.step (fun k => by rw [impl_GetNum.l0]) ?_, .inl rfl⟩
      · simp only [if_neg (show ¬ ((9 : Nat) : Int) < 9 by omega)]
        refine Ev.step (fun k => by rw [spec_GetNum.j2]) ?_
        simp only [Bool.false_eq_true, if_false]
        exact Ev.now _
      · simp only [if_neg (show ¬ ((9 : Nat) : Int) < 9 by omega)]
        refine Ev.step (fun k => by rw [impl_GetNum.j1]) ?_
        simp only [Bool.false_eq_true, if_false]
        exact Ev.now _)
    (by
      intro i hi ih x u hx hu
      have hu := hu hi
      have ei0 : wrap64 ((a : Int) + (i : Int)) = ((a + i : Nat) : Int) := by rw [w64 _ (by clear hu hx ih; omega) (by clear hu hx ih; omega)]; clear hu hx ih; omega
      have ei := Aside0.mk ei0
      clear ei0
      have hle : (2 : Nat) ^ (7 * i) ≤ 2 ^ 56 := Nat.pow_le_pow_right (by decide) (by clear hu hx ih; omega)
      have hp2 : (2 : Nat) ^ (7 * (i + 1)) = 128 * 2 ^ (7 * i) := by rw [show 7 * (i + 1) = 7 + 7 * i by clear hu hx ih hle; omega, Nat.pow_add]
      rw [hp2] at ih
      have p56 : (2 : Nat) ^ 56 = 72057594037927936 := by decide
      rw [p56] at hle
      have hPi : i + 1 < 9 → (2 : Nat) ^ (7 * i) ≤ 562949953421312 := fun h9 => by
        have h49 : (2 : Nat) ^ (7 * i) ≤ 2 ^ 49 := Nat.pow_le_pow_right (by decide) (by clear hu hx ih hle; omega)
        rw [show (2 : Nat) ^ 49 = 562949953421312 by decide] at h49
        exact h49
      clear p56 hp2
      have or_ : ∀ c : Int, 0 ≤ c → c ≤ 255 → Go.bits .or .i64 (x : Int) (shl .i64 (Go.bits .and .i64 c 127) (wrap64 (7 * (i : Int)))) = ((x + (c.toNat % 128) * 2 ^ (7 * i) : Nat) : Int) := fun c c0 c1 => or_shl x i _ c (by clear hu hx ih hle; omega) rfl (Nat.le_trans (Nat.mul_le_mul_left 128 hle) (by decide)) hx c0 c1
      generalize (2 : Nat) ^ (7 * i) = P at ih hx hu hle or_ hPi
      by_cases h : a + i < b.length
      · obtain ⟨c0, c1⟩ := hb (a + i) h
        have eo := or_ (rd b ((a + i : Nat) : Int)) c0 c1
        clear or_
        have es : wrap64 ((x : Int) + (wrap64 ((Int.tmod (rd b ((a + i : Nat) : Int)) 128) * u))) = ((x + ((rd b ((a + i : Nat) : Int)).toNat % 128) * P : Nat) : Int) ∧ x + ((rd b ((a + i : Nat) : Int)).toNat % 128) * P < 128 * P := by
          rw [tmn 128 c0, hu]
          clear hu ih eo
          generalize rd b ((a + i : Nat) : Int) = c at c0 c1
          have e : c % 128 * ((P : Nat) : Int) = ((c.toNat % 128 * P : Nat) : Int) := by
            rw [Int.natCast_mul]
            congr 1
            omega
          have hm : c.toNat % 128 * P ≤ 127 * P := Nat.mul_le_mul_right _ (by omega)
          rw [e]
          generalize c.toNat % 128 * P = D at hm
          refine ⟨?_, by omega⟩
          rw [w64 (D : Int) (by omega) (by omega), w64 _ (by omega) (by omega)]
          omega
        obtain ⟨es, lo⟩ := es
        have hlo : ((rd b ((a + i : Nat) : Int)).toNat % 128) * P ≤ 9223372036854775807 := by
          generalize ((rd b ((a + i : Nat) : Int)).toNat % 128) * P = D at lo
          clear eo hu ih es
          omega
        have hlx : x + ((rd b ((a + i : Nat) : Int)).toNat % 128) * P < 9223372036854775808 := Nat.lt_of_lt_of_le lo (Nat.le_trans (Nat.mul_le_mul_left 128 hle) (by decide))
        generalize ((rd b ((a + i : Nat) : Int)).toNat % 128) * P = D at eo es lo hlo hlx
        have Eo := Aside0.mk eo
        have Es := Aside0.mk es
        clear eo es
        have en0 : wrap64 (((a + i : Nat) : Int) + 1) = ((a + i + 1 : Nat) : Int) := inc (a + i) (by omega)
        have en := Aside0.mk en0
        clear en0
        have e70 : wrap64 (7 * (i : Int)) = 7 * (i : Int) := w64 _ (by omega) (by omega)
        have e7 := Aside0.mk e70
        clear e70
        have er0 : wrap64 (rd b ((a + i : Nat) : Int)) = rd b ((a + i : Nat) : Int) := w64 _ (by omega) (by omega)
        have er := Aside0.mk er0
        clear er0
        have spec1 : ∀ R, Ev (fun k => spec_GetNum.j2 k b (a : Int) (x : Int) u (i : Int) true) R → Ev (fun k => spec_GetNum.l0 k b (a : Int) (x : Int) u (i : Int)) R := by
          intro R hR
          refine Ev.step (fun k => by rw [spec_GetNum.l0]) ?_
          simp only [if_pos (show (i : Int) < 9 by omega), ei.out, decide_eq_true (show ((a + i : Nat) : Int) < (b.length : Int) by omega)]
          exact hR
        have impl1 : ∀ R, Ev (fun k => impl_GetNum.j1 k b (a : Int) (x : Int) (i : Int) true) R → Ev (fun k => impl_GetNum.l0 k b (a : Int) (x : Int) (i : Int)) R := by
          intro R hR
          refine Ev.step (fun k => by rw [impl_GetNum.l0]) ?_
          simp only [if_pos (show (i : Int) < 9 by omega), w64 ((b.length : Int) - (a : Int)) (by omega) (by omega), decide_eq_true (show (i : Int) < (b.length : Int) - (a : Int) by omega)]
          exact hR
        by_cases hc : rd b ((a + i : Nat) : Int) > 127
        · obtain ⟨R, h1, h2, h3⟩ := ih (x + D) (wrap64 (u * 128)) lo (fun h9 => by
            clear ih lo hlo hlx
            have hP2 : P ≤ 562949953421312 := by
              clear hu
              exact hPi h9
            rw [hu, w64 _ (by omega) (by omega)]
            omega)
          refine ⟨R, spec1 R (Ev.step (fun k => by rw [spec_GetNum.j2]) ?_), impl1 R (Ev.step (fun k => by rw [impl_GetNum.j1]) ?_), h3⟩
          · simp only [if_true, ei.out, er.out, Es.out, if_pos (show 0 ≤ ((a + i : Nat) : Int) by omega), if_pos (show ((a + i : Nat) : Int) < (b.length : Int) by omega), if_neg (show ¬ rd b ((a + i : Nat) : Int) < 128 by omega)]
            rw [inc i (by omega)]
            exact h1
          · simp only [if_true, ei.out, er.out, Eo.out, e7.out, if_pos (show 0 ≤ 7 * (i : Int) by omega), if_pos (show 0 ≤ ((a + i : Nat) : Int) by omega), if_pos (show ((a + i : Nat) : Int) < (b.length : Int) by omega), if_pos hc]
            rw [← e7.out, Eo.out, inc i (by omega)]
            exact h2
        · by_cases hz : 0 < i ∧ rd b ((a + i : Nat) : Int) = 0
          · refine ⟨(0, 0, false), spec1 _ (Ev.step (fun k => by rw [spec_GetNum.j2]) ?_), impl1 _ (Ev.step (fun k => by rw [impl_GetNum.j1]) ?_), .inl rfl⟩
            · simp only [if_true, ei.out, er.out, Es.out, if_pos (show 0 ≤ ((a + i : Nat) : Int) by omega), if_pos (show ((a + i : Nat) : Int) < (b.length : Int) by omega), if_pos (show rd b ((a + i : Nat) : Int) < 128 by omega), if_pos hz.2, if_pos (show (i : Int) > 0 by omega)]
              exact Ev.now _
            · simp only [if_true, ei.out, er.out, e7.out, if_pos (show 0 ≤ 7 * (i : Int) by omega), if_pos (show 0 ≤ ((a + i : Nat) : Int) by omega), if_pos (show ((a + i : Nat) : Int) < (b.length : Int) by omega), if_neg hc, if_pos hz.2, if_pos (show (i : Int) > 0 by omega)]
              exact Ev.now _
          · refine ⟨(((x + D : Nat) : Int), ((a + i + 1 : Nat) : Int), true), spec1 _ (Ev.step (fun k => by rw [spec_GetNum.j2]) ?_), impl1 _ (Ev.step (fun k => by rw [impl_GetNum.j1]) ?_), .inr ⟨_, _, rfl, by clear ih lo hlo hlx hu; omega, by clear ih lo hlo hlx hu; omega, hlx⟩⟩
            · simp only [if_true, ei.out, er.out, Es.out, en.out, if_pos (show 0 ≤ ((a + i : Nat) : Int) by omega), if_pos (show ((a + i : Nat) : Int) < (b.length : Int) by omega), if_pos (show rd b ((a + i : Nat) : Int) < 128 by omega)]
              by_cases h0 : rd b ((a + i : Nat) : Int) = 0
              · simp only [if_pos h0, if_neg (show ¬ (i : Int) > 0 by omega)]
                exact Ev.now _
              · simp only [if_neg h0]
                exact Ev.now _
            · simp only [if_true, ei.out, er.out, en.out, if_pos (show 0 ≤ wrap64 (7 * (i : Int)) by rw [e7.out]; omega), if_pos (show 0 ≤ ((a + i : Nat) : Int) by omega), if_pos (show ((a + i : Nat) : Int) < (b.length : Int) by omega), if_neg hc, Eo.out]
              by_cases h0 : (i : Int) > 0
              · simp only [if_pos h0, if_neg (show ¬ rd b ((a + i : Nat) : Int) = 0 by omega)]
                exact Ev.now _
              · simp only [if_neg h0]
                exact Ev.now _
      · refine ⟨(0, 0, false), Ev.step (fun k => by rw [spec_GetNum.l0]) ?_, Ev.step (fun k => by rw [impl_GetNum.l0]) ?_, .inl rfl⟩
        · simp only [if_pos (show (i : Int) < 9 by omega), ei.out, decide_eq_false (show ¬ ((a + i : Nat) : Int) < (b.length : Int) by omega)]
          refine Ev.step (fun k => by rw [spec_GetNum.j2]) ?_
          simp only [Bool.false_eq_true, if_false]
          exact Ev.now _
        · simp only [if_pos (show (i : Int) < 9 by omega), w64 ((b.length : Int) - (a : Int)) (by omega) (by omega), decide_eq_false (show ¬ (i : Int) < (b.length : Int) - (a : Int) by omega)]
          refine Ev.step (fun k => by rw [impl_GetNum.j1]) ?_
          simp only [Bool.false_eq_true, if_false]
          exact Ev.now _)
  unfold spec_GetNum.f impl_GetNum.f
  simp only [if_neg (show ¬ (a : Int) < 0 by omega)]
  by_cases h : a < b.length
  · obtain ⟨R, h1, h2, h3⟩ := key 0 (by omega) 0 1 (by decide) (fun _ => by decide)
    refine ⟨R, Ev.step (fun k => by rw [spec_GetNum.j0]) ?_, h2, h3⟩
    simp only [decide_eq_false (show ¬ (a : Int) ≥ (b.length : Int) by omega), Bool.false_eq_true, if_false]
    exact h1
  · obtain ⟨R, h1, h2, h3⟩ := key 0 (by omega) 0 1 (by decide) (fun _ => by decide)
    refine ⟨(0, 0, false), Ev.step (fun k => by rw [spec_GetNum.j0]) ?_, Ev.step (fun k => by rw [impl_GetNum.l0]) ?_, .inl rfl⟩
    · simp only [decide_eq_true (show (a : Int) ≥ (b.length : Int) by omega), if_true]
      exact Ev.now _
    · simp only [if_pos (show (0 : Int) < 9 by decide), w64 ((b.length : Int) - (a : Int)) (by omega) (by omega), decide_eq_false (show ¬ (0 : Int) < (b.length : Int) - (a : Int) by omega)]
      refine Ev.step (fun k => by rw [impl_GetNum.j1]) ?_
      simp only [Bool.false_eq_true, if_false]
      exact Ev.now _

def mS (j : Nat) : S88 := ⟨((1 + 2 * j : Nat) : Int), ((1 + 2 * j + 1 : Nat) : Int)⟩
theorem mark_table (f : Int) (l : List S88) (hl : l.length ≤ 1048576) : Ev (fun k => laws_markTable.f k f l 1) (((1 + 2 * l.length : Nat) : Int), (List.range l.length).map mS) := by
  unfold laws_markTable.f laws_markShiftS.f
  have key := up_ind l.length (fun i => ∀ ys : List S88, ys.length = l.length → (∀ j, j < i → ys[j]? = some (mS j)) → Ev (fun k => laws_markShiftS.l0 k ys ((1 + 2 * i : Nat) : Int) (i : Int)) (((1 + 2 * l.length : Nat) : Int), (List.range l.length).map mS))
    (by
      intro ys hy h
      refine Ev.step (fun k => by rw [laws_markShiftS.l0]) ?_
      simp only [if_neg (show ¬ (l.length : Int) < (ys.length : Int) by omega)]
      rw [eq_fill mS l.length ys hy h]
      exact Ev.now _)
    (by
      intro i hi ih ys hy h
      refine Ev.step (fun k => by rw [laws_markShiftS.l0]) ?_
      simp only [if_pos (show (i : Int) < (ys.length : Int) by omega), if_pos (show 0 ≤ (i : Int) by omega), Option.bind_some]
      rw [inc i (by omega), inc (1 + 2 * i) (by omega), inc (1 + 2 * i + 1) (by omega)]
      have e : ((ys.set (i : Int).toNat (⟨((1 + 2 * i : Nat) : Int), (rd_T88 ys (i : Int)).f1⟩ : S88)).set (i : Int).toNat (⟨(rd_T88 (ys.set (i : Int).toNat (⟨((1 + 2 * i : Nat) : Int), (rd_T88 ys (i : Int)).f1⟩ : S88)) (i : Int)).f0, ((1 + 2 * i + 1 : Nat) : Int)⟩ : S88)) = ys.set i (mS i) := by
        have ht : (i : Int).toNat = i := by omega
        have hr : (rd_T88 (ys.set i (⟨((1 + 2 * i : Nat) : Int), (rd_T88 ys (i : Int)).f1⟩ : S88)) (i : Int)).f0 = ((1 + 2 * i : Nat) : Int) := by
          unfold rd_T88
          rw [ht, List.getD_eq_getElem?_getD, List.getElem?_set_self (by omega)]
          rfl
        rw [ht, hr, List.set_set]
        rfl
      rw [e]
      exact ih _ (by rw [List.length_set]; exact hy) (set_fill mS i ys h (by omega)))
  exact Ev.bind (key 0 (by omega) l rfl (fun j hj => by omega)) (Ev.now _)
theorem held_table (f : Int) (n : Nat) (hl : n ≤ 1048576) : Ev (fun k => laws_heldTable.f k f ((List.range n).map mS) 1) ((1 + 2 * n : Nat) : Int) := by
  unfold laws_heldTable.f laws_heldShiftS.f
  have hlen : ((List.range n).map mS).length = n := by simp
  have key := up_ind n (fun i => Ev (fun k => laws_heldShiftS.l0 k ((List.range n).map mS) ((1 + 2 * i : Nat) : Int) (i : Int)) ((1 + 2 * n : Nat) : Int))
    (by
      refine Ev.step (fun k => by rw [laws_heldShiftS.l0]) ?_
      rw [hlen]
      simp only [Int.lt_irrefl, if_false]
      exact Ev.now _)
    (by
      intro i hi ih
      refine Ev.step (fun k => by rw [laws_heldShiftS.l0]) ?_
      rw [hlen]
      have e : rd_T88 ((List.range n).map mS) (i : Int) = mS i := by unfold rd_T88; simp [List.getD, hi]
      rw [e, inc (1 + 2 * i) (by omega), inc (1 + 2 * i + 1) (by omega), inc i (by omega)]
      simp only [if_pos (show (i : Int) < (n : Int) by omega), if_pos (show 0 ≤ (i : Int) by omega), mS, if_true]
      exact ih)
  refine Ev.bind (key 0 (by omega)) ?_
  simp only [if_neg (show ¬ ((1 + 2 * n : Nat) : Int) < 0 by omega)]
  exact Ev.now _

theorem to_bytes (l : List Int) (hl : l.length ≤ 1048576) : Ev (fun k => laws_toByteS.f k l) l := by
  unfold laws_toByteS.f
  simp only [if_pos (show 0 ≤ (l.length : Int) by omega), if_pos (show ((l.length : Int) : Int).toNat ≤ 281474976710656 by omega)]
  have key := up_ind l.length (fun i => ∀ ys : List Int, ys.length = l.length → (∀ j, j < i → ys[j]? = some (l.getD j 0)) → Ev (fun k => laws_toByteS.l0 k l ys (i : Int)) l)
    (by
      intro ys hy h
      refine Ev.step (fun k => by rw [laws_toByteS.l0]) ?_
      simp only [Int.lt_irrefl, if_false]
      have e := eq_fill (fun j => l.getD j 0) l.length ys hy h
      have e2 := map_rd l 0 (fun x => x)
      rw [e]
      have e3 : (List.range l.length).map (fun j => l.getD j 0) = l := by simpa using e2
      rw [e3]
      exact Ev.now _)
    (by
      intro i hi ih ys hy h
      refine Ev.step (fun k => by rw [laws_toByteS.l0]) ?_
      simp only [if_pos (show (i : Int) < (l.length : Int) by omega), if_pos (show 0 ≤ (i : Int) by omega), if_pos (show (i : Int) < (ys.length : Int) by omega)]
      rw [inc i (by omega)]
      exact ih _ (by rw [List.length_set]; exact hy) (set_fill (fun j => l.getD j 0) i ys h (by omega)))
  have := key 0 (by omega) (List.replicate ((l.length : Int) : Int).toNat 0) (by simp) (fun j hj => by omega)
  exact this

theorem eq_bytes (l : List Int) (hl : l.length ≤ 10000000000000) : Ev (fun k => laws_eqByteS.f k l l) true := by
  unfold laws_eqByteS.f
  simp only [if_true]
  have key := up_ind l.length (fun i => Ev (fun k => laws_eqByteS.l0 k l l (i : Int)) true)
    (by
      refine Ev.step (fun k => by rw [laws_eqByteS.l0]) ?_
      simp only [Int.lt_irrefl, if_false]
      exact Ev.now _)
    (by
      intro i hi ih
      refine Ev.step (fun k => by rw [laws_eqByteS.l0]) ?_
      simp only [if_pos (show (i : Int) < (l.length : Int) by omega), if_pos (show 0 ≤ (i : Int) by omega), if_true]
      rw [inc i (by omega)]
      exact ih)
  exact key 0 (by omega)
def bm (j : Nat) : Int := ((1 + j : Nat) : Int) % 256
theorem mark_bytes (l : List Int) (hl : l.length ≤ 10000000000000) : Ev (fun k => laws_markByteS.f k l 1) (((1 + l.length : Nat) : Int), (List.range l.length).map bm) := by
  unfold laws_markByteS.f
  have key := up_ind l.length (fun i => ∀ ys : List Int, ys.length = l.length → (∀ j, j < i → ys[j]? = some (bm j)) → Ev (fun k => laws_markByteS.l0 k ys ((1 + i : Nat) : Int) (i : Int)) (((1 + l.length : Nat) : Int), (List.range l.length).map bm))
    (by
      intro ys hy h
      refine Ev.step (fun k => by rw [laws_markByteS.l0]) ?_
      simp only [if_neg (show ¬ (l.length : Int) < (ys.length : Int) by omega)]
      rw [eq_fill bm l.length ys hy h]
      exact Ev.now _)
    (by
      intro i hi ih ys hy h
      refine Ev.step (fun k => by rw [laws_markByteS.l0]) ?_
      simp only [if_pos (show (i : Int) < (ys.length : Int) by omega), if_pos (show 0 ≤ (i : Int) by omega)]
      rw [inc i (by omega), inc (1 + i) (by omega)]
      exact ih _ (by rw [List.length_set]; exact hy) (set_fill bm i ys h (by omega)))
  exact key 0 (by omega) l rfl (fun j hj => by omega)

/-- Whatever comes behind it, it is no table. -/
def doomed (f : Int) (t : List S88) : Prop := ∀ t', tOk f (t ++ t') = false
theorem doomed_f {f : Int} (h : ¬ (-2000 ≤ f ∧ f ≤ 2000)) (t : List S88) : doomed f t := by
  intro t'
  unfold tOk
  rw [decide_eq_false h]
  rfl
theorem doomed_x (f : Int) (t : List S88) (x : S88) (h : ¬ ((-1000000000 ≤ x.f0 ∧ x.f0 ≤ 1000000000) ∧ (-2000 ≤ x.f1 ∧ x.f1 ≤ 2000))) : doomed f (t ++ [x]) := by
  intro t'
  rw [← Bool.not_eq_true]
  intro ok
  unfold tOk at ok
  simp only [Bool.and_eq_true, decide_eq_true_eq] at ok
  have g := tk_get _ f 0 ok.2 t.length (by omega) (by simp)
  have e : rd_T88 (t ++ [x] ++ t') (t.length : Int) = x := by
    unfold rd_T88
    have ht : (t.length : Int).toNat = t.length := by omega
    rw [ht, List.getD_eq_getElem?_getD, List.append_assoc, List.getElem?_append_right (by omega)]
    simp
  rw [e] at g
  exact h g
theorem doomed_more {f : Int} {t : List S88} (h : doomed f t) (x : S88) : doomed f (t ++ [x]) := by
  intro t'
  rw [List.append_assoc]
  exact h _
theorem doomed_no {f : Int} {t : List S88} (h : doomed f t) : tOk f t = false := by have := h []; rwa [List.append_nil] at this
/-- What the reader's num tells. -/
theorem i_num (b : List Int) (hb : ∀ j, j < b.length → 0 ≤ rd b (j : Int) ∧ rd b (j : Int) ≤ 255) (hl : b.length ≤ 1048576) (a : Nat) (ha : a ≤ b.length) (bad : Bool) : ∃ (m : Nat) (n : Nat) (bad' : Bool), Ev (fun k => impl_reader_num.f k b (a : Int) bad) ((m : Int), (n : Int), bad') ∧ n ≤ b.length ∧ m < 9223372036854775808 ∧ (bad = true → bad' = true) := by
  obtain ⟨R, _, h2, h3⟩ := getnum b hb hl a ha
  unfold impl_reader_num.f
  cases bad
  · rcases h3 with rfl | ⟨m, n, rfl, n1, n2, n3⟩
    · refine ⟨0, a, true, Ev.bind h2 ?_, ha, by omega, fun _ => rfl⟩
      simp only [Bool.false_eq_true, if_false]
      exact Ev.now _
    · refine ⟨m, n, false, Ev.bind h2 ?_, n2, n3, fun h => h⟩
      simp only [Bool.false_eq_true, if_false, if_true]
      exact Ev.now _
  · refine ⟨0, a, true, Ev.bind h2 ?_, ha, by omega, fun _ => rfl⟩
    simp only [if_true]
    exact Ev.now _
theorem i_done (b : List Int) (a : Int) (bad : Bool) : impl_reader_done.f b a bad = some (!bad && (a == (b.length : Int)), a, bad) := by
  unfold impl_reader_done.f
  cases bad <;> simp
theorem i_end (b : List Int) (n : Nat) (last : Int) (i : Nat) (a : Int) (bad : Bool) (f : Int) (t : List S88) (ht : t.length ≤ 1048576) :
    Ev (fun k => impl_TableRead.j1 k (n : Int) last (i : Int) false b a bad f t) (if bad = false ∧ a = (b.length : Int) ∧ tOk f t = true then (f, t, true) else (0, [], false)) := by
  refine Ev.step (fun k => by rw [impl_TableRead.j1]) ?_
  simp only [Bool.false_eq_true, if_false, i_done, Option.bind_some]
  cases bad
  · by_cases h : a = (b.length : Int)
    · simp only [h, Bool.not_false, Bool.true_and, beq_self_eq_true, if_true, true_and]
      refine Ev.bind (i_TableOk f t ht) ?_
      cases tOk f t
      · simp only [Bool.false_eq_true, if_false]; exact Ev.now _
      · simp only [if_true]; exact Ev.now _
    · have e : (a == (b.length : Int)) = false := beq_eq_false_iff_ne.mpr h
      simp only [e, Bool.not_false, Bool.true_and, Bool.false_eq_true, if_false, h, false_and, and_false]
      exact Ev.now _
  · simp only [Bool.not_true, Bool.false_and, Bool.false_eq_true, if_false, Bool.true_eq_false, false_and]
    exact Ev.now _
theorem mn_le (m : Nat) : (0 ≤ mn (m : Int) 3000000000) ∧ mn (m : Int) 3000000000 ≤ 3000000000 ∧ (m ≤ 3000000000 → mn (m : Int) 3000000000 = (m : Int)) ∧ (2000000000 < m → 2000000000 < mn (m : Int) 3000000000) := by
  unfold mn
  refine ⟨?_, ?_, ?_, ?_⟩
  all_goals
    try intro h
    split <;> omega
theorem lost (b : List Int) (hb : ∀ j, j < b.length → 0 ≤ rd b (j : Int) ∧ rd b (j : Int) ≤ 255) (hl : b.length ≤ 1048576) (f : Int) (n : Nat) (hn : n ≤ 300) :
    ∀ (q i a : Nat) (last : Int) (bad : Bool) (t : List S88), i + q = n → a ≤ b.length → -1000000000 ≤ last → last ≤ 1000000000 + 3000000000 * (i : Int) → t.length = i → (bad = true ∨ doomed f t) →
      Ev (fun k => impl_TableRead.l0 k (n : Int) last (i : Int) b (a : Int) bad f t) (0, [], false) := by
  have fin : ∀ (i : Nat) (a : Int) (last : Int) (bad : Bool) (t : List S88), t.length ≤ 1048576 → (bad = true ∨ doomed f t) → Ev (fun k => impl_TableRead.j1 k (n : Int) last (i : Int) false b a bad f t) (0, [], false) := by
    intro i a last bad t ht h
    have e := i_end (b := b) n last i a bad f t ht
    rw [if_neg (by
      rintro ⟨h1, _, h3⟩
      rcases h with h | h
      · rw [h] at h1; exact absurd h1 (by decide)
      · rw [doomed_no h] at h3; exact absurd h3 (by decide))] at e
    exact e
  intro q
  induction q with
  | zero =>
    intro i a last bad t h1 h2 h3 h4 h5 h6
    refine Ev.step (fun k => by rw [impl_TableRead.l0]) ?_
    simp only [if_neg (show ¬ (i : Int) < (n : Int) by omega)]
    exact fin i a last bad t (by omega) h6
  | succ q ih =>
    intro i a last bad t h1 h2 h3 h4 h5 h6
    refine Ev.step (fun k => by rw [impl_TableRead.l0]) ?_
    simp only [if_pos (show (i : Int) < (n : Int) by omega)]
    cases bad
    · rcases h6 with h6 | h6
      · exact absurd h6 (by decide)
      · obtain ⟨m1, n1, b1, e1, l1, r1, _⟩ := i_num b hb hl a h2 false
        obtain ⟨m2, n2, b2, e2, l2, r2, _⟩ := i_num b hb hl n1 l1 b1
        refine Ev.step (fun k => by rw [impl_TableRead.j1]) ?_
        simp only [Bool.not_false, if_true]
        refine Ev.bind e1 (Ev.bind e2 ?_)
        simp only [if_pos (show t.length < 8796093022208 by omega)]
        obtain ⟨g1, g2, _⟩ := mn_le m1
        rw [w64 (last + mn (m1 : Int) 3000000000) (by omega) (by omega), inc i (by omega)]
        exact ih (i + 1) n2 _ b2 _ (by omega) l2 (by omega) (by push_cast; omega) (by simp; omega) (.inr (doomed_more h6 _))
    · exact fin i a last true t (by omega) (.inl rfl)
theorem s_end (b : List Int) (n : Nat) (last : Int) (a : Int) (f : Int) (t : List S88) (ht : t.length ≤ 1048576) :
    Ev (fun k => spec_TableRead.l0 k b a (n : Int) last (n : Int) 0 f t) (if a = (b.length : Int) ∧ tOk f t = true then (f, t, true) else (0, [], false)) := by
  refine Ev.step (fun k => by rw [spec_TableRead.l0]) ?_
  simp only [Int.lt_irrefl, if_false]
  by_cases h : a = (b.length : Int)
  · simp only [h, if_true, true_and]
    refine Ev.bind (s_TableOk f t ht) ?_
    cases tOk f t
    · simp only [Bool.false_eq_true, if_false]; exact Ev.now _
    · simp only [if_true]; exact Ev.now _
  · simp only [h, if_false, false_and]
    exact Ev.now _
theorem both (b : List Int) (hb : ∀ j, j < b.length → 0 ≤ rd b (j : Int) ∧ rd b (j : Int) ≤ 255) (hl : b.length ≤ 1048576) (f : Int) (n : Nat) (hn : n ≤ 300) :
    ∀ (q i a : Nat) (last : Int) (t : List S88), i + q = n → a ≤ b.length → -1000000000 ≤ last → last ≤ 1000000000 + 3000000000 * (i : Int) → t.length = i →
      ∃ R : Int × List S88 × Bool, Ev (fun k => spec_TableRead.l0 k b (a : Int) (n : Int) last (i : Int) 0 f t) R ∧ Ev (fun k => impl_TableRead.l0 k (n : Int) last (i : Int) b (a : Int) false f t) R ∧ R.2.1.length ≤ 300 := by
  intro q
  induction q with
  | zero =>
    intro i a last t h1 h2 h3 h4 h5
    obtain rfl : i = n := by omega
    have e1 := s_end b i last a f t (by omega)
    have e2 := i_end (b := b) i last i a false f t (by omega)
    simp only [true_and] at e2
    refine ⟨_, e1, Ev.step (fun k => by rw [impl_TableRead.l0]) ?_, ?_⟩
    · simp only [Int.lt_irrefl, if_false]
      exact e2
    · split
      · show t.length ≤ 300
        omega
      · simp
  | succ q ih =>
    intro i a last t h1 h2 h3 h4 h5
    have none_ : ∀ x1 x2 : Int, Ev (fun k => spec_TableRead.j3 k b (n : Int) last (i : Int) x1 x2 true 0 f t) (0, [], false) := by
      intro x1 x2
      refine Ev.step (fun k => by rw [spec_TableRead.j3]) ?_
      simp only [if_true]
      exact Ev.now _
    obtain ⟨R, s1, i1, g1⟩ := getnum b hb hl a h2
    rcases g1 with rfl | ⟨m1, n1, rfl, b1, b2, b3⟩
    · refine ⟨(0, [], false), Ev.step (fun k => by rw [spec_TableRead.l0]) ?_, Ev.step (fun k => by rw [impl_TableRead.l0]) ?_, by simp⟩
      · simp only [if_pos (show (i : Int) < (n : Int) by omega)]
        refine Ev.bind s1 ?_
        simp only [Bool.false_eq_true, if_false]
        exact none_ _ _
      · simp only [if_pos (show (i : Int) < (n : Int) by omega)]
        refine Ev.step (fun k => by rw [impl_TableRead.j1]) ?_
        simp only [Bool.not_false, if_true]
        have e1 : Ev (fun k => impl_reader_num.f k b (a : Int) false) (0, (a : Int), true) := by
          unfold impl_reader_num.f
          refine Ev.bind i1 ?_
          simp only [Bool.false_eq_true, if_false]
          exact Ev.now _
        obtain ⟨m2, n2, b2, e2, l2, r2, hbad⟩ := i_num b hb hl a h2 true
        refine Ev.bind e1 (Ev.bind e2 ?_)
        simp only [if_pos (show t.length < 8796093022208 by omega)]
        obtain ⟨g1, g2, g3, _⟩ := mn_le 0
        rw [show ((0 : Nat) : Int) = 0 from rfl] at g1 g2 g3
        rw [w64 (last + mn 0 3000000000) (by omega) (by omega), inc i (by omega)]
        exact lost b hb hl f n hn q (i + 1) n2 _ b2 _ (by omega) l2 (by omega) (by push_cast; omega) (by simp; omega) (.inl (hbad rfl))
    · have e1 : Ev (fun k => impl_reader_num.f k b (a : Int) false) ((m1 : Int), (n1 : Int), false) := by
        unfold impl_reader_num.f
        refine Ev.bind i1 ?_
        simp only [Bool.false_eq_true, if_false, if_true]
        exact Ev.now _
      obtain ⟨g1, g2, g3, g4⟩ := mn_le m1
      have islow : ∀ R, (∀ (m2 n2 : Nat) (bad : Bool), Ev (fun k => impl_reader_num.f k b (n1 : Int) false) ((m2 : Int), (n2 : Int), bad) → n2 ≤ b.length → m2 < 9223372036854775808 → Ev (fun k => impl_TableRead.l0 k (n : Int) (last + mn (m1 : Int) 3000000000) ((i + 1 : Nat) : Int) b (n2 : Int) bad f (t ++ [(⟨last + mn (m1 : Int) 3000000000, (m2 : Int) - 2000⟩ : S88)])) R) → Ev (fun k => impl_TableRead.l0 k (n : Int) last (i : Int) b (a : Int) false f t) R := by
        intro R hR
        obtain ⟨m2, n2, bad, e2, l2, r2, _⟩ := i_num b hb hl n1 b2 false
        refine Ev.step (fun k => by rw [impl_TableRead.l0]) ?_
        simp only [if_pos (show (i : Int) < (n : Int) by omega)]
        refine Ev.step (fun k => by rw [impl_TableRead.j1]) ?_
        simp only [Bool.not_false, if_true]
        refine Ev.bind e1 (Ev.bind e2 ?_)
        simp only [if_pos (show t.length < 8796093022208 by omega)]
        rw [w64 (last + mn (m1 : Int) 3000000000) (by omega) (by omega), inc i (by omega), w64 ((m2 : Int) - 2000) (by omega) (by omega)]
        exact hR m2 n2 bad e2 l2 r2
      by_cases hd : m1 > 2000000000
      · refine ⟨(0, [], false), Ev.step (fun k => by rw [spec_TableRead.l0]) ?_, islow _ ?_, by simp⟩
        · simp only [if_pos (show (i : Int) < (n : Int) by omega)]
          refine Ev.bind s1 ?_
          simp only [if_true, decide_eq_true (show (m1 : Int) > 2000000000 by omega)]
          exact none_ _ _
        · intro m2 n2 bad e2 l2 r2
          have := g4 hd
          exact lost b hb hl f n hn q (i + 1) n2 _ bad _ (by omega) l2 (by omega) (by push_cast; omega) (by simp; omega) (.inr (doomed_x f t _ (by rintro ⟨⟨_, h⟩, _⟩; simp only at h; omega)))
      · have hm : mn (m1 : Int) 3000000000 = (m1 : Int) := g3 (by omega)
        obtain ⟨R2, s2, i2, k2⟩ := getnum b hb hl n1 b2
        have spec_ : ∀ R, Ev (fun k => (fun bt139 => (if bt139.2.2 = true then (if bt139.1 > 4000 then (some (0, ([] : List S88), false)) else (if t.length < 8796093022208 then (spec_TableRead.l0 k b bt139.2.1 (n : Int) (wrap64 (last + (m1 : Int))) (wrap64 ((i : Int) + 1)) 0 f (t ++ [(⟨wrap64 (last + (m1 : Int)), wrap64 (bt139.1 - 2000)⟩ : S88)])) else (none))) else (some (0, ([] : List S88), false)))) R2) R → Ev (fun k => spec_TableRead.l0 k b (a : Int) (n : Int) last (i : Int) 0 f t) R := by
          intro R hR
          refine Ev.step (fun k => by rw [spec_TableRead.l0]) ?_
          simp only [if_pos (show (i : Int) < (n : Int) by omega)]
          refine Ev.bind s1 ?_
          simp only [if_true, decide_eq_false (show ¬ (m1 : Int) > 2000000000 by omega)]
          refine Ev.step (fun k => by rw [spec_TableRead.j3]) ?_
          simp only [Bool.false_eq_true, if_false]
          exact Ev.bind s2 hR
        rcases k2 with rfl | ⟨m2, n2, rfl, c1, c2, c3⟩
        · refine ⟨(0, [], false), spec_ _ ?_, islow _ ?_, by simp⟩
          · simp only [Bool.false_eq_true, if_false]
            exact Ev.now _
          · intro m2 n2 bad e2 l2 r2
            have e3 : Ev (fun k => impl_reader_num.f k b (n1 : Int) false) (0, (n1 : Int), true) := by
              unfold impl_reader_num.f
              refine Ev.bind i2 ?_
              simp only [Bool.false_eq_true, if_false]
              exact Ev.now _
            have := ev_same e2 e3
            simp only [Prod.mk.injEq] at this
            obtain ⟨_, _, hbad⟩ := this
            exact lost b hb hl f n hn q (i + 1) n2 _ bad _ (by omega) l2 (by omega) (by push_cast; omega) (by simp; omega) (.inl hbad)
        · have e3 : Ev (fun k => impl_reader_num.f k b (n1 : Int) false) ((m2 : Int), (n2 : Int), false) := by
            unfold impl_reader_num.f
            refine Ev.bind i2 ?_
            simp only [Bool.false_eq_true, if_false, if_true]
            exact Ev.now _
          by_cases ho : m2 > 4000
          · refine ⟨(0, [], false), spec_ _ ?_, islow _ ?_, by simp⟩
            · simp only [if_true, if_pos (show (m2 : Int) > 4000 by omega)]
              exact Ev.now _
            · intro m3 n3 bad e2 l2 r2
              have := ev_same e2 e3
              simp only [Prod.mk.injEq] at this
              obtain ⟨h3, _, _⟩ := this
              exact lost b hb hl f n hn q (i + 1) n3 _ bad _ (by omega) l2 (by omega) (by push_cast; omega) (by simp; omega) (.inr (doomed_x f t _ (by rintro ⟨_, _, h⟩; simp only at h; omega)))
          · obtain ⟨R, hs, hi, hR⟩ := ih (i + 1) n2 (last + (m1 : Int)) (t ++ [(⟨last + (m1 : Int), (m2 : Int) - 2000⟩ : S88)]) (by omega) c2 (by omega) (by push_cast; omega) (by simp; omega)
            refine ⟨R, spec_ _ ?_, islow _ ?_, hR⟩
            · simp only [if_true, if_neg (show ¬ (m2 : Int) > 4000 by omega), if_pos (show t.length < 8796093022208 by omega)]
              rw [w64 (last + (m1 : Int)) (by omega) (by omega), inc i (by omega), w64 ((m2 : Int) - 2000) (by omega) (by omega)]
              exact hs
            · intro m3 n3 bad e2 l2 r2
              have := ev_same e2 e3
              simp only [Prod.mk.injEq] at this
              obtain ⟨h3, h4, h5⟩ := this
              rw [hm, h3, h4, h5]
              exact hi
theorem tabread (b : List Int) (hb : ∀ j, j < b.length → 0 ≤ rd b (j : Int) ∧ rd b (j : Int) ≤ 255) (hl : b.length ≤ 1048576) : ∃ R : Int × List S88 × Bool, Ev (fun k => spec_TableRead.f k b) R ∧ Ev (fun k => impl_TableRead.f k b) R ∧ R.2.1.length ≤ 300 := by
  have none_ : ∀ x1 x2 : Int, Ev (fun k => spec_TableRead.j0 k b x1 x2 true 0) (0, [], false) := by
    intro x1 x2
    refine Ev.step (fun k => by rw [spec_TableRead.j0]) ?_
    simp only [if_true]
    exact Ev.now _
  have none1 : ∀ x1 x2 x3 : Int, Ev (fun k => spec_TableRead.j1 k b x1 x2 x3 true 0) (0, [], false) := by
    intro x1 x2 x3
    refine Ev.step (fun k => by rw [spec_TableRead.j1]) ?_
    simp only [if_true]
    exact Ev.now _
  obtain ⟨R, s1, i1, g1⟩ := getnum b hb hl 0 (by omega)
  have z0 : ((0 : Nat) : Int) = 0 := rfl
  rw [z0] at s1 i1
  -- what the program does behind its first number
  have low : ∀ (m1 n1 : Nat) (bad1 : Bool) (R : Int × List S88 × Bool), Ev (fun k => impl_reader_num.f k b 0 false) ((m1 : Int), (n1 : Int), bad1) → n1 ≤ b.length → m1 < 9223372036854775808 →
      (∀ (m2 n2 : Nat) (bad2 : Bool), Ev (fun k => impl_reader_num.f k b (n1 : Int) bad1) ((m2 : Int), (n2 : Int), bad2) → n2 ≤ b.length → (bad1 = true → bad2 = true) → Ev (fun k => if (m2 : Int) > 300 then (some (0, ([] : List S88), false)) else impl_TableRead.l0 k (m2 : Int) (-1000000000) 0 b (n2 : Int) bad2 ((m1 : Int) - 2000) []) R) → Ev (fun k => impl_TableRead.f k b) R := by
    intro m1 n1 bad1 R e1 l1 r1 h
    obtain ⟨m2, n2, bad2, e2, l2, r2, hbad⟩ := i_num b hb hl n1 l1 bad1
    unfold impl_TableRead.f
    refine Ev.bind e1 (Ev.bind e2 ?_)
    rw [w64 ((m1 : Int) - 2000) (by omega) (by omega)]
    exact h m2 n2 bad2 e2 l2 hbad
  have lose : ∀ (f : Int) (m2 n2 : Nat) (bad2 : Bool), n2 ≤ b.length → (bad2 = true ∨ doomed f []) → Ev (fun k => if (m2 : Int) > 300 then (some (0, ([] : List S88), false)) else impl_TableRead.l0 k (m2 : Int) (-1000000000) 0 b (n2 : Int) bad2 f []) (0, [], false) := by
    intro f m2 n2 bad2 l2 h
    by_cases hm : (m2 : Int) > 300
    · simp only [if_pos hm]; exact Ev.now _
    · simp only [if_neg hm]
      have := lost b hb hl f m2 (by omega) m2 0 n2 (-1000000000) bad2 [] (by omega) l2 (by omega) (by omega) rfl h
      exact this
  unfold spec_TableRead.f
  rcases g1 with rfl | ⟨m1, n1, rfl, b1, b2, b3⟩
  · refine ⟨(0, [], false), Ev.bind s1 ?_, ?_, by simp⟩
    · simp only [Bool.false_eq_true, if_false]; exact none_ _ _
    · have e1 : Ev (fun k => impl_reader_num.f k b 0 false) (((0 : Nat) : Int), ((0 : Nat) : Int), true) := by
        unfold impl_reader_num.f
        refine Ev.bind i1 ?_
        simp only [Bool.false_eq_true, if_false]
        exact Ev.now _
      refine low 0 0 true _ e1 (by omega) (by omega) ?_
      intro m2 n2 bad2 e2 l2 hbad
      exact lose _ m2 n2 bad2 l2 (.inl (hbad rfl))
  · have e1 : Ev (fun k => impl_reader_num.f k b 0 false) ((m1 : Int), (n1 : Int), false) := by
      unfold impl_reader_num.f
      refine Ev.bind i1 ?_
      simp only [Bool.false_eq_true, if_false, if_true]
      exact Ev.now _
    by_cases hm : m1 > 4000
    · refine ⟨(0, [], false), Ev.bind s1 ?_, ?_, by simp⟩
      · simp only [if_true, decide_eq_true (show (m1 : Int) > 4000 by omega)]; exact none_ _ _
      · refine low m1 n1 false _ e1 b2 b3 ?_
        intro m2 n2 bad2 e2 l2 hbad
        exact lose _ m2 n2 bad2 l2 (.inr (doomed_f (by omega) []))
    · obtain ⟨R2, s2, i2, g2⟩ := getnum b hb hl n1 b2
      have spec_ : ∀ R, Ev (fun k => (fun bt131 : Int × Int × Bool => (if bt131.2.2 = true then (spec_TableRead.j1 k b (m1 : Int) bt131.2.1 bt131.1 (decide (bt131.1 > 300)) 0) else (spec_TableRead.j1 k b (m1 : Int) bt131.2.1 bt131.1 true 0))) R2) R → Ev (fun k => (spec_GetNum.f k b 0).bind fun bt128 => (if bt128.2.2 = true then (spec_TableRead.j0 k b bt128.1 bt128.2.1 (decide (bt128.1 > 4000)) 0) else (spec_TableRead.j0 k b bt128.1 bt128.2.1 true 0))) R := by
        intro R hR
        refine Ev.bind s1 ?_
        simp only [if_true, decide_eq_false (show ¬ (m1 : Int) > 4000 by omega)]
        refine Ev.step (fun k => by rw [spec_TableRead.j0]) ?_
        simp only [Bool.false_eq_true, if_false]
        exact Ev.bind s2 hR
      rcases g2 with rfl | ⟨m2, n2, rfl, c1, c2, c3⟩
      · refine ⟨(0, [], false), spec_ _ ?_, ?_, by simp⟩
        · simp only [Bool.false_eq_true, if_false]; exact none1 _ _ _
        · refine low m1 n1 false _ e1 b2 b3 ?_
          intro m3 n3 bad3 e3 l3 hbad
          have e4 : Ev (fun k => impl_reader_num.f k b (n1 : Int) false) (0, (n1 : Int), true) := by
            unfold impl_reader_num.f
            refine Ev.bind i2 ?_
            simp only [Bool.false_eq_true, if_false]
            exact Ev.now _
          have := ev_same e3 e4
          simp only [Prod.mk.injEq] at this
          exact lose _ m3 n3 bad3 l3 (.inl this.2.2)
      · have e4 : Ev (fun k => impl_reader_num.f k b (n1 : Int) false) ((m2 : Int), (n2 : Int), false) := by
          unfold impl_reader_num.f
          refine Ev.bind i2 ?_
          simp only [Bool.false_eq_true, if_false, if_true]
          exact Ev.now _
        by_cases h3 : (m2 : Int) > 300
        · refine ⟨(0, [], false), spec_ _ ?_, ?_, by simp⟩
          · simp only [if_true, decide_eq_true h3]; exact none1 _ _ _
          · refine low m1 n1 false _ e1 b2 b3 ?_
            intro m4 n4 bad4 e5 l4 hbad
            have := ev_same e5 e4
            simp only [Prod.mk.injEq] at this
            simp only [if_pos (show (m4 : Int) > 300 by omega)]
            exact Ev.now _
        · obtain ⟨R, hs, hi, hR⟩ := both b hb hl ((m1 : Int) - 2000) m2 (by omega) m2 0 n2 (-1000000000) [] (by omega) c2 (by omega) (by omega) rfl
          refine ⟨R, spec_ _ ?_, ?_, hR⟩
          · simp only [if_true, decide_eq_false h3]
            refine Ev.step (fun k => by rw [spec_TableRead.j1]) ?_
            simp only [Bool.false_eq_true, if_false]
            rw [w64 ((m1 : Int) - 2000) (by omega) (by omega)]
            exact hs
          · refine low m1 n1 false _ e1 b2 b3 ?_
            intro m4 n4 bad4 e5 l4 hbad
            have := ev_same e5 e4
            simp only [Prod.mk.injEq] at this
            obtain ⟨h4, h5, h6⟩ := this
            rw [h4, h5, h6]
            simp only [if_neg h3]
            exact hi

theorem FnExactTableRead : laws_FnExactTableRead.Pure := by
  intro l _ _ hg
  refine Ev.rounds ?_
  unfold laws_FnExactTableRead.f
  by_cases hl : (l.length : Int) > 1048576
  · simp only [if_pos hl]; exact Ev.now _
  · simp only [if_neg hl]
    have hl : l.length ≤ 1048576 := by omega
    have hb : ∀ j, j < l.length → 0 ≤ rd l (j : Int) ∧ rd l (j : Int) ≤ 255 := by
      intro j hj
      have e : rd l (j : Int) = l.getD j 0 := by unfold rd; simp
      rw [e]
      exact wf8 (hg _ (getD_mem l j 0 hj))
    obtain ⟨⟨f, t, ok⟩, hs, hi, hR⟩ := tabread l hb hl
    have hR : t.length ≤ 300 := hR
    refine Ev.bind (to_bytes l hl) (Ev.bind hs (Ev.bind (to_bytes l hl) (Ev.bind hi (Ev.bind (eq_table f t (by omega)) ?_))))
    simp only [if_true, bne_self_eq_false]
    refine Ev.step (fun k => by rw [laws_FnExactTableRead.j0]) ?_
    simp only [Bool.false_eq_true, if_false]
    refine Ev.bind (to_bytes l hl) (Ev.bind (eq_bytes l (by omega)) ?_)
    simp only [if_true]
    refine Ev.bind (mark_bytes l (by omega)) ?_
    simp only [if_neg (show ¬ ((1 + l.length : Nat) : Int) < 0 by omega)]
    refine Ev.bind (eq_table f t (by omega)) ?_
    simp only [if_true, bne_self_eq_false]
    refine Ev.step (fun k => by rw [laws_FnExactTableRead.j1]) ?_
    simp only [Bool.false_eq_true, if_false]
    refine Ev.bind (mark_table f t (by omega)) (Ev.bind (held_table f t.length (by omega)) ?_)
    simp only [if_neg (show ¬ ((1 + 2 * t.length : Nat) : Int) < 0 by omega), if_true]
    refine Ev.bind (to_bytes l hl) (Ev.bind hi (Ev.bind (eq_table f t (by omega)) ?_))
    simp only [if_true, bne_self_eq_false]
    refine Ev.step (fun k => by rw [laws_FnExactTableRead.j2]) ?_
    simp only [Bool.false_eq_true, if_false]
    refine Ev.bind (held_table f t.length (by omega)) ?_
    simp only [if_neg (show ¬ ((1 + 2 * t.length : Nat) : Int) < 0 by omega), if_true]
    exact Ev.now _

end Go.Proofs.Ytkjfcgnhpalhnaa.Pure
