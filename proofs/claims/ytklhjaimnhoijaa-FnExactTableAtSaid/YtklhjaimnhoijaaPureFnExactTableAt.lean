/- The law FnExactTableAt answers true for every argument. No condition. -/
import Derived.Test.YtklhjaimnhoijaaPFnExactTableAtx5
namespace Go.Proofs.Ytklhjaimnhoijaa.Pure
open Go.RowKit Go.Proofs.Ytklhjaimnhoijaa.PFnExactTableAt Go.Proofs.YtklhjaimnhoijaaW.PrintWords Go.Proofs.YtklhjaimnhoijaaW.PrintLast
set_option linter.unusedVariables false
set_option linter.unusedSimpArgs false

theorem w64 (n : Int) (h0 : -9223372036854775808 ≤ n) (h1 : n ≤ 9223372036854775807) : wrap64 n = n := by unfold wrap64; omega
theorem tmn {a : Int} (b : Int) (h : 0 ≤ a) : Int.tmod a b = a % b := Int.tmod_eq_emod_of_nonneg h
theorem wfi {x : Int} (h : (Lit.int .i64 x).wf = true) : -9223372036854775808 ≤ x ∧ x ≤ 9223372036854775807 := by
  simp [Lit.wf, IntKind.min, IntKind.max, IntKind.signed, IntKind.bits] at h
  omega
theorem wf8 {x : Int} (h : (Lit.int .u8 x).wf = true) : 0 ≤ x ∧ x ≤ 255 := by
  simp [Lit.wf, IntKind.min, IntKind.max, IntKind.signed, IntKind.bits] at h
  omega
theorem evc {α : Type} {g : Nat → Option α} {r : α} (h : ∀ k, g k = some r) : Ev g r := ⟨0, fun k _ => h k⟩
theorem getD_mem {α : Type} (l : List α) (n : Nat) (z : α) (h : n < l.length) : l.getD n z ∈ l := by
  rw [List.getD_eq_getElem?_getD, List.getElem?_eq_getElem h]
  exact List.getElem_mem h
theorem ex_step {α : Type} {g f : Nat → Option α} (h : ∀ k, g (k + 1) = f k) (e : ∃ r, Ev f r) : ∃ r, Ev g r := by
  obtain ⟨r, e⟩ := e
  exact ⟨r, Ev.step h e⟩
theorem ex_bind {α β : Type} {g : Nat → Option α} {f : Nat → α → Option β} {a : α} (h : Ev g a) (e : ∃ r, Ev (fun n => f n a) r) : ∃ r, Ev (fun n => (g n).bind (f n)) r := by
  obtain ⟨r, e⟩ := e
  exact ⟨r, Ev.bind h e⟩

theorem up_ind (n : Nat) (P : Nat → Prop) (he : P n) (hs : ∀ i, i < n → P (i + 1) → P i) (i : Nat) (h : i ≤ n) : P i := by
  have key : ∀ (d i : Nat), i + d = n → P i := by
    intro d
    induction d with
    | zero => intro i h; obtain rfl : i = n := by omega
              exact he
    | succ d ih => intro i h; exact hs i (by omega) (ih (i + 1) (by omega))
  exact key (n - i) i (by omega)
theorem eq_fill {β : Type} (y : Nat → β) (n : Nat) (ys : List β) (hl : ys.length = n) (h : ∀ j, j < n → ys[j]? = some (y j)) : ys = (List.range n).map y := by
  apply List.ext_getElem?
  intro j
  by_cases hj : j < n
  · rw [h j hj]; simp [hj]
  · rw [List.getElem?_eq_none (by omega), List.getElem?_eq_none (by simp; omega)]
theorem map_rd {α β : Type} (l : List α) (z : α) (f : α → β) : (List.range l.length).map (fun i => f (l.getD i z)) = l.map f := by
  apply List.ext_getElem?
  intro j
  by_cases hj : j < l.length
  · simp [hj, List.getD]
  · rw [List.getElem?_eq_none (by simp; omega), List.getElem?_eq_none (by simp; omega)]
theorem set_fill {β : Type} (y : Nat → β) (i : Nat) (ys : List β) (h : ∀ j, j < i → ys[j]? = some (y j)) (hi : i < ys.length) : ∀ j, j < i + 1 → (ys.set i (y i))[j]? = some (y j) := by
  intro j hj
  by_cases e : j = i
  · subst e; rw [List.getElem?_set_self hi]
  · rw [List.getElem?_set_ne (by omega)]; exact h j (by omega)
theorem inc (i : Nat) (h : i < 1000000000000) : wrap64 ((i : Int) + 1) = ((i + 1 : Nat) : Int) := by rw [w64 _ (by omega) (by omega)]; omega

theorem i_within (n a b : Int) : impl_within.f n a b = some (decide (a ≤ n ∧ n ≤ b)) := by
  unfold impl_within.f
  by_cases h : n ≥ a
  · rw [if_pos h]; simp [show a ≤ n from h]
  · rw [if_neg h]; simp [show ¬ a ≤ n from h]

theorem s_In (n a b : Int) : spec_l1In.f n a b = some (decide (a ≤ n ∧ n ≤ b)) := by
  unfold spec_l1In.f
  by_cases h : n ≥ a
  · rw [if_pos h]; simp [show a ≤ n from h]
  · rw [if_neg h]; simp [show ¬ a ≤ n from h]

def cvS (x : S75) : S64 := ⟨x.f0, x.f1⟩
theorem to_shifts (l : List S75) (hl : l.length ≤ 1048576) : Ev (fun k => laws_toShiftS.f k l) (l.map cvS) := by
  unfold laws_toShiftS.f
  simp only [if_pos (show 0 ≤ (l.length : Int) by omega), if_pos (show ((l.length : Int) : Int).toNat ≤ 17592186044416 by omega)]
  have key := up_ind l.length (fun i => ∀ ys : List S64, ys.length = l.length → (∀ j, j < i → ys[j]? = some (cvS (l.getD j z75))) → Ev (fun k => laws_toShiftS.l0 k l ys (i : Int)) (l.map cvS))
    (by
      intro ys hy h
      refine Ev.step (fun k => by rw [laws_toShiftS.l0]) ?_
      simp only [Int.lt_irrefl, if_false]
      rw [eq_fill (fun j => cvS (l.getD j z75)) l.length ys hy h, map_rd]
      exact Ev.now _)
    (by
      intro i hi ih ys hy h
      refine Ev.step (fun k => by rw [laws_toShiftS.l0]) ?_
      unfold laws_toShift.f
      simp only [Option.bind_some, if_pos (show (i : Int) < (l.length : Int) by omega), if_pos (show 0 ≤ (i : Int) by omega), if_pos (show (i : Int) < (ys.length : Int) by omega)]
      rw [inc i (by omega)]
      exact ih _ (by rw [List.length_set]; exact hy) (set_fill (fun j => cvS (l.getD j z75)) i ys h (by omega)))
  have := key 0 (by omega) (List.replicate ((l.length : Int) : Int).toNat z64) (by simp) (fun j hj => by omega)
  exact this
theorem to_table (f : Int) (l : List S75) (hl : l.length ≤ 1048576) : Ev (fun k => laws_toTable.f k f l) (f, l.map cvS) := by
  unfold laws_toTable.f
  exact Ev.bind (to_shifts l hl) (Ev.now _)
theorem eq_shifts (l : List S64) (hl : l.length ≤ 1048576) : Ev (fun k => laws_eqShiftS.f k l l) true := by
  unfold laws_eqShiftS.f
  simp only [if_true]
  have key := up_ind l.length (fun i => Ev (fun k => laws_eqShiftS.l0 k l l (i : Int)) true)
    (by
      refine Ev.step (fun k => by rw [laws_eqShiftS.l0]) ?_
      simp only [Int.lt_irrefl, if_false]
      exact Ev.now _)
    (by
      intro i hi ih
      refine Ev.step (fun k => by rw [laws_eqShiftS.l0]) ?_
      unfold laws_eqShift.f
      simp only [if_pos (show (i : Int) < (l.length : Int) by omega), if_pos (show 0 ≤ (i : Int) by omega), if_true, Option.bind_some]
      rw [inc i (by omega)]
      exact ih)
  exact key 0 (by omega)
theorem eq_table (f : Int) (l : List S64) (hl : l.length ≤ 1048576) : Ev (fun k => laws_eqTable.f k f l f l) true := by
  unfold laws_eqTable.f
  simp only [if_true]
  refine Ev.bind (eq_shifts l hl) ?_
  simp only [if_true]
  exact Ev.now _
/-- What each shift must be: from i on, Off ahead being off. -/
def tk (l : List S64) : Nat → Int → Nat → Bool
  | 0, _, _ => true
  | d + 1, off, i =>
    decide (-1000000000 ≤ (rd_T64 l (i : Int)).f0 ∧ (rd_T64 l (i : Int)).f0 ≤ 1000000000) && (decide (i = 0) || decide ((rd_T64 l ((i : Int) - 1)).f0 < (rd_T64 l (i : Int)).f0)) &&
    decide (-2000 ≤ (rd_T64 l (i : Int)).f1 ∧ (rd_T64 l (i : Int)).f1 ≤ 2000) && decide (¬ (rd_T64 l (i : Int)).f1 = off) && tk l d (rd_T64 l (i : Int)).f1 (i + 1)
def tOk (f : Int) (l : List S64) : Bool := decide (-2000 ≤ f ∧ f ≤ 2000) && decide ((l.length : Int) ≤ 300) && tk l l.length f 0
theorem s_tokl (f : Int) (l : List S64) (hl : l.length ≤ 1048576) : ∀ (d : Nat) (off : Int) (i : Nat), i + d = l.length → Ev (fun k => spec_TableOk.l0 k off (i : Int) f l) (tk l d off i) := by
  intro d
  induction d with
  | zero =>
    intro off i h
    refine Ev.step (fun k => by rw [spec_TableOk.l0]) ?_
    simp only [if_neg (show ¬ (i : Int) < (l.length : Int) by omega)]
    exact Ev.now _
  | succ d ih =>
    intro off i h
    have ih' := ih (rd_T64 l (i : Int)).f1 (i + 1) (by omega)
    refine Ev.step (fun k => by rw [spec_TableOk.l0]) ?_
    rw [s_In, s_In, inc i (by omega)]
    simp only [Option.bind_some, if_pos (show (i : Int) < (l.length : Int) by omega), if_pos (show 0 ≤ (i : Int) by omega), tk]
    by_cases h1 : -1000000000 ≤ (rd_T64 l (i : Int)).f0 ∧ (rd_T64 l (i : Int)).f0 ≤ 1000000000
    · simp only [decide_eq_true h1, if_true, Bool.true_and]
      have tail : Ev (fun k => if decide (-2000 ≤ (rd_T64 l (i : Int)).f1 ∧ (rd_T64 l (i : Int)).f1 ≤ 2000) = true then (if (rd_T64 l (i : Int)).f1 = off then some false else spec_TableOk.l0 k (rd_T64 l (i : Int)).f1 ((i + 1 : Nat) : Int) f l) else some false) (decide (-2000 ≤ (rd_T64 l (i : Int)).f1 ∧ (rd_T64 l (i : Int)).f1 ≤ 2000) && decide (¬ (rd_T64 l (i : Int)).f1 = off) && tk l d (rd_T64 l (i : Int)).f1 (i + 1)) := by
        by_cases h2 : -2000 ≤ (rd_T64 l (i : Int)).f1 ∧ (rd_T64 l (i : Int)).f1 ≤ 2000
        · simp only [decide_eq_true h2, if_true, Bool.true_and]
          by_cases h3 : (rd_T64 l (i : Int)).f1 = off
          · simp only [if_pos h3, decide_eq_false (show ¬ ¬ (rd_T64 l (i : Int)).f1 = off from fun h => h h3), Bool.false_and]
            exact Ev.now _
          · simp only [if_neg h3, decide_eq_true h3, Bool.true_and]
            exact ih'
        · simp only [decide_eq_false h2, Bool.false_eq_true, if_false, Bool.false_and]
          exact Ev.now _
      by_cases h0 : i = 0
      · simp only [if_neg (show ¬ (i : Int) > 0 by omega), decide_eq_true h0, Bool.true_or, Bool.true_and]
        exact tail
      · rw [w64 ((i : Int) - 1) (by omega) (by omega)]
        simp only [if_pos (show (i : Int) > 0 by omega), if_pos (show 0 ≤ (i : Int) - 1 by omega), if_pos (show (i : Int) - 1 < (l.length : Int) by omega), decide_eq_false h0, Bool.false_or]
        by_cases h4 : (rd_T64 l ((i : Int) - 1)).f0 ≥ (rd_T64 l (i : Int)).f0
        · simp only [if_pos h4, decide_eq_false (show ¬ (rd_T64 l ((i : Int) - 1)).f0 < (rd_T64 l (i : Int)).f0 by omega), Bool.false_and]
          exact Ev.now _
        · simp only [if_neg h4, decide_eq_true (show (rd_T64 l ((i : Int) - 1)).f0 < (rd_T64 l (i : Int)).f0 by omega), Bool.true_and]
          exact tail
    · simp only [decide_eq_false h1, Bool.false_eq_true, if_false, Bool.false_and]
      exact Ev.now _
theorem s_TableOk (f : Int) (l : List S64) (hl : l.length ≤ 1048576) : Ev (fun k => spec_TableOk.f k f l) (tOk f l) := by
  unfold spec_TableOk.f tOk
  rw [s_In]
  simp only [Option.bind_some]
  have no : ∀ b : Bool, b = true → Ev (fun k => spec_TableOk.j0 k b f l) false := by
    intro b hb
    refine Ev.step (fun k => by rw [spec_TableOk.j0]) ?_
    simp only [hb, if_true]
    exact Ev.now _
  by_cases h1 : -2000 ≤ f ∧ f ≤ 2000
  · simp only [decide_eq_true h1, if_true, Bool.true_and]
    by_cases h2 : (l.length : Int) > 300
    · simp only [decide_eq_false (show ¬ (l.length : Int) ≤ 300 by omega), Bool.false_and]
      exact no _ (decide_eq_true h2)
    · simp only [decide_eq_true (show (l.length : Int) ≤ 300 by omega), Bool.true_and, decide_eq_false h2]
      refine Ev.step (fun k => by rw [spec_TableOk.j0]) ?_
      simp only [Bool.false_eq_true, if_false]
      exact s_tokl f l hl l.length f 0 (by omega)
  · simp only [decide_eq_false h1, Bool.false_eq_true, if_false, Bool.false_and]
    exact no true rfl
theorem i_isMinute (n : Int) : impl_isMinute.f n = some (decide (-1000000000 ≤ n ∧ n ≤ 1000000000)) := by unfold impl_isMinute.f; rw [i_within]; rfl
theorem i_isOff (n : Int) : impl_isOff.f n = some (decide (-2000 ≤ n ∧ n ≤ 2000)) := by unfold impl_isOff.f; rw [i_within]; rfl
theorem i_tokl (f : Int) (l : List S64) (hl : l.length ≤ 1048576) : ∀ (d : Nat) (off : Int) (i : Nat), i + d = l.length → Ev (fun k => impl_TableOk.l0 k off l (l.length : Int) (i : Int) f l) (tk l d off i && (decide (-2000 ≤ f ∧ f ≤ 2000) && decide ((l.length : Int) ≤ 300))) := by
  intro d
  induction d with
  | zero =>
    intro off i h
    refine Ev.step (fun k => by rw [impl_TableOk.l0]) ?_
    rw [i_isOff f]
    simp only [if_neg (show ¬ (i : Int) < (l.length : Int) by omega), Option.bind_some, tk, Bool.true_and]
    by_cases h1 : -2000 ≤ f ∧ f ≤ 2000
    · simp only [decide_eq_true h1, if_true, Bool.true_and]; exact Ev.now _
    · simp only [decide_eq_false h1, Bool.false_eq_true, if_false, Bool.false_and]; exact Ev.now _
  | succ d ih =>
    intro off i h
    have ih' := ih (rd_T64 l (i : Int)).f1 (i + 1) (by omega)
    refine Ev.step (fun k => by rw [impl_TableOk.l0]) ?_
    rw [i_isMinute, i_isOff, inc i (by omega)]
    simp only [Option.bind_some, if_pos (show (i : Int) < (l.length : Int) by omega), if_pos (show 0 ≤ (i : Int) by omega), tk]
    by_cases h1 : -1000000000 ≤ (rd_T64 l (i : Int)).f0 ∧ (rd_T64 l (i : Int)).f0 ≤ 1000000000
    · simp only [decide_eq_true h1, if_true, Bool.true_and]
      have tail : Ev (fun k => if decide (-2000 ≤ (rd_T64 l (i : Int)).f1 ∧ (rd_T64 l (i : Int)).f1 ≤ 2000) = true then (if (rd_T64 l (i : Int)).f1 = off then some false else impl_TableOk.l0 k (rd_T64 l (i : Int)).f1 l (l.length : Int) ((i + 1 : Nat) : Int) f l) else some false) (decide (-2000 ≤ (rd_T64 l (i : Int)).f1 ∧ (rd_T64 l (i : Int)).f1 ≤ 2000) && decide (¬ (rd_T64 l (i : Int)).f1 = off) && tk l d (rd_T64 l (i : Int)).f1 (i + 1) && (decide (-2000 ≤ f ∧ f ≤ 2000) && decide ((l.length : Int) ≤ 300))) := by
        by_cases h2 : -2000 ≤ (rd_T64 l (i : Int)).f1 ∧ (rd_T64 l (i : Int)).f1 ≤ 2000
        · simp only [decide_eq_true h2, if_true, Bool.true_and]
          by_cases h3 : (rd_T64 l (i : Int)).f1 = off
          · simp only [if_pos h3, decide_eq_false (show ¬ ¬ (rd_T64 l (i : Int)).f1 = off from fun h => h h3), Bool.false_and]
            exact Ev.now _
          · simp only [if_neg h3, decide_eq_true h3, Bool.true_and]
            exact ih'
        · simp only [decide_eq_false h2, Bool.false_eq_true, if_false, Bool.false_and]
          exact Ev.now _
      by_cases h0 : i = 0
      · simp only [if_neg (show ¬ (i : Int) > 0 by omega), decide_eq_true h0, Bool.true_or, Bool.true_and]
        exact tail
      · rw [w64 ((i : Int) - 1) (by omega) (by omega)]
        simp only [if_pos (show (i : Int) > 0 by omega), if_pos (show 0 ≤ (i : Int) - 1 by omega), if_pos (show (i : Int) - 1 < (l.length : Int) by omega), decide_eq_false h0, Bool.false_or]
        by_cases h4 : (rd_T64 l ((i : Int) - 1)).f0 ≥ (rd_T64 l (i : Int)).f0
        · simp only [if_pos h4, decide_eq_false (show ¬ (rd_T64 l ((i : Int) - 1)).f0 < (rd_T64 l (i : Int)).f0 by omega), Bool.false_and]
          exact Ev.now _
        · simp only [if_neg h4, decide_eq_true (show (rd_T64 l ((i : Int) - 1)).f0 < (rd_T64 l (i : Int)).f0 by omega), Bool.true_and]
          exact tail
    · simp only [decide_eq_false h1, Bool.false_eq_true, if_false, Bool.false_and]
      exact Ev.now _
theorem i_TableOk (f : Int) (l : List S64) (hl : l.length ≤ 1048576) : Ev (fun k => impl_TableOk.f k f l) (tOk f l) := by
  unfold impl_TableOk.f
  have := i_tokl f l hl l.length f 0 (by omega)
  have e : tOk f l = (tk l l.length f 0 && (decide (-2000 ≤ f ∧ f ≤ 2000) && decide ((l.length : Int) ≤ 300))) := by unfold tOk; rw [Bool.and_comm]
  rw [e]
  exact this
theorem sz_table (f : Int) (l : List S75) (h : l.length ≤ 9223372036854775807) : laws_szTable.f f l 1048576 = some (if (l.length : Int) ≤ 1048576 then 1048576 - (l.length : Int) else -1) := by
  unfold laws_szTable.f laws_szShiftS.f
  rw [w64 _ (by omega) (by omega)]
  by_cases hl : (l.length : Int) ≤ 1048576
  · rw [if_pos hl, if_neg (by omega)]
    simp only [Option.bind_some]
    rw [if_neg (by omega)]
  · rw [if_neg hl, if_pos (by omega)]
    simp

/-- The last Off that is not behind the minute, from i on. -/
def ta (l : List S64) (m : Int) : Nat → Int → Nat → Int
  | 0, off, _ => off
  | d + 1, off, i => ta l m d (if (rd_T64 l (i : Int)).f0 ≤ m then (rd_T64 l (i : Int)).f1 else off) (i + 1)
theorem s_atl (f m : Int) (l : List S64) (hl : l.length ≤ 1048576) : ∀ (d : Nat) (off : Int) (i : Nat), i + d = l.length → Ev (fun k => spec_l13At.l0 k m off (i : Int) f l) (ta l m d off i) := by
  intro d
  induction d with
  | zero =>
    intro off i h
    refine Ev.step (fun k => by rw [spec_l13At.l0]) ?_
    simp only [if_neg (show ¬ (i : Int) < (l.length : Int) by omega)]
    exact Ev.now _
  | succ d ih =>
    intro off i h
    refine Ev.step (fun k => by rw [spec_l13At.l0]) ?_
    rw [inc i (by omega)]
    simp only [if_pos (show (i : Int) < (l.length : Int) by omega), if_pos (show 0 ≤ (i : Int) by omega), ta]
    by_cases h1 : (rd_T64 l (i : Int)).f0 ≤ m
    · simp only [if_pos h1]; exact ih _ (i + 1) (by omega)
    · simp only [if_neg h1]; exact ih _ (i + 1) (by omega)
def tabAt (f : Int) (l : List S64) (m : Int) : Int := if tOk f l = true then ta l m l.length f 0 else 0
theorem i_atl (m : Int) (l : List S64) (hl : l.length ≤ 1048576) : ∀ (d : Nat) (off : Int) (i : Nat), i + d = l.length → Ev (fun k => impl_TableAt.l0 k m off l (l.length : Int) (i : Int)) (ta l m d off i) := by
  intro d
  induction d with
  | zero =>
    intro off i h
    refine Ev.step (fun k => by rw [impl_TableAt.l0]) ?_
    simp only [if_neg (show ¬ (i : Int) < (l.length : Int) by omega)]
    exact Ev.now _
  | succ d ih =>
    intro off i h
    refine Ev.step (fun k => by rw [impl_TableAt.l0]) ?_
    rw [inc i (by omega)]
    simp only [if_pos (show (i : Int) < (l.length : Int) by omega), if_pos (show 0 ≤ (i : Int) by omega), ta]
    by_cases h1 : (rd_T64 l (i : Int)).f0 ≤ m
    · simp only [if_pos h1]; exact ih _ (i + 1) (by omega)
    · simp only [if_neg h1]; exact ih _ (i + 1) (by omega)
theorem i_TableAt (f m : Int) (l : List S64) (hl : l.length ≤ 1048576) : Ev (fun k => impl_TableAt.f k f l m) (tabAt f l m) := by
  unfold impl_TableAt.f tabAt
  refine Ev.bind (i_TableOk f l hl) ?_
  by_cases h : tOk f l = true
  · simp only [h, if_true]
    exact i_atl m l hl l.length f 0 (by omega)
  · simp only [h]
    exact Ev.now _

theorem s_TableAt (f m : Int) (l : List S64) (hl : l.length ≤ 1048576) : Ev (fun k => spec_TableAt.f k f l m) (tabAt f l m) := by
  unfold spec_TableAt.f spec_l13At.f tabAt
  refine Ev.bind (s_TableOk f l hl) ?_
  by_cases h : tOk f l = true
  · simp only [h, if_true]
    exact Ev.bind (s_atl f m l hl l.length f 0 (by omega)) (Ev.now _)
  · simp only [h]
    exact Ev.now _

theorem FnExactTableAt : ∀ (a0_0 : Int) (l0_1 : (List S75)) (a1 : Int), (Lit.int .i64 a0_0).wf = true → (l0_1.length ≤ 9223372036854775807 ∧ ∀ x ∈ l0_1, ((Lit.int .i64 x.f0).wf = true ∧ (Lit.int .i64 x.f1).wf = true)) → (Lit.int .i64 a1).wf = true → ∃ k, laws_FnExactTableAt.f k a0_0 l0_1 a1 = some true := by
  intro f l m _ hg _
  refine Ev.rounds ?_
  unfold laws_FnExactTableAt.f
  rw [sz_table f l hg.1]
  simp only [Option.bind_some]
  by_cases hl : (l.length : Int) ≤ 1048576
  · rw [if_pos hl]
    simp only [if_neg (show ¬ 1048576 - (l.length : Int) < 0 by omega)]
    have hm : (l.map cvS).length ≤ 1048576 := by rw [List.length_map]; omega
    refine Ev.bind (to_table f l (by omega)) (Ev.bind (s_TableAt f m _ hm) (Ev.bind (to_table f l (by omega)) (Ev.bind (i_TableAt f m _ hm) ?_)))
    simp only [if_true]
    refine Ev.bind (to_table f l (by omega)) (Ev.bind (eq_table f _ hm) ?_)
    simp only [if_true]
    exact Ev.now _
  · rw [if_neg hl]
    simp only [if_pos (show (-1 : Int) < 0 by omega)]
    exact Ev.now _

end Go.Proofs.Ytklhjaimnhoijaa.Pure
