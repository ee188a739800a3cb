/- The law FnExactTablePack answers true for every argument. No condition. -/
import Derived.Test.YtkjfcgnhpalhnaaQFnExactTablePackx7
namespace Go.Proofs.Ytkjfcgnhpalhnaa.Pure
open Go.RowKit Go.Proofs.Ytkjfcgnhpalhnaa.QFnExactTablePack Go.Proofs.YtkjfcgnhpalhnaaW.PrintWords Go.Proofs.YtkjfcgnhpalhnaaW.PrintLast
set_option linter.unusedVariables false
set_option linter.unusedSimpArgs false

theorem w64 (n : Int) (h0 : -9223372036854775808 ≤ n) (h1 : n ≤ 9223372036854775807) : wrap64 n = n := by unfold wrap64; omega
theorem tmn {a : Int} (b : Int) (h : 0 ≤ a) : Int.tmod a b = a % b := Int.tmod_eq_emod_of_nonneg h
theorem wfi {x : Int} (h : (Lit.int .i64 x).wf = true) : -9223372036854775808 ≤ x ∧ x ≤ 9223372036854775807 := by
  simp [Lit.wf, IntKind.min, IntKind.max, IntKind.signed, IntKind.bits] at h
  omega
theorem wf8 {x : Int} (h : (Lit.int .u8 x).wf = true) : 0 ≤ x ∧ x ≤ 255 := by
  simp [Lit.wf, IntKind.min, IntKind.max, IntKind.signed, IntKind.bits] at h
  omega
theorem evc {α : Type} {g : Nat → Option α} {r : α} (h : ∀ k, g k = some r) : Ev g r := ⟨0, fun k _ => h k⟩
theorem getD_mem {α : Type} (l : List α) (n : Nat) (z : α) (h : n < l.length) : l.getD n z ∈ l := by
  rw [List.getD_eq_getElem?_getD, List.getElem?_eq_getElem h]
  exact List.getElem_mem h
theorem ex_step {α : Type} {g f : Nat → Option α} (h : ∀ k, g (k + 1) = f k) (e : ∃ r, Ev f r) : ∃ r, Ev g r := by
  obtain ⟨r, e⟩ := e
  exact ⟨r, Ev.step h e⟩
theorem ex_bind {α β : Type} {g : Nat → Option α} {f : Nat → α → Option β} {a : α} (h : Ev g a) (e : ∃ r, Ev (fun n => f n a) r) : ∃ r, Ev (fun n => (g n).bind (f n)) r := by
  obtain ⟨r, e⟩ := e
  exact ⟨r, Ev.bind h e⟩

theorem up_ind (n : Nat) (P : Nat → Prop) (he : P n) (hs : ∀ i, i < n → P (i + 1) → P i) (i : Nat) (h : i ≤ n) : P i := by
  have key : ∀ (d i : Nat), i + d = n → P i := by
    intro d
    induction d with
    | zero => intro i h; obtain rfl : i = n := by omega
              exact he
    | succ d ih => intro i h; exact hs i (by omega) (ih (i + 1) (by omega))
  exact key (n - i) i (by omega)
theorem eq_fill {β : Type} (y : Nat → β) (n : Nat) (ys : List β) (hl : ys.length = n) (h : ∀ j, j < n → ys[j]? = some (y j)) : ys = (List.range n).map y := by
  apply List.ext_getElem?
  intro j
  by_cases hj : j < n
  · rw [h j hj]; simp [hj]
  · rw [List.getElem?_eq_none (by omega), List.getElem?_eq_none (by simp; omega)]
theorem map_rd {α β : Type} (l : List α) (z : α) (f : α → β) : (List.range l.length).map (fun i => f (l.getD i z)) = l.map f := by
  apply List.ext_getElem?
  intro j
  by_cases hj : j < l.length
  · simp [hj, List.getD]
  · rw [List.getElem?_eq_none (by simp; omega), List.getElem?_eq_none (by simp; omega)]
theorem set_fill {β : Type} (y : Nat → β) (i : Nat) (ys : List β) (h : ∀ j, j < i → ys[j]? = some (y j)) (hi : i < ys.length) : ∀ j, j < i + 1 → (ys.set i (y i))[j]? = some (y j) := by
  intro j hj
  by_cases e : j = i
  · subst e; rw [List.getElem?_set_self hi]
  · rw [List.getElem?_set_ne (by omega)]; exact h j (by omega)
theorem inc (i : Nat) (h : i < 1000000000000000) : wrap64 ((i : Int) + 1) = ((i + 1 : Nat) : Int) := by rw [w64 _ (by omega) (by omega)]; omega

theorem i_within (n a b : Int) : impl_within.f n a b = some (decide (a ≤ n ∧ n ≤ b)) := by
  unfold impl_within.f
  by_cases h : n ≥ a
  · rw [if_pos h]; simp [show a ≤ n from h]
  · rw [if_neg h]; simp [show ¬ a ≤ n from h]

theorem s_In (n a b : Int) : spec_l1In.f n a b = some (decide (a ≤ n ∧ n ≤ b)) := by
  unfold spec_l1In.f
  by_cases h : n ≥ a
  · rw [if_pos h]; simp [show a ≤ n from h]
  · rw [if_neg h]; simp [show ¬ a ≤ n from h]

def cvS (x : S119) : S88 := ⟨x.f0, x.f1⟩
theorem to_shifts (l : List S119) (hl : l.length ≤ 1048576) : Ev (fun k => laws_toShiftS.f k l) (l.map cvS) := by
  unfold laws_toShiftS.f
  simp only [if_pos (show 0 ≤ (l.length : Int) by omega), if_pos (show ((l.length : Int) : Int).toNat ≤ 17592186044416 by omega)]
  have key := up_ind l.length (fun i => ∀ ys : List S88, ys.length = l.length → (∀ j, j < i → ys[j]? = some (cvS (l.getD j z119))) → Ev (fun k => laws_toShiftS.l0 k l ys (i : Int)) (l.map cvS))
    (by
      intro ys hy h
      refine Ev.step (fun k => by rw [laws_toShiftS.l0]) ?_
      simp only [Int.lt_irrefl, if_false]
      rw [eq_fill (fun j => cvS (l.getD j z119)) l.length ys hy h, map_rd]
      exact Ev.now _)
    (by
      intro i hi ih ys hy h
      refine Ev.step (fun k => by rw [laws_toShiftS.l0]) ?_
      unfold laws_toShift.f
      simp only [Option.bind_some, if_pos (show (i : Int) < (l.length : Int) by omega), if_pos (show 0 ≤ (i : Int) by omega), if_pos (show (i : Int) < (ys.length : Int) by omega)]
      rw [inc i (by omega)]
      exact ih _ (by rw [List.length_set]; exact hy) (set_fill (fun j => cvS (l.getD j z119)) i ys h (by omega)))
  have := key 0 (by omega) (List.replicate ((l.length : Int) : Int).toNat z88) (by simp) (fun j hj => by omega)
  exact this
theorem to_table (f : Int) (l : List S119) (hl : l.length ≤ 1048576) : Ev (fun k => laws_toTable.f k f l) (f, l.map cvS) := by
  unfold laws_toTable.f
  exact Ev.bind (to_shifts l hl) (Ev.now _)
theorem eq_shifts (l : List S88) (hl : l.length ≤ 1048576) : Ev (fun k => laws_eqShiftS.f k l l) true := by
  unfold laws_eqShiftS.f
  simp only [if_true]
  have key := up_ind l.length (fun i => Ev (fun k => laws_eqShiftS.l0 k l l (i : Int)) true)
    (by
      refine Ev.step (fun k => by rw [laws_eqShiftS.l0]) ?_
      simp only [Int.lt_irrefl, if_false]
      exact Ev.now _)
    (by
      intro i hi ih
      refine Ev.step (fun k => by rw [laws_eqShiftS.l0]) ?_
      unfold laws_eqShift.f
      simp only [if_pos (show (i : Int) < (l.length : Int) by omega), if_pos (show 0 ≤ (i : Int) by omega), if_true, Option.bind_some]
      rw [inc i (by omega)]
      exact ih)
  exact key 0 (by omega)
theorem eq_table (f : Int) (l : List S88) (hl : l.length ≤ 1048576) : Ev (fun k => laws_eqTable.f k f l f l) true := by
  unfold laws_eqTable.f
  simp only [if_true]
  refine Ev.bind (eq_shifts l hl) ?_
  simp only [if_true]
  exact Ev.now _
/-- What each shift must be: from i on, Off ahead being off. -/
def tk (l : List S88) : Nat → Int → Nat → Bool
  | 0, _, _ => true
  | d + 1, off, i =>
    decide (-1000000000 ≤ (rd_T88 l (i : Int)).f0 ∧ (rd_T88 l (i : Int)).f0 ≤ 1000000000) && (decide (i = 0) || decide ((rd_T88 l ((i : Int) - 1)).f0 < (rd_T88 l (i : Int)).f0)) &&
    decide (-2000 ≤ (rd_T88 l (i : Int)).f1 ∧ (rd_T88 l (i : Int)).f1 ≤ 2000) && decide (¬ (rd_T88 l (i : Int)).f1 = off) && tk l d (rd_T88 l (i : Int)).f1 (i + 1)
def tOk (f : Int) (l : List S88) : Bool := decide (-2000 ≤ f ∧ f ≤ 2000) && decide ((l.length : Int) ≤ 300) && tk l l.length f 0
theorem s_tokl (f : Int) (l : List S88) (hl : l.length ≤ 1048576) : ∀ (d : Nat) (off : Int) (i : Nat), i + d = l.length → Ev (fun k => spec_TableOk.l0 k off (i : Int) f l) (tk l d off i) := by
  intro d
  induction d with
  | zero =>
    intro off i h
    refine Ev.step (fun k => by rw [spec_TableOk.l0]) ?_
    simp only [if_neg (show ¬ (i : Int) < (l.length : Int) by omega)]
    exact Ev.now _
  | succ d ih =>
    intro off i h
    have ih' := ih (rd_T88 l (i : Int)).f1 (i + 1) (by omega)
    refine Ev.step (fun k => by rw [spec_TableOk.l0]) ?_
    rw [s_In, s_In, inc i (by omega)]
    simp only [Option.bind_some, if_pos (show (i : Int) < (l.length : Int) by omega), if_pos (show 0 ≤ (i : Int) by omega), tk]
    by_cases h1 : -1000000000 ≤ (rd_T88 l (i : Int)).f0 ∧ (rd_T88 l (i : Int)).f0 ≤ 1000000000
    · simp only [decide_eq_true h1, if_true, Bool.true_and]
      have tail : Ev (fun k => if decide (-2000 ≤ (rd_T88 l (i : Int)).f1 ∧ (rd_T88 l (i : Int)).f1 ≤ 2000) = true then (if (rd_T88 l (i : Int)).f1 = off then some false else spec_TableOk.l0 k (rd_T88 l (i : Int)).f1 ((i + 1 : Nat) : Int) f l) else some false) (decide (-2000 ≤ (rd_T88 l (i : Int)).f1 ∧ (rd_T88 l (i : Int)).f1 ≤ 2000) && decide (¬ (rd_T88 l (i : Int)).f1 = off) && tk l d (rd_T88 l (i : Int)).f1 (i + 1)) := by
        by_cases h2 : -2000 ≤ (rd_T88 l (i : Int)).f1 ∧ (rd_T88 l (i : Int)).f1 ≤ 2000
        · simp only [decide_eq_true h2, if_true, Bool.true_and]
          by_cases h3 : (rd_T88 l (i : Int)).f1 = off
          · simp only [if_pos h3, decide_eq_false (show ¬ ¬ (rd_T88 l (i : Int)).f1 = off from fun h => h h3), Bool.false_and]
            exact Ev.now _
          · simp only [if_neg h3, decide_eq_true h3, Bool.true_and]
            exact ih'
        · simp only [decide_eq_false h2, Bool.false_eq_true, if_false, Bool.false_and]
          exact Ev.now _
      by_cases h0 : i = 0
      · simp only [if_neg (show ¬ (i : Int) > 0 by omega), decide_eq_true h0, Bool.true_or, Bool.true_and]
        exact tail
      · rw [w64 ((i : Int) - 1) (by omega) (by omega)]
        simp only [if_pos (show (i : Int) > 0 by omega), if_pos (show 0 ≤ (i : Int) - 1 by omega), if_pos (show (i : Int) - 1 < (l.length : Int) by omega), decide_eq_false h0, Bool.false_or]
        by_cases h4 : (rd_T88 l ((i : Int) - 1)).f0 ≥ (rd_T88 l (i : Int)).f0
        · simp only [if_pos h4, decide_eq_false (show ¬ (rd_T88 l ((i : Int) - 1)).f0 < (rd_T88 l (i : Int)).f0 by omega), Bool.false_and]
          exact Ev.now _
        · simp only [if_neg h4, decide_eq_true (show (rd_T88 l ((i : Int) - 1)).f0 < (rd_T88 l (i : Int)).f0 by omega), Bool.true_and]
          exact tail
    · simp only [decide_eq_false h1, Bool.false_eq_true, if_false, Bool.false_and]
      exact Ev.now _
theorem s_TableOk (f : Int) (l : List S88) (hl : l.length ≤ 1048576) : Ev (fun k => spec_TableOk.f k f l) (tOk f l) := by
  unfold spec_TableOk.f tOk
  rw [s_In]
  simp only [Option.bind_some]
  have no : ∀ b : Bool, b = true → Ev (fun k => spec_TableOk.j0 k b f l) false := by
    intro b hb
    refine Ev.step (fun k => by rw [spec_TableOk.j0]) ?_
    simp only [hb, if_true]
    exact Ev.now _
  by_cases h1 : -2000 ≤ f ∧ f ≤ 2000
  · simp only [decide_eq_true h1, if_true, Bool.true_and]
    by_cases h2 : (l.length : Int) > 300
    · simp only [decide_eq_false (show ¬ (l.length : Int) ≤ 300 by omega), Bool.false_and]
      exact no _ (decide_eq_true h2)
    · simp only [decide_eq_true (show (l.length : Int) ≤ 300 by omega), Bool.true_and, decide_eq_false h2]
      refine Ev.step (fun k => by rw [spec_TableOk.j0]) ?_
      simp only [Bool.false_eq_true, if_false]
      exact s_tokl f l hl l.length f 0 (by omega)
  · simp only [decide_eq_false h1, Bool.false_eq_true, if_false, Bool.false_and]
    exact no true rfl
theorem i_isMinute (n : Int) : impl_isMinute.f n = some (decide (-1000000000 ≤ n ∧ n ≤ 1000000000)) := by unfold impl_isMinute.f; rw [i_within]; rfl
theorem i_isOff (n : Int) : impl_isOff.f n = some (decide (-2000 ≤ n ∧ n ≤ 2000)) := by unfold impl_isOff.f; rw [i_within]; rfl
theorem i_tokl (f : Int) (l : List S88) (hl : l.length ≤ 1048576) : ∀ (d : Nat) (off : Int) (i : Nat), i + d = l.length → Ev (fun k => impl_TableOk.l0 k off l (l.length : Int) (i : Int) f l) (tk l d off i && (decide (-2000 ≤ f ∧ f ≤ 2000) && decide ((l.length : Int) ≤ 300))) := by
  intro d
  induction d with
  | zero =>
    intro off i h
    refine Ev.step (fun k => by rw [impl_TableOk.l0]) ?_
    rw [i_isOff f]
    simp only [if_neg (show ¬ (i : Int) < (l.length : Int) by omega), Option.bind_some, tk, Bool.true_and]
    by_cases h1 : -2000 ≤ f ∧ f ≤ 2000
    · simp only [decide_eq_true h1, if_true, Bool.true_and]; exact Ev.now _
    · simp only [decide_eq_false h1, Bool.false_eq_true, if_false, Bool.false_and]; exact Ev.now _
  | succ d ih =>
    intro off i h
    have ih' := ih (rd_T88 l (i : Int)).f1 (i + 1) (by omega)
    refine Ev.step (fun k => by rw [impl_TableOk.l0]) ?_
    rw [i_isMinute, i_isOff, inc i (by omega)]
    simp only [Option.bind_some, if_pos (show (i : Int) < (l.length : Int) by omega), if_pos (show 0 ≤ (i : Int) by omega), tk]
    by_cases h1 : -1000000000 ≤ (rd_T88 l (i : Int)).f0 ∧ (rd_T88 l (i : Int)).f0 ≤ 1000000000
    · simp only [decide_eq_true h1, if_true, Bool.true_and]
      have tail : Ev (fun k => if decide (-2000 ≤ (rd_T88 l (i : Int)).f1 ∧ (rd_T88 l (i : Int)).f1 ≤ 2000) = true then (if (rd_T88 l (i : Int)).f1 = off then some false else impl_TableOk.l0 k (rd_T88 l (i : Int)).f1 l (l.length : Int) ((i + 1 : Nat) : Int) f l) else some false) (decide (-2000 ≤ (rd_T88 l (i : Int)).f1 ∧ (rd_T88 l (i : Int)).f1 ≤ 2000) && decide (¬ (rd_T88 l (i : Int)).f1 = off) && tk l d (rd_T88 l (i : Int)).f1 (i + 1) && (decide (-2000 ≤ f ∧ f ≤ 2000) && decide ((l.length : Int) ≤ 300))) := by
        by_cases h2 : -2000 ≤ (rd_T88 l (i : Int)).f1 ∧ (rd_T88 l (i : Int)).f1 ≤ 2000
        · simp only [decide_eq_true h2, if_true, Bool.true_and]
          by_cases h3 : (rd_T88 l (i : Int)).f1 = off
          · simp only [if_pos h3, decide_eq_false (show ¬ ¬ (rd_T88 l (i : Int)).f1 = off from fun h => h h3), Bool.false_and]
            exact Ev.now _
          · simp only [if_neg h3, decide_eq_true h3, Bool.true_and]
            exact ih'
        · simp only [decide_eq_false h2, Bool.false_eq_true, if_false, Bool.false_and]
          exact Ev.now _
      by_cases h0 : i = 0
      · simp only [if_neg (show ¬ (i : Int) > 0 by omega), decide_eq_true h0, Bool.true_or, Bool.true_and]
        exact tail
      · rw [w64 ((i : Int) - 1) (by omega) (by omega)]
        simp only [if_pos (show (i : Int) > 0 by omega), if_pos (show 0 ≤ (i : Int) - 1 by omega), if_pos (show (i : Int) - 1 < (l.length : Int) by omega), decide_eq_false h0, Bool.false_or]
        by_cases h4 : (rd_T88 l ((i : Int) - 1)).f0 ≥ (rd_T88 l (i : Int)).f0
        · simp only [if_pos h4, decide_eq_false (show ¬ (rd_T88 l ((i : Int) - 1)).f0 < (rd_T88 l (i : Int)).f0 by omega), Bool.false_and]
          exact Ev.now _
        · simp only [if_neg h4, decide_eq_true (show (rd_T88 l ((i : Int) - 1)).f0 < (rd_T88 l (i : Int)).f0 by omega), Bool.true_and]
          exact tail
    · simp only [decide_eq_false h1, Bool.false_eq_true, if_false, Bool.false_and]
      exact Ev.now _
theorem i_TableOk (f : Int) (l : List S88) (hl : l.length ≤ 1048576) : Ev (fun k => impl_TableOk.f k f l) (tOk f l) := by
  unfold impl_TableOk.f
  have := i_tokl f l hl l.length f 0 (by omega)
  have e : tOk f l = (tk l l.length f 0 && (decide (-2000 ≤ f ∧ f ≤ 2000) && decide ((l.length : Int) ≤ 300))) := by unfold tOk; rw [Bool.and_comm]
  rw [e]
  exact this
theorem sz_table (f : Int) (l : List S119) (h : l.length ≤ 9223372036854775807) : laws_szTable.f f l 1048576 = some (if (l.length : Int) ≤ 1048576 then 1048576 - (l.length : Int) else -1) := by
  unfold laws_szTable.f laws_szShiftS.f
  rw [w64 _ (by omega) (by omega)]
  by_cases hl : (l.length : Int) ≤ 1048576
  · rw [if_pos hl, if_neg (by omega)]
    simp only [Option.bind_some]
    rw [if_neg (by omega)]
  · rw [if_neg hl, if_pos (by omega)]
    simp

theorem or_and (x : Int) (h0 : 0 ≤ x) (h1 : x < 4611686018427387904) : (Go.bits .or .i64 (Go.bits .and .i64 x 127) 128) % 256 = (wrap64 ((Int.tmod x 128) + 128)) % 256 := by
  have wr : ∀ n : Int, 0 ≤ n → n < 2 ^ 62 → IntKind.i64.wrap n = n := by
    intro n a b
    rw [Go.IntKind.wrap_i64]
    have : (2 : Int) ^ 62 = 4611686018427387904 := by decide
    omega
  have e1 : Go.bits .and .i64 x 127 = x % 128 := bits_mask .i64 62 (by decide) wr 7 (by decide) x h0 h1
  rw [e1, tmn 128 h0, w64 _ (by omega) (by omega)]
  obtain ⟨a, ha⟩ := Int.eq_ofNat_of_zero_le (show 0 ≤ x % 128 by omega)
  have ha2 : a < 128 := by omega
  rw [ha]
  have big : (2 : Nat) ^ 62 = 4611686018427387904 := by decide
  have e2 : Go.bits .or .i64 (a : Int) ((128 : Nat) : Int) = ((a ||| 128 : Nat) : Int) := (bits_nat .i64 62 (by decide) wr a 128 (by omega) (by decide)).2
  have e3 : a ||| 128 = 128 + a := by
    have h := Nat.two_pow_add_eq_or_of_lt (i := 7) (b := a) (by omega) 1
    rw [show (2 : Nat) ^ 7 * 1 = 128 from rfl] at h
    rw [Nat.or_comm, ← h]
  have e4 : Go.bits .or .i64 (a : Int) 128 = ((a ||| 128 : Nat) : Int) := e2
  rw [e4, e3]
  omega
theorem putnum_l : ∀ (m : Nat) (x : Int) (o : List Int), x ≤ m → 0 ≤ x → x ≤ 1000000000000 → o.length + m ≤ 100000000000000 → ∃ r, Ev (fun k => spec_PutNum.l0 k x o) r ∧ Ev (fun k => impl_PutNum.l0 k x o) r ∧ r.length ≤ o.length + m + 1 := by
  intro m
  induction m with
  | zero =>
    intro x o h1 h2 h3 h4
    refine ⟨o ++ [x % 256], Ev.step (fun k => by rw [spec_PutNum.l0]) ?_, Ev.step (fun k => by rw [impl_PutNum.l0]) ?_, by simp⟩
    · simp only [if_neg (show ¬ x > 127 by omega), if_pos (show o.length < 140737488355328 by omega)]; exact Ev.now _
    · simp only [if_neg (show ¬ x > 127 by omega), if_pos (show o.length < 140737488355328 by omega)]; exact Ev.now _
  | succ m ih =>
    intro x o h1 h2 h3 h4
    by_cases hx : x > 127
    · obtain ⟨r, e1, e2, hr⟩ := ih (x / 128) (o ++ [(wrap64 ((Int.tmod x 128) + 128)) % 256]) (by omega) (by omega) (by omega) (by simp; omega)
      refine ⟨r, Ev.step (fun k => by rw [spec_PutNum.l0]) ?_, Ev.step (fun k => by rw [impl_PutNum.l0]) ?_, by simp at hr; omega⟩
      · rw [Int.tdiv_eq_ediv_of_nonneg h2, w64 (x / 128) (by omega) (by omega)]
        simp only [if_pos hx, if_pos (show o.length < 140737488355328 by omega)]
        exact e1
      · rw [or_and x h2 (by omega)]
        simp only [if_pos hx, if_pos (show o.length < 140737488355328 by omega)]
        exact e2
    · refine ⟨o ++ [x % 256], Ev.step (fun k => by rw [spec_PutNum.l0]) ?_, Ev.step (fun k => by rw [impl_PutNum.l0]) ?_, by simp⟩
      · simp only [if_neg hx, if_pos (show o.length < 140737488355328 by omega)]; exact Ev.now _
      · simp only [if_neg hx, if_pos (show o.length < 140737488355328 by omega)]; exact Ev.now _
theorem pn_ex (x : Int) : ∃ r : List Int, x ≤ 10000000000 → Ev (fun k => spec_PutNum.f k x) r ∧ Ev (fun k => impl_PutNum.f k x) r ∧ r.length ≤ 10000000001 := by
  by_cases h : x ≤ 10000000000
  · unfold spec_PutNum.f impl_PutNum.f
    by_cases h0 : x < 0
    · exact ⟨[], fun _ => ⟨by simp only [Option.bind_some, if_pos h0]; exact Ev.now _, by simp only [if_pos h0]; exact Ev.now _, by simp⟩⟩
    · obtain ⟨r, e1, e2, hr⟩ := putnum_l x.toNat x [] (by omega) (by omega) (by omega) (by simp; omega)
      exact ⟨r, fun _ => ⟨by simp only [Option.bind_some, if_neg h0]; exact e1, by simp only [if_neg h0]; exact e2, by simp at hr; omega⟩⟩
  · exact ⟨[], fun g => absurd g h⟩
/-- The number form. -/
noncomputable def pn (x : Int) : List Int := Classical.choose (pn_ex x)
theorem s_pn {x : Int} (h : x ≤ 10000000000) : Ev (fun k => spec_PutNum.f k x) (pn x) := (Classical.choose_spec (pn_ex x) h).1
theorem i_pn {x : Int} (h : x ≤ 10000000000) : Ev (fun k => impl_PutNum.f k x) (pn x) := (Classical.choose_spec (pn_ex x) h).2.1
theorem pn_len {x : Int} (h : x ≤ 10000000000) : (pn x).length ≤ 10000000001 := (Classical.choose_spec (pn_ex x) h).2.2

theorem i_put2 (x y : Int) (hx : x ≤ 10000000000) (hy : y ≤ 10000000000) : Ev (fun k => impl_putNums.f k [x, y]) (pn x ++ pn y) := by
  unfold impl_putNums.f
  have h1 := pn_len hx
  have h2 := pn_len hy
  have r0 : rd [x, y] 0 = x := rfl
  have r1 : rd [x, y] (0 + 1) = y := rfl
  refine Ev.step (fun k => by rw [impl_putNums.l0]) ?_
  simp only [r0, List.length_cons, List.length_nil, if_pos (show (0 : Int) < ((0 + 1 + 1 : Nat) : Int) by omega), if_pos (Int.le_refl 0)]
  refine Ev.bind (i_pn hx) ?_
  simp only [List.length_nil, List.nil_append, if_pos (show 0 + (pn x).length < 140737488355328 by omega)]
  rw [w64 (0 + 1) (by omega) (by omega)]
  refine Ev.step (fun k => by rw [impl_putNums.l0]) ?_
  simp only [r1, List.length_cons, List.length_nil, if_pos (show (0 + 1 : Int) < ((0 + 1 + 1 : Nat) : Int) by omega), if_pos (show (0 : Int) ≤ 0 + 1 by omega)]
  refine Ev.bind (i_pn hy) ?_
  simp only [if_pos (show (pn x).length + (pn y).length < 140737488355328 by omega)]
  rw [w64 (0 + 1 + 1) (by omega) (by omega)]
  refine Ev.step (fun k => by rw [impl_putNums.l0]) ?_
  simp only [List.length_cons, List.length_nil, if_neg (show ¬ (0 + 1 + 1 : Int) < ((0 + 1 + 1 : Nat) : Int) by omega)]
  exact Ev.now _

theorem eq_bytes (l : List Int) (hl : l.length ≤ 10000000000000) : Ev (fun k => laws_eqByteS.f k l l) true := by
  unfold laws_eqByteS.f
  simp only [if_true]
  have key := up_ind l.length (fun i => Ev (fun k => laws_eqByteS.l0 k l l (i : Int)) true)
    (by
      refine Ev.step (fun k => by rw [laws_eqByteS.l0]) ?_
      simp only [Int.lt_irrefl, if_false]
      exact Ev.now _)
    (by
      intro i hi ih
      refine Ev.step (fun k => by rw [laws_eqByteS.l0]) ?_
      simp only [if_pos (show (i : Int) < (l.length : Int) by omega), if_pos (show 0 ≤ (i : Int) by omega), if_true]
      rw [inc i (by omega)]
      exact ih)
  exact key 0 (by omega)
def bm (j : Nat) : Int := ((1 + j : Nat) : Int) % 256
theorem mark_bytes (l : List Int) (hl : l.length ≤ 10000000000000) : Ev (fun k => laws_markByteS.f k l 1) (((1 + l.length : Nat) : Int), (List.range l.length).map bm) := by
  unfold laws_markByteS.f
  have key := up_ind l.length (fun i => ∀ ys : List Int, ys.length = l.length → (∀ j, j < i → ys[j]? = some (bm j)) → Ev (fun k => laws_markByteS.l0 k ys ((1 + i : Nat) : Int) (i : Int)) (((1 + l.length : Nat) : Int), (List.range l.length).map bm))
    (by
      intro ys hy h
      refine Ev.step (fun k => by rw [laws_markByteS.l0]) ?_
      simp only [if_neg (show ¬ (l.length : Int) < (ys.length : Int) by omega)]
      rw [eq_fill bm l.length ys hy h]
      exact Ev.now _)
    (by
      intro i hi ih ys hy h
      refine Ev.step (fun k => by rw [laws_markByteS.l0]) ?_
      simp only [if_pos (show (i : Int) < (ys.length : Int) by omega), if_pos (show 0 ≤ (i : Int) by omega)]
      rw [inc i (by omega), inc (1 + i) (by omega)]
      exact ih _ (by rw [List.length_set]; exact hy) (set_fill bm i ys h (by omega)))
  exact key 0 (by omega) l rfl (fun j hj => by omega)
theorem held_bytes (n : Nat) (hl : n ≤ 10000000000000) : Ev (fun k => laws_heldByteS.f k ((List.range n).map bm) 1) ((1 + n : Nat) : Int) := by
  unfold laws_heldByteS.f
  have hlen : ((List.range n).map bm).length = n := by simp
  have key := up_ind n (fun i => Ev (fun k => laws_heldByteS.l0 k ((List.range n).map bm) ((1 + i : Nat) : Int) (i : Int)) ((1 + n : Nat) : Int))
    (by
      refine Ev.step (fun k => by rw [laws_heldByteS.l0]) ?_
      rw [hlen]
      simp only [Int.lt_irrefl, if_false]
      exact Ev.now _)
    (by
      intro i hi ih
      refine Ev.step (fun k => by rw [laws_heldByteS.l0]) ?_
      rw [hlen]
      have e : rd ((List.range n).map bm) (i : Int) = bm i := by unfold rd; simp [List.getD, hi]
      simp only [if_pos (show (i : Int) < (n : Int) by omega), if_pos (show 0 ≤ (i : Int) by omega), e, bm, if_true]
      rw [inc i (by omega), inc (1 + i) (by omega)]
      exact ih)
  exact key 0 (by omega)

theorem mark_table (f : Int) (l : List S88) (hl : l.length ≤ 1048576) : ∃ r, Ev (fun k => laws_markTable.f k f l 1) (((1 + 2 * l.length : Nat) : Int), r) := by
  unfold laws_markTable.f laws_markShiftS.f
  have key := up_ind l.length (fun i => ∀ ys : List S88, ys.length = l.length → ∃ r, Ev (fun k => laws_markShiftS.l0 k ys ((1 + 2 * i : Nat) : Int) (i : Int)) (((1 + 2 * l.length : Nat) : Int), r))
    (by
      intro ys hy
      refine ⟨ys, Ev.step (fun k => by rw [laws_markShiftS.l0]) ?_⟩
      simp only [if_neg (show ¬ (l.length : Int) < (ys.length : Int) by omega)]
      exact Ev.now _)
    (by
      intro i hi ih ys hy
      obtain ⟨r, e⟩ := ih ((ys.set i (⟨((1 + 2 * i : Nat) : Int), (rd_T88 ys (i : Int)).f1⟩ : S88)).set i (⟨(rd_T88 (ys.set i (⟨((1 + 2 * i : Nat) : Int), (rd_T88 ys (i : Int)).f1⟩ : S88)) (i : Int)).f0, ((1 + 2 * i + 1 : Nat) : Int)⟩ : S88)) (by simp [hy])
      refine ⟨r, Ev.step (fun k => by rw [laws_markShiftS.l0]) ?_⟩
      simp only [if_pos (show (i : Int) < (ys.length : Int) by omega), if_pos (show 0 ≤ (i : Int) by omega), Option.bind_some]
      rw [inc i (by omega), inc (1 + 2 * i) (by omega), inc (1 + 2 * i + 1) (by omega)]
      exact e)
  obtain ⟨r, e⟩ := key 0 (by omega) l rfl
  exact ⟨r, Ev.bind e (Ev.now _)⟩
theorem tk_get {l : List S88} : ∀ (d : Nat) (off : Int) (i : Nat), tk l d off i = true → ∀ j, i ≤ j → j < i + d → (-1000000000 ≤ (rd_T88 l (j : Int)).f0 ∧ (rd_T88 l (j : Int)).f0 ≤ 1000000000) ∧ (-2000 ≤ (rd_T88 l (j : Int)).f1 ∧ (rd_T88 l (j : Int)).f1 ≤ 2000) := by
  intro d
  induction d with
  | zero => intro off i h j h1 h2; omega
  | succ d ih =>
    intro off i h j h1 h2
    unfold tk at h
    simp only [Bool.and_eq_true, decide_eq_true_eq] at h
    obtain ⟨⟨⟨⟨a, _⟩, b⟩, _⟩, c⟩ := h
    by_cases e : j = i
    · subst e; exact ⟨a, b⟩
    · exact ih _ (i + 1) c j (by omega) (by omega)
theorem pack_l (f : Int) (l : List S88) (hl : l.length ≤ 300) (hg : ∀ j, j < l.length → (-1000000000 ≤ (rd_T88 l (j : Int)).f0 ∧ (rd_T88 l (j : Int)).f0 ≤ 1000000000) ∧ (-2000 ≤ (rd_T88 l (j : Int)).f1 ∧ (rd_T88 l (j : Int)).f1 ≤ 2000)) :
    ∀ (d i : Nat) (o : List Int) (last : Int), i + d = l.length → -1000000000 ≤ last → last ≤ 1000000000 → o.length ≤ 30000000000 + i * 30000000000 → ∃ r, Ev (fun k => spec_TablePack.l0 k o last (i : Int) f l) (r, true) ∧ Ev (fun k => impl_TablePack.l0 k o last l (l.length : Int) (i : Int)) (r, true) ∧ r.length ≤ 30000000000 + l.length * 30000000000 := by
  intro d
  induction d with
  | zero =>
    intro i o last h h1 h2 h3
    obtain rfl : i = l.length := by omega
    refine ⟨o, Ev.step (fun k => by rw [spec_TablePack.l0]) ?_, Ev.step (fun k => by rw [impl_TablePack.l0]) ?_, h3⟩
    · simp only [Int.lt_irrefl, if_false]; exact Ev.now _
    · simp only [Int.lt_irrefl, if_false]; exact Ev.now _
  | succ d ih =>
    intro i o last h h1 h2 h3
    obtain ⟨a, b⟩ := hg i (by omega)
    have hx : (rd_T88 l (i : Int)).f0 - last ≤ 10000000000 := by omega
    have hy : (rd_T88 l (i : Int)).f1 + 2000 ≤ 10000000000 := by omega
    have l1 := pn_len hx
    have l2 := pn_len hy
    obtain ⟨r, e1, e2, hr⟩ := ih (i + 1) (o ++ pn ((rd_T88 l (i : Int)).f0 - last) ++ pn ((rd_T88 l (i : Int)).f1 + 2000)) (rd_T88 l (i : Int)).f0 (by omega) a.1 a.2 (by rw [List.length_append, List.length_append]; omega)
    refine ⟨r, Ev.step (fun k => by rw [spec_TablePack.l0]) ?_, Ev.step (fun k => by rw [impl_TablePack.l0]) ?_, hr⟩
    · rw [w64 ((rd_T88 l (i : Int)).f0 - last) (by omega) (by omega), w64 ((rd_T88 l (i : Int)).f1 + 2000) (by omega) (by omega), inc i (by omega)]
      simp only [if_pos (show (i : Int) < (l.length : Int) by omega), if_pos (show 0 ≤ (i : Int) by omega)]
      refine Ev.bind (s_pn hx) ?_
      simp only [if_pos (show o.length + (pn ((rd_T88 l (i : Int)).f0 - last)).length < 140737488355328 by omega), Option.bind_some]
      refine Ev.bind (s_pn hy) ?_
      simp only [if_pos (show (o ++ pn ((rd_T88 l (i : Int)).f0 - last)).length + (pn ((rd_T88 l (i : Int)).f1 + 2000)).length < 140737488355328 by rw [List.length_append]; omega)]
      exact e1
    · rw [w64 ((rd_T88 l (i : Int)).f0 - last) (by omega) (by omega), w64 ((rd_T88 l (i : Int)).f1 + 2000) (by omega) (by omega), inc i (by omega)]
      simp only [if_pos (show (i : Int) < (l.length : Int) by omega), if_pos (show 0 ≤ (i : Int) by omega)]
      refine Ev.bind (i_put2 _ _ hx hy) ?_
      simp only [if_pos (show o.length + (pn ((rd_T88 l (i : Int)).f0 - last) ++ pn ((rd_T88 l (i : Int)).f1 + 2000)).length < 140737488355328 by rw [List.length_append]; omega)]
      rw [← List.append_assoc]
      exact e2
theorem pack_same (f : Int) (l : List S88) (hl : l.length ≤ 1048576) : ∃ r, Ev (fun k => impl_TablePack.f k f l) r ∧ Ev (fun k => spec_TablePack.f k f l) r ∧ r.1.length ≤ 10000000000000 := by
  unfold impl_TablePack.f spec_TablePack.f
  by_cases h : tOk f l = true
  · have h' := h
    unfold tOk at h'
    simp only [Bool.and_eq_true, decide_eq_true_eq] at h'
    obtain ⟨⟨h1, h2⟩, h3⟩ := h'
    have hg := tk_get l.length f 0 h3
    have hx : f + 2000 ≤ 10000000000 := by omega
    have hy : (l.length : Int) ≤ 10000000000 := by omega
    have l1 := pn_len hx
    have l2 := pn_len hy
    obtain ⟨r, e1, e2, hr⟩ := pack_l f l (by omega) (fun j hj => hg j (by omega) (by omega)) l.length 0 (pn (f + 2000) ++ pn (l.length : Int)) (-1000000000) (by omega) (by omega) (by omega) (by rw [List.length_append]; omega)
    refine ⟨(r, true), Ev.bind (i_TableOk f l hl) ?_, Ev.bind (s_TableOk f l hl) ?_, ?_⟩
    · rw [w64 (f + 2000) (by omega) (by omega)]
      simp only [if_pos h]
      exact Ev.bind (i_put2 _ _ hx hy) e2
    · rw [w64 (f + 2000) (by omega) (by omega)]
      simp only [if_pos h]
      refine Ev.bind (s_pn hx) (Ev.bind (s_pn hy) ?_)
      simp only [if_pos (show (pn (f + 2000)).length + (pn (l.length : Int)).length < 140737488355328 by omega)]
      exact e1
    · show r.length ≤ _
      have : l.length * 30000000000 ≤ 300 * 30000000000 := Nat.mul_le_mul_right _ (by omega)
      omega
  · refine ⟨([], false), Ev.bind (i_TableOk f l hl) ?_, Ev.bind (s_TableOk f l hl) ?_, by simp⟩
    · simp only [if_neg h]; exact Ev.now _
    · simp only [if_neg h]; exact Ev.now _
theorem FnExactTablePack : ∀ (a0_0 : Int) (l0_1 : (List S119)), (Lit.int .i64 a0_0).wf = true → (l0_1.length ≤ 9223372036854775807 ∧ ∀ x ∈ l0_1, ((Lit.int .i64 x.f0).wf = true ∧ (Lit.int .i64 x.f1).wf = true)) → ∃ k, laws_FnExactTablePack.f k a0_0 l0_1 = some true := by
  intro f l _ hg
  refine Ev.rounds ?_
  unfold laws_FnExactTablePack.f
  rw [sz_table f l hg.1]
  simp only [Option.bind_some]
  by_cases hl : (l.length : Int) ≤ 1048576
  · rw [if_pos hl]
    simp only [if_neg (show ¬ 1048576 - (l.length : Int) < 0 by omega)]
    have hm : (l.map cvS).length ≤ 1048576 := by rw [List.length_map]; omega
    obtain ⟨⟨r, ok⟩, ei, es, hr⟩ := pack_same f (l.map cvS) hm
    have hr : r.length ≤ 10000000000000 := hr
    obtain ⟨mk, em⟩ := mark_table f (l.map cvS) hm
    refine Ev.bind (to_table f l (by omega)) (Ev.bind es (Ev.bind (to_table f l (by omega)) (Ev.bind ei (Ev.bind (eq_bytes r hr) ?_))))
    simp only [if_true, bne_self_eq_false]
    refine Ev.step (fun k => by rw [laws_FnExactTablePack.j0]) ?_
    simp only [Bool.false_eq_true, if_false]
    refine Ev.bind (to_table f l (by omega)) (Ev.bind (eq_table f _ hm) ?_)
    simp only [if_true]
    refine Ev.bind em ?_
    simp only [if_neg (show ¬ ((1 + 2 * (l.map cvS).length : Nat) : Int) < 0 by omega)]
    refine Ev.bind (eq_bytes r hr) ?_
    simp only [if_true, bne_self_eq_false]
    refine Ev.step (fun k => by rw [laws_FnExactTablePack.j1]) ?_
    simp only [Bool.false_eq_true, if_false]
    refine Ev.bind (mark_bytes r hr) (Ev.bind (held_bytes r.length hr) ?_)
    simp only [if_neg (show ¬ ((1 + r.length : Nat) : Int) < 0 by omega), if_true]
    refine Ev.bind (to_table f l (by omega)) (Ev.bind ei (Ev.bind (eq_bytes r hr) ?_))
    simp only [if_true, bne_self_eq_false]
    refine Ev.step (fun k => by rw [laws_FnExactTablePack.j2]) ?_
    simp only [Bool.false_eq_true, if_false]
    refine Ev.bind (held_bytes r.length hr) ?_
    simp only [if_neg (show ¬ ((1 + r.length : Nat) : Int) < 0 by omega), if_true]
    exact Ev.now _
  · rw [if_neg hl]
    simp only [if_pos (show (-1 : Int) < 0 by omega)]
    exact Ev.now _

end Go.Proofs.Ytkjfcgnhpalhnaa.Pure
