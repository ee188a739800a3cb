/- The law FnExactRaftOk answers true for every argument. No condition. -/
import Derived.Test.YtahhigniaepgeaaQFnExactRaftOkx13
namespace Go.Proofs.Ytahhigniaepgeaa.Pure
open Go.RowKit Go.Proofs.Ytahhigniaepgeaa.QFnExactRaftOk Go.Proofs.YtahhigniaepgeaaW.PrintWords Go.Proofs.YtahhigniaepgeaaW.PrintLast
set_option linter.unusedVariables false
set_option linter.unusedSimpArgs false

theorem w64 (n : Int) (h0 : -9223372036854775808 ≤ n) (h1 : n ≤ 9223372036854775807) : wrap64 n = n := by unfold wrap64; omega
theorem tmn {a : Int} (b : Int) (h : 0 ≤ a) : Int.tmod a b = a % b := Int.tmod_eq_emod_of_nonneg h
theorem wfi {x : Int} (h : (Lit.int .i64 x).wf = true) : -9223372036854775808 ≤ x ∧ x ≤ 9223372036854775807 := by
  simp [Lit.wf, IntKind.min, IntKind.max, IntKind.signed, IntKind.bits] at h
  omega
theorem wf8 {x : Int} (h : (Lit.int .u8 x).wf = true) : 0 ≤ x ∧ x ≤ 255 := by
  simp [Lit.wf, IntKind.min, IntKind.max, IntKind.signed, IntKind.bits] at h
  omega
theorem evc {α : Type} {g : Nat → Option α} {r : α} (h : ∀ k, g k = some r) : Ev g r := ⟨0, fun k _ => h k⟩
theorem getD_mem {α : Type} (l : List α) (n : Nat) (z : α) (h : n < l.length) : l.getD n z ∈ l := by
  rw [List.getD_eq_getElem?_getD, List.getElem?_eq_getElem h]
  exact List.getElem_mem h
theorem ex_step {α : Type} {g f : Nat → Option α} (h : ∀ k, g (k + 1) = f k) (e : ∃ r, Ev f r) : ∃ r, Ev g r := by
  obtain ⟨r, e⟩ := e
  exact ⟨r, Ev.step h e⟩
theorem ex_bind {α β : Type} {g : Nat → Option α} {f : Nat → α → Option β} {a : α} (h : Ev g a) (e : ∃ r, Ev (fun n => f n a) r) : ∃ r, Ev (fun n => (g n).bind (f n)) r := by
  obtain ⟨r, e⟩ := e
  exact ⟨r, Ev.bind h e⟩

theorem up_ind (n : Nat) (P : Nat → Prop) (he : P n) (hs : ∀ i, i < n → P (i + 1) → P i) (i : Nat) (h : i ≤ n) : P i := by
  have key : ∀ (d i : Nat), i + d = n → P i := by
    intro d
    induction d with
    | zero => intro i h; obtain rfl : i = n := by omega
              exact he
    | succ d ih => intro i h; exact hs i (by omega) (ih (i + 1) (by omega))
  exact key (n - i) i (by omega)
theorem eq_fill {β : Type} (y : Nat → β) (n : Nat) (ys : List β) (hl : ys.length = n) (h : ∀ j, j < n → ys[j]? = some (y j)) : ys = (List.range n).map y := by
  apply List.ext_getElem?
  intro j
  by_cases hj : j < n
  · rw [h j hj]; simp [hj]
  · rw [List.getElem?_eq_none (by omega), List.getElem?_eq_none (by simp; omega)]
theorem map_rd {α β : Type} (l : List α) (z : α) (f : α → β) : (List.range l.length).map (fun i => f (l.getD i z)) = l.map f := by
  apply List.ext_getElem?
  intro j
  by_cases hj : j < l.length
  · simp [hj, List.getD]
  · rw [List.getElem?_eq_none (by simp; omega), List.getElem?_eq_none (by simp; omega)]
theorem set_fill {β : Type} (y : Nat → β) (i : Nat) (ys : List β) (h : ∀ j, j < i → ys[j]? = some (y j)) (hi : i < ys.length) : ∀ j, j < i + 1 → (ys.set i (y i))[j]? = some (y j) := by
  intro j hj
  by_cases e : j = i
  · subst e; rw [List.getElem?_set_self hi]
  · rw [List.getElem?_set_ne (by omega)]; exact h j (by omega)
theorem inc (i : Nat) (h : i < 1000000000000000) : wrap64 ((i : Int) + 1) = ((i + 1 : Nat) : Int) := by rw [w64 _ (by omega) (by omega)]; omega

theorem bal (s : ByteArray) : s.toList = s.data.toList := ByteArray.toList_eq s
theorem bal_nil (s : ByteArray) : s.toList = ([] : List UInt8) ↔ s.size = 0 := by
  rw [bal, ← data_length]
  exact List.length_eq_zero_iff.symm

theorem i_within (n a b : Int) : impl_within.f n a b = some (decide (a ≤ n ∧ n ≤ b)) := by
  unfold impl_within.f
  by_cases h : n ≥ a
  · rw [if_pos h]; simp [show a ≤ n from h]
  · rw [if_neg h]; simp [show ¬ a ≤ n from h]

theorem s_In (n a b : Int) : spec_l1In.f n a b = some (decide (a ≤ n ∧ n ≤ b)) := by
  unfold spec_l1In.f
  by_cases h : n ≥ a
  · rw [if_pos h]; simp [show a ≤ n from h]
  · rw [if_neg h]; simp [show ¬ a ≤ n from h]

theorem sz_cmd (k r n z : Int) (d : ByteArray) (a : Int) (hd : d.size ≤ 9223372036854775807) (h0 : 0 ≤ a) (h1 : a ≤ 1048576) : ∃ t, laws_szCmd.f k r n z d a = some t ∧ t ≤ a ∧ (t < 0 ∨ 0 ≤ t) := by
  unfold laws_szCmd.f
  rw [w64 (a - (d.size : Int)) (by omega) (by omega)]
  by_cases h : a - (d.size : Int) < 0
  · rw [if_pos h]; exact ⟨_, rfl, by omega, by omega⟩
  · rw [if_neg h]; exact ⟨_, rfl, by omega, by omega⟩
theorem sz_entries (l : List S70) (a : Int) (ha : 0 ≤ a) (ha2 : a ≤ 1048576) (hl : l.length ≤ 9223372036854775807) (hs : ∀ x ∈ l, x.f1.f4.size ≤ 9223372036854775807) : ∃ r, Ev (fun k => laws_szEntryS.f k l a) r ∧ (0 ≤ r → l.length ≤ 1048576) ∧ r ≤ a := by
  unfold laws_szEntryS.f
  rw [w64 (a - (l.length : Int)) (by omega) (by omega)]
  by_cases h : a - (l.length : Int) < 0
  · simp only [if_pos h]; exact ⟨_, Ev.now _, fun h => by omega, by omega⟩
  · simp only [if_neg h]
    have key := up_ind l.length (fun i => ∀ b : Int, 0 ≤ b → b ≤ a → ∃ r, Ev (fun k => laws_szEntryS.l0 k l b (i : Int)) r ∧ r ≤ a)
      (by
        intro b h1 h2
        refine ⟨b, Ev.step (fun k => by rw [laws_szEntryS.l0]) ?_, h2⟩
        simp only [Int.lt_irrefl, if_false]
        exact Ev.now _)
      (by
        intro i hi ih b h1 h2
        have hx : (rd_T70 l (i : Int)).f1.f4.size ≤ 9223372036854775807 := hs _ (getD_mem _ _ _ (by omega))
        obtain ⟨t, et, ht, hc⟩ := sz_cmd (rd_T70 l (i : Int)).f1.f0 (rd_T70 l (i : Int)).f1.f1 (rd_T70 l (i : Int)).f1.f2 (rd_T70 l (i : Int)).f1.f3 (rd_T70 l (i : Int)).f1.f4 b hx h1 (by omega)
        by_cases h3 : t < 0
        · refine ⟨-1, Ev.step (fun k => by rw [laws_szEntryS.l0]) ?_, by omega⟩
          unfold laws_szEntry.f
          rw [et]
          simp only [if_pos (show (i : Int) < (l.length : Int) by omega), if_pos (show 0 ≤ (i : Int) by omega), Option.bind_some, if_pos h3, if_pos (show (-1 : Int) < 0 by omega)]
          exact Ev.now _
        · obtain ⟨r, er, hr⟩ := ih t (by omega) (by omega)
          refine ⟨r, Ev.step (fun k => by rw [laws_szEntryS.l0]) ?_, hr⟩
          unfold laws_szEntry.f
          rw [et, inc i (by omega)]
          simp only [if_pos (show (i : Int) < (l.length : Int) by omega), if_pos (show 0 ≤ (i : Int) by omega), Option.bind_some, if_neg h3]
          exact er)
    obtain ⟨r, e, hr⟩ := key 0 (by omega) (a - (l.length : Int)) (by omega) (by omega)
    exact ⟨r, e, fun _ => by omega, hr⟩

def cvE (x : S70) : S64 := ⟨x.f0, ⟨x.f1.f0, x.f1.f1, x.f1.f2, x.f1.f3, x.f1.f4⟩⟩
theorem to_entries (l : List S70) (hl : l.length ≤ 1048576) : Ev (fun k => laws_toEntryS.f k l) (l.map cvE) := by
  unfold laws_toEntryS.f
  simp only [if_pos (show 0 ≤ (l.length : Int) by omega), if_pos (show ((l.length : Int) : Int).toNat ≤ 5026338869833 by omega)]
  have key := up_ind l.length (fun i => ∀ ys : List S64, ys.length = l.length → (∀ j, j < i → ys[j]? = some (cvE (l.getD j z70))) → Ev (fun k => laws_toEntryS.l0 k l ys (i : Int)) (l.map cvE))
    (by
      intro ys hy h
      refine Ev.step (fun k => by rw [laws_toEntryS.l0]) ?_
      simp only [Int.lt_irrefl, if_false]
      rw [eq_fill (fun j => cvE (l.getD j z70)) l.length ys hy h, map_rd]
      exact Ev.now _)
    (by
      intro i hi ih ys hy h
      refine Ev.step (fun k => by rw [laws_toEntryS.l0]) ?_
      unfold laws_toEntry.f laws_toCmd.f
      simp only [Option.bind_some, if_pos (show (i : Int) < (l.length : Int) by omega), if_pos (show 0 ≤ (i : Int) by omega), if_pos (show (i : Int) < (ys.length : Int) by omega)]
      rw [inc i (by omega)]
      exact ih _ (by rw [List.length_set]; exact hy) (set_fill (fun j => cvE (l.getD j z70)) i ys h (by omega)))
  exact key 0 (by omega) (List.replicate ((l.length : Int) : Int).toNat z64) (by simp) (fun j hj => by omega)

theorem eq_cmd (k r n z : Int) (d : ByteArray) : laws_eqCmd.f k r n z d k r n z d = some true := by
  unfold laws_eqCmd.f; simp
theorem eq_entries (l : List S64) (hl : l.length ≤ 1048576) : Ev (fun k => laws_eqEntryS.f k l l) true := by
  unfold laws_eqEntryS.f
  simp only [if_true]
  have key := up_ind l.length (fun i => Ev (fun k => laws_eqEntryS.l0 k l l (i : Int)) true)
    (by
      refine Ev.step (fun k => by rw [laws_eqEntryS.l0]) ?_
      simp only [Int.lt_irrefl, if_false]
      exact Ev.now _)
    (by
      intro i hi ih
      refine Ev.step (fun k => by rw [laws_eqEntryS.l0]) ?_
      unfold laws_eqEntry.f
      simp only [eq_cmd, if_pos (show (i : Int) < (l.length : Int) by omega), if_pos (show 0 ≤ (i : Int) by omega), if_true, Option.bind_some]
      rw [inc i (by omega)]
      exact ih)
  exact key 0 (by omega)

/-- What CmdOk tells. -/
def cOk (q r n z : Int) (d : ByteArray) : Bool := decide ((q = 1 ∧ r = 0 ∧ n = 0 ∧ z = 0 ∧ d.toList = []) ∨ ((1 ≤ r ∧ r ≤ 1000) ∧ ((q = 2 ∧ (0 ≤ z ∧ z ≤ 1000) ∧ (d.size : Int) = 32 ∧ n = 0) ∨ (q = 3 ∧ (0 ≤ n ∧ n ≤ 4) ∧ z = 0 ∧ d.toList = []) ∨ ((q = 4 ∨ q = 5) ∧ n = 0 ∧ z = 0 ∧ d.toList = []))))
theorem ev_eq {g : Nat → Option Bool} {a b : Bool} (h : Ev g a) (e : a = b) : Ev g b := e ▸ h
theorem nil_list : (⟨#[]⟩ : ByteArray).toList = [] := (bal_nil _).2 rfl
theorem s_CmdOk (q r n z : Int) (d : ByteArray) : Ev (fun k => spec_CmdOk.f k q r n z d) (cOk q r n z d) := by
  unfold spec_CmdOk.f
  rw [s_In, s_In]
  simp only [Option.bind_some]
  by_cases h1 : q = 1
  · subst h1
    simp only [if_true]
    refine ev_eq (Ev.now _) ?_
    unfold cOk
    rw [Bool.eq_iff_iff]
    simp
  · simp only [if_neg h1]
    have j : ∀ b : Bool, b = true → Ev (fun k => spec_CmdOk.j0 k b q r n z d q 0 0 0 (⟨#[]⟩ : ByteArray)) false := by
      intro b hb
      refine Ev.step (fun k => by rw [spec_CmdOk.j0]) ?_
      simp only [hb, if_true]
      exact Ev.now _
    by_cases h2 : 2 ≤ q ∧ q ≤ 5
    · simp only [decide_eq_true h2, if_true]
      by_cases h3 : 1 ≤ r ∧ r ≤ 1000
      · simp only [decide_eq_true h3, Bool.not_true]
        refine Ev.step (fun k => by rw [spec_CmdOk.j0]) ?_
        simp only [Bool.false_eq_true, if_false, s_In, Option.bind_some, nil_list]
        by_cases q2 : q = 2
        · subst q2
          simp only [if_true]
          by_cases hz : 0 ≤ z ∧ z ≤ 1000
          · simp only [decide_eq_true hz, if_true]
            by_cases hd : (d.size : Int) = 32
            · simp only [if_pos hd]
              refine ev_eq (Ev.now _) ?_
              unfold cOk
              rw [Bool.eq_iff_iff]
              simp [h3, hz, hd]
            · simp only [if_neg hd]
              refine ev_eq (Ev.now _) ?_
              unfold cOk
              simp [hd]
          · simp only [decide_eq_false hz, Bool.false_eq_true, if_false]
            refine ev_eq (Ev.now _) ?_
            unfold cOk
            simp [hz]
        · simp only [if_neg q2]
          by_cases q3 : q = 3
          · subst q3
            simp only [if_true]
            by_cases hn : 0 ≤ n ∧ n ≤ 4
            · simp only [decide_eq_true hn, if_true]
              refine ev_eq (Ev.now _) ?_
              unfold cOk
              rw [Bool.eq_iff_iff]
              simp [h3, hn]
            · simp only [decide_eq_false hn, Bool.false_eq_true, if_false]
              refine ev_eq (Ev.now _) ?_
              unfold cOk
              simp [hn]
          · simp only [if_neg q3]
            refine ev_eq (Ev.now _) ?_
            have h4 : q = 4 ∨ q = 5 := by omega
            unfold cOk
            rw [Bool.eq_iff_iff]
            simp [h1, q2, q3, h3, h4]
      · simp only [decide_eq_false h3, Bool.not_false]
        refine ev_eq (j true rfl) ?_
        unfold cOk
        simp [h1, h3]
    · simp only [decide_eq_false h2, Bool.false_eq_true, if_false]
      refine ev_eq (j true rfl) ?_
      have a2 : ¬ q = 2 := by omega
      have a3 : ¬ q = 3 := by omega
      have a4 : ¬ q = 4 := by omega
      have a5 : ¬ q = 5 := by omega
      unfold cOk
      simp [h1, a2, a3, a4, a5]
theorem i_CmdOk (q r n z : Int) (d : ByteArray) : impl_CmdOk.f q r n z d = some (cOk q r n z d) := by
  unfold impl_CmdOk.f impl_isRelease.f impl_isSize.f impl_isNode.f
  simp only [i_within, Option.bind_some]
  unfold cOk
  by_cases h1 : q = 1
  · subst h1
    by_cases hr : r = 0 <;> simp [hr]
    rw [Bool.eq_iff_iff]
    simp
  · simp only [if_neg h1]
    by_cases h3 : 1 ≤ r ∧ r ≤ 1000
    · simp only [decide_eq_true h3, if_true]
      by_cases q2 : q = 2
      · subst q2
        by_cases hz : 0 ≤ z ∧ z ≤ 1000
        · by_cases hd : (d.size : Int) = 32
          · simp [h3, hz, hd]
            rw [Bool.eq_iff_iff]
            simp
          · simp [hz, hd]
        · simp [hz]
      · by_cases q3 : q = 3
        · subst q3
          by_cases hn : 0 ≤ n ∧ n ≤ 4
          · simp [h3, hn]
            rw [Bool.eq_iff_iff]
            simp
          · simp [hn]
        · by_cases q4 : q = 4
          · subst q4
            simp [h3]
            rw [Bool.eq_iff_iff]
            simp
          · by_cases q5 : q = 5
            · subst q5
              simp [h3]
              rw [Bool.eq_iff_iff]
              simp
            · simp [h1, q2, q3, q4, q5]
    · simp only [decide_eq_false h3, Bool.false_eq_true, if_false]
      simp [h1, h3]

/-- What each entry must be, from i on. -/
def hk (T : Int) (l : List S64) : Nat → Nat → Bool
  | 0, _ => true
  | d + 1, i =>
    cOk (rd_T64 l (i : Int)).f1.f0 (rd_T64 l (i : Int)).f1.f1 (rd_T64 l (i : Int)).f1.f2 (rd_T64 l (i : Int)).f1.f3 (rd_T64 l (i : Int)).f1.f4 &&
    (decide (1 ≤ (rd_T64 l (i : Int)).f0 ∧ (rd_T64 l (i : Int)).f0 ≤ T) && ((decide (i = 0) || decide ((rd_T64 l ((i : Int) - 1)).f0 ≤ (rd_T64 l (i : Int)).f0)) && hk T l d (i + 1)))
def hOk (T V : Int) (l : List S64) : Bool := decide (0 ≤ T ∧ T ≤ 1000000000) && (decide (0 ≤ V ∧ V ≤ 5) && (decide ((l.length : Int) ≤ 80) && hk T l l.length 0))
theorem s_Entry (t q r n z : Int) (d : ByteArray) : Ev (fun k => spec_l6Entry.f k t q r n z d) (decide (1 ≤ t ∧ t ≤ 1000000000) && cOk q r n z d) := by
  unfold spec_l6Entry.f
  rw [s_In]
  simp only [Option.bind_some]
  by_cases h : 1 ≤ t ∧ t ≤ 1000000000
  · simp only [decide_eq_true h, if_true, Bool.true_and]
    exact Ev.bind (s_CmdOk q r n z d) (Ev.now _)
  · simp only [decide_eq_false h, Bool.false_eq_true, if_false, Bool.false_and]
    exact Ev.now _
theorem s_hk (T V : Int) (l : List S64) (hT : T ≤ 1000000000) (hl : l.length ≤ 1048576) : ∀ (d i : Nat), i + d = l.length → Ev (fun k => spec_HardOk.l0 k (i : Int) T V l) (hk T l d i) := by
  intro d
  induction d with
  | zero =>
    intro i h
    refine Ev.step (fun k => by rw [spec_HardOk.l0]) ?_
    simp only [if_neg (show ¬ (i : Int) < (l.length : Int) by omega)]
    exact Ev.now _
  | succ d ih =>
    intro i h
    refine Ev.step (fun k => by rw [spec_HardOk.l0]) ?_
    simp only [if_pos (show (i : Int) < (l.length : Int) by omega), if_pos (show 0 ≤ (i : Int) by omega)]
    refine Ev.bind (s_Entry _ _ _ _ _ _) ?_
    unfold hk
    generalize cOk (rd_T64 l (i : Int)).f1.f0 (rd_T64 l (i : Int)).f1.f1 (rd_T64 l (i : Int)).f1.f2 (rd_T64 l (i : Int)).f1.f3 (rd_T64 l (i : Int)).f1.f4 = c
    cases c
    · simp only [Bool.and_false, Bool.false_and, Bool.false_eq_true, if_false]
      exact Ev.now _
    · simp only [Bool.and_true, Bool.true_and]
      by_cases h1 : 1 ≤ (rd_T64 l (i : Int)).f0 ∧ (rd_T64 l (i : Int)).f0 ≤ T
      · simp only [decide_eq_true h1, decide_eq_true (show 1 ≤ (rd_T64 l (i : Int)).f0 ∧ (rd_T64 l (i : Int)).f0 ≤ 1000000000 by omega), if_true, if_neg (show ¬ (rd_T64 l (i : Int)).f0 > T by omega), Bool.true_and]
        by_cases h0 : i = 0
        · subst h0
          simp only [if_neg (show ¬ ((0 : Nat) : Int) > 0 by omega), decide_true, Bool.true_or, Bool.true_and]
          rw [inc 0 (by omega)]
          exact ih 1 (by omega)
        · rw [w64 ((i : Int) - 1) (by omega) (by omega), inc i (by omega)]
          simp only [if_pos (show (i : Int) > 0 by omega), if_pos (show 0 ≤ (i : Int) - 1 by omega), if_pos (show (i : Int) - 1 < (l.length : Int) by omega), decide_eq_false h0, Bool.false_or]
          by_cases h2 : (rd_T64 l ((i : Int) - 1)).f0 ≤ (rd_T64 l (i : Int)).f0
          · simp only [if_neg (show ¬ (rd_T64 l (i : Int)).f0 < (rd_T64 l ((i : Int) - 1)).f0 by omega), decide_eq_true h2, Bool.true_and]
            exact ih (i + 1) (by omega)
          · simp only [if_pos (show (rd_T64 l (i : Int)).f0 < (rd_T64 l ((i : Int) - 1)).f0 by omega), decide_eq_false h2, Bool.false_and]
            exact Ev.now _
      · simp only [decide_eq_false h1, Bool.false_and]
        by_cases h2 : 1 ≤ (rd_T64 l (i : Int)).f0 ∧ (rd_T64 l (i : Int)).f0 ≤ 1000000000
        · simp only [decide_eq_true h2, if_true, if_pos (show (rd_T64 l (i : Int)).f0 > T by omega)]
          exact Ev.now _
        · simp only [decide_eq_false h2, Bool.false_eq_true, if_false]
          exact Ev.now _
theorem s_HardOk (T V : Int) (l : List S64) (hl : l.length ≤ 1048576) : Ev (fun k => spec_HardOk.f k T V l) (hOk T V l) := by
  unfold spec_HardOk.f spec_l1Whole.f
  rw [s_In, s_In]
  simp only [Option.bind_some]
  have j : Ev (fun k => spec_HardOk.j0 k true T V l) false := by
    refine Ev.step (fun k => by rw [spec_HardOk.j0]) ?_
    simp only [if_true]
    exact Ev.now _
  unfold hOk
  by_cases h1 : 0 ≤ T ∧ T ≤ 1000000000
  · simp only [decide_eq_true h1, if_true, Bool.true_and]
    by_cases h2 : 0 ≤ V ∧ V ≤ 5
    · simp only [decide_eq_true h2, if_true, Bool.true_and]
      by_cases h3 : (l.length : Int) ≤ 80
      · simp only [decide_eq_true h3, decide_eq_false (show ¬ (l.length : Int) > 80 by omega), Bool.true_and]
        refine Ev.step (fun k => by rw [spec_HardOk.j0]) ?_
        simp only [Bool.false_eq_true, if_false]
        exact s_hk T V l h1.2 hl l.length 0 (by omega)
      · simp only [decide_eq_false h3, decide_eq_true (show (l.length : Int) > 80 by omega), Bool.false_and]
        exact j
    · simp only [decide_eq_false h2, Bool.false_eq_true, if_false, Bool.false_and]
      exact j
  · simp only [decide_eq_false h1, Bool.false_eq_true, if_false, Bool.false_and]
    exact j
theorem i_lastTerm (l : List S64) (i : Nat) (hi : i < l.length) (hl : l.length ≤ 1048576) : impl_lastTerm.f (l.take i) = some (if i = 0 then 0 else (rd_T64 l ((i : Int) - 1)).f0) := by
  unfold impl_lastTerm.f
  have hlen : (l.take i).length = i := by rw [List.length_take]; omega
  rw [hlen]
  by_cases h : i = 0
  · subst h
    simp
  · rw [if_neg (show ¬ (i : Int) = 0 by omega), w64 ((i : Int) - 1) (by omega) (by omega), if_pos (show 0 ≤ (i : Int) - 1 by omega), if_pos (show (i : Int) - 1 < (i : Int) by omega), if_neg h]
    have e : rd_T64 (l.take i) ((i : Int) - 1) = rd_T64 l ((i : Int) - 1) := by
      unfold rd_T64
      rw [List.getD_eq_getElem?_getD, List.getD_eq_getElem?_getD, List.getElem?_take_of_lt (by omega)]
    rw [e]
theorem i_hk (T V : Int) (l : List S64) (hl : l.length ≤ 1048576) : ∀ (d i : Nat), i + d = l.length → Ev (fun k => impl_HardOk.l0 k l (l.length : Int) (i : Int) T V l) (hk T l d i && (decide (0 ≤ T ∧ T ≤ 1000000000) && (decide (0 ≤ V ∧ V ≤ 5) && decide ((l.length : Int) ≤ 80)))) := by
  intro d
  induction d with
  | zero =>
    intro i h
    refine Ev.step (fun k => by rw [impl_HardOk.l0]) ?_
    unfold impl_isWhole.f
    simp only [if_neg (show ¬ (i : Int) < (l.length : Int) by omega), i_within, Option.bind_some, hk, Bool.true_and]
    by_cases h1 : 0 ≤ T ∧ T ≤ 1000000000
    · simp only [decide_eq_true h1, if_true, Bool.true_and]
      by_cases h2 : 0 ≤ V ∧ V ≤ 5
      · simp only [decide_eq_true h2, if_true, Bool.true_and]
        exact Ev.now _
      · simp only [decide_eq_false h2, Bool.false_eq_true, if_false, Bool.false_and]
        exact Ev.now _
    · simp only [decide_eq_false h1, Bool.false_eq_true, if_false, Bool.false_and]
      exact Ev.now _
  | succ d ih =>
    intro i h
    refine Ev.step (fun k => by rw [impl_HardOk.l0]) ?_
    simp only [if_pos (show (i : Int) < (l.length : Int) by omega), if_pos (show 0 ≤ (i : Int) by omega), i_CmdOk, Option.bind_some]
    unfold hk
    generalize cOk (rd_T64 l (i : Int)).f1.f0 (rd_T64 l (i : Int)).f1.f1 (rd_T64 l (i : Int)).f1.f2 (rd_T64 l (i : Int)).f1.f3 (rd_T64 l (i : Int)).f1.f4 = c
    cases c
    · simp only [Bool.false_and, Bool.false_eq_true, if_false]
      exact Ev.now _
    · have ht : (i : Int).toNat = i := by omega
      simp only [if_true, Bool.true_and, if_pos (show (i : Int) ≤ (l.length : Int) by omega), ht, i_lastTerm l i (by omega) hl, Option.bind_some, i_within]
      rw [inc i (by omega)]
      by_cases h1 : (1 ≤ (rd_T64 l (i : Int)).f0 ∧ (rd_T64 l (i : Int)).f0 ≤ T) ∧ (i = 0 ∨ (rd_T64 l ((i : Int) - 1)).f0 ≤ (rd_T64 l (i : Int)).f0)
      · have hm : mx 1 (if i = 0 then 0 else (rd_T64 l ((i : Int) - 1)).f0) ≤ (rd_T64 l (i : Int)).f0 ∧ (rd_T64 l (i : Int)).f0 ≤ T := by
          unfold mx
          by_cases h0 : i = 0
          · rw [if_pos h0]; split <;> omega
          · rw [if_neg h0]; split <;> omega
        have ho : (decide (i = 0) || decide ((rd_T64 l ((i : Int) - 1)).f0 ≤ (rd_T64 l (i : Int)).f0)) = true := by simpa using h1.2
        simp only [decide_eq_true hm, if_true, decide_eq_true h1.1, ho, Bool.true_and]
        exact ih (i + 1) (by omega)
      · have hm : ¬ (mx 1 (if i = 0 then 0 else (rd_T64 l ((i : Int) - 1)).f0) ≤ (rd_T64 l (i : Int)).f0 ∧ (rd_T64 l (i : Int)).f0 ≤ T) := by
          unfold mx
          by_cases h0 : i = 0
          · rw [if_pos h0]; split <;> omega
          · rw [if_neg h0]; split <;> omega
        simp only [decide_eq_false hm, Bool.false_eq_true, if_false]
        refine ev_eq (Ev.now _) ?_
        by_cases h2 : 1 ≤ (rd_T64 l (i : Int)).f0 ∧ (rd_T64 l (i : Int)).f0 ≤ T
        · have ho : (decide (i = 0) || decide ((rd_T64 l ((i : Int) - 1)).f0 ≤ (rd_T64 l (i : Int)).f0)) = false := by
            rw [← Bool.not_eq_true]
            intro x
            exact h1 ⟨h2, by simpa using x⟩
          simp only [ho, Bool.false_and, Bool.and_false]
        · simp only [decide_eq_false h2, Bool.false_and]
theorem i_HardOk (T V : Int) (l : List S64) (hl : l.length ≤ 1048576) : Ev (fun k => impl_HardOk.f k T V l) (hOk T V l) := by
  unfold impl_HardOk.f hOk
  refine ev_eq (i_hk T V l hl l.length 0 (by omega)) ?_
  rw [Bool.and_comm, Bool.and_assoc, Bool.and_assoc]

def na (o : Int) (l : List Int) : Nat → Nat → Bool
  | 0, _ => true
  | d + 1, i => decide (0 ≤ rd l (i : Int) ∧ rd l (i : Int) ≤ o - 1) && ((decide (i = 0) || decide (rd l ((i : Int) - 1) < rd l (i : Int))) && na o l d (i + 1))
theorem na_le (o : Int) (l : List Int) : ∀ (d i : Nat), na o l (d + 1) i = true → (i = 0 ∨ (i : Int) - 1 ≤ rd l ((i : Int) - 1)) → ((i + d : Nat) : Int) ≤ o - 1 := by
  intro d
  induction d with
  | zero =>
    intro i h hi
    simp only [na, Bool.and_true, Bool.and_eq_true, Bool.or_eq_true, decide_eq_true_eq] at h
    omega
  | succ d ih =>
    intro i h hi
    rw [na] at h
    simp only [Bool.and_eq_true, Bool.or_eq_true, decide_eq_true_eq] at h
    obtain ⟨h1, h2, h3⟩ := h
    have := ih (i + 1) h3 (.inr (by
      have e : ((i + 1 : Nat) : Int) - 1 = (i : Int) := by omega
      rw [e]
      omega))
    omega
theorem na_len {o : Int} {l : List Int} (h : na o l l.length 0 = true) (ho : 1 ≤ o) : (l.length : Int) ≤ o := by
  cases hl : l.length with
  | zero => omega
  | succ d =>
    rw [hl] at h
    have := na_le o l d 0 h (.inl rfl)
    omega
theorem s_na (o : Int) (ho : 1 ≤ o ∧ o ≤ 5) (l : List Int) (hl : l.length ≤ 1048576) : ∀ (d i : Nat), i + d = l.length → Ev (fun k => spec_l7Nodes.l0 k l o (i : Int)) (na o l d i) := by
  intro d
  induction d with
  | zero =>
    intro i h
    refine Ev.step (fun k => by rw [spec_l7Nodes.l0]) ?_
    simp only [if_neg (show ¬ (i : Int) < (l.length : Int) by omega)]
    exact Ev.now _
  | succ d ih =>
    intro i h
    refine Ev.step (fun k => by rw [spec_l7Nodes.l0]) ?_
    rw [w64 (o - 1) (by omega) (by omega), s_In]
    simp only [if_pos (show (i : Int) < (l.length : Int) by omega), if_pos (show 0 ≤ (i : Int) by omega), Option.bind_some]
    rw [na]
    by_cases h1 : 0 ≤ rd l (i : Int) ∧ rd l (i : Int) ≤ o - 1
    · simp only [decide_eq_true h1, if_true, Bool.true_and]
      rw [inc i (by omega)]
      by_cases h0 : i = 0
      · subst h0
        simp only [if_neg (show ¬ ((0 : Nat) : Int) > 0 by omega), decide_true, Bool.true_or, Bool.true_and]
        exact ih 1 (by omega)
      · rw [w64 ((i : Int) - 1) (by omega) (by omega)]
        simp only [if_pos (show (i : Int) > 0 by omega), if_pos (show 0 ≤ (i : Int) - 1 by omega), if_pos (show (i : Int) - 1 < (l.length : Int) by omega), decide_eq_false h0, Bool.false_or]
        by_cases h2 : rd l ((i : Int) - 1) < rd l (i : Int)
        · simp only [if_neg (show ¬ rd l ((i : Int) - 1) ≥ rd l (i : Int) by omega), decide_eq_true h2, Bool.true_and]
          exact ih (i + 1) (by omega)
        · simp only [if_pos (show rd l ((i : Int) - 1) ≥ rd l (i : Int) by omega), decide_eq_false h2, Bool.false_and]
          exact Ev.now _
    · simp only [decide_eq_false h1, Bool.false_eq_true, if_false, Bool.false_and]
      exact Ev.now _
theorem i_na (o : Int) (ho : 1 ≤ o ∧ o ≤ 5) (l : List Int) (hl : l.length ≤ 1048576) : ∀ (d i : Nat), i + d = l.length → Ev (fun k => impl_nodesAscend.l0 k l o l (l.length : Int) (i : Int)) (na o l d i) := by
  intro d
  induction d with
  | zero =>
    intro i h
    refine Ev.step (fun k => by rw [impl_nodesAscend.l0]) ?_
    simp only [if_neg (show ¬ (i : Int) < (l.length : Int) by omega)]
    exact Ev.now _
  | succ d ih =>
    intro i h
    refine Ev.step (fun k => by rw [impl_nodesAscend.l0]) ?_
    rw [w64 (o - 1) (by omega) (by omega), i_within]
    simp only [if_pos (show (i : Int) < (l.length : Int) by omega), if_pos (show 0 ≤ (i : Int) by omega), Option.bind_some]
    rw [na]
    by_cases h1 : 0 ≤ rd l (i : Int) ∧ rd l (i : Int) ≤ o - 1
    · simp only [decide_eq_true h1, if_true, Bool.true_and]
      rw [inc i (by omega)]
      by_cases h0 : i = 0
      · subst h0
        simp only [if_neg (show ¬ ((0 : Nat) : Int) > 0 by omega), decide_true, Bool.true_or, Bool.true_and]
        exact ih 1 (by omega)
      · rw [w64 ((i : Int) - 1) (by omega) (by omega)]
        simp only [if_pos (show (i : Int) > 0 by omega), if_pos (show 0 ≤ (i : Int) - 1 by omega), if_pos (show (i : Int) - 1 < (l.length : Int) by omega), decide_eq_false h0, Bool.false_or]
        by_cases h2 : rd l ((i : Int) - 1) < rd l (i : Int)
        · simp only [if_neg (show ¬ rd l ((i : Int) - 1) ≥ rd l (i : Int) by omega), decide_eq_true h2, Bool.true_and]
          exact ih (i + 1) (by omega)
        · simp only [if_pos (show rd l ((i : Int) - 1) ≥ rd l (i : Int) by omega), decide_eq_false h2, Bool.false_and]
          exact Ev.now _
    · simp only [decide_eq_false h1, Bool.false_eq_true, if_false, Bool.false_and]
      exact Ev.now _
def hs (x : Int) (l : List Int) : Nat → Nat → Bool
  | 0, _ => false
  | d + 1, i => decide (rd l (i : Int) = x) || hs x l d (i + 1)
theorem s_has (x : Int) (l : List Int) (hl : l.length ≤ 1048576) : ∀ (d i : Nat), i + d = l.length → Ev (fun k => spec_l7Has.l0 k l x (i : Int)) (hs x l d i) := by
  intro d
  induction d with
  | zero =>
    intro i h
    refine Ev.step (fun k => by rw [spec_l7Has.l0]) ?_
    simp only [if_neg (show ¬ (i : Int) < (l.length : Int) by omega)]
    exact Ev.now _
  | succ d ih =>
    intro i h
    refine Ev.step (fun k => by rw [spec_l7Has.l0]) ?_
    simp only [if_pos (show (i : Int) < (l.length : Int) by omega), if_pos (show 0 ≤ (i : Int) by omega)]
    rw [hs, inc i (by omega)]
    by_cases h1 : rd l (i : Int) = x
    · simp only [if_pos h1, decide_eq_true h1, Bool.true_or]
      exact Ev.now _
    · simp only [if_neg h1, decide_eq_false h1, Bool.false_or]
      exact ih (i + 1) (by omega)
theorem i_index (x : Int) (l : List Int) (hl : l.length ≤ 1048576) : ∀ (d i : Nat), i + d = l.length → ∃ r, Ev (fun k => slices_Index_int_int.l0 k l x (l.length : Int) (i : Int)) r ∧ decide (r ≥ 0) = hs x l d i := by
  intro d
  induction d with
  | zero =>
    intro i h
    refine ⟨-1, Ev.step (fun k => by rw [slices_Index_int_int.l0]) ?_, rfl⟩
    simp only [if_neg (show ¬ (i : Int) < (l.length : Int) by omega)]
    exact Ev.now _
  | succ d ih =>
    intro i h
    by_cases h1 : x = rd l (i : Int)
    · refine ⟨(i : Int), Ev.step (fun k => by rw [slices_Index_int_int.l0]) ?_, ?_⟩
      · simp only [if_pos (show (i : Int) < (l.length : Int) by omega), if_pos (show 0 ≤ (i : Int) by omega), if_pos h1]
        exact Ev.now _
      · rw [hs, decide_eq_true h1.symm, decide_eq_true (show (i : Int) ≥ 0 by omega)]
        rfl
    · obtain ⟨r, e, hr⟩ := ih (i + 1) (by omega)
      refine ⟨r, Ev.step (fun k => by rw [slices_Index_int_int.l0]) ?_, ?_⟩
      · simp only [if_pos (show (i : Int) < (l.length : Int) by omega), if_pos (show 0 ≤ (i : Int) by omega), if_neg h1]
        rw [inc i (by omega)]
        exact e
      · rw [hr]
        show _ = (decide (rd l (i : Int) = x) || hs x l d (i + 1))
        rw [decide_eq_false (show ¬ rd l (i : Int) = x from fun e => h1 e.symm)]
        rfl
theorem i_has (x : Int) (l : List Int) (hl : l.length ≤ 1048576) : Ev (fun k => slices_Contains_int_int.f k l x) (hs x l l.length 0) := by
  obtain ⟨r, e, hr⟩ := i_index x l hl l.length 0 (by omega)
  unfold slices_Contains_int_int.f slices_Index_int_int.f
  rw [← hr]
  exact Ev.bind e (Ev.now _)
def ni (lo hi : Int) (l : List Int) : Nat → Nat → Bool
  | 0, _ => true
  | d + 1, i => decide (lo ≤ rd l (i : Int) ∧ rd l (i : Int) ≤ hi) && ni lo hi l d (i + 1)
theorem i_ni (c lo hi : Int) (l : List Int) (hl : l.length ≤ 1048576) : Ev (fun k => impl_numbersIn.f k l c lo hi) (ni lo hi l l.length 0 && ((l.length : Int) == c)) := by
  have key : ∀ (d i : Nat), i + d = l.length → Ev (fun k => impl_numbersIn.l0 k l c lo hi l (l.length : Int) (i : Int)) (ni lo hi l d i && ((l.length : Int) == c)) := by
    intro d
    induction d with
    | zero =>
      intro i h
      refine Ev.step (fun k => by rw [impl_numbersIn.l0]) ?_
      simp only [if_neg (show ¬ (i : Int) < (l.length : Int) by omega), ni, Bool.true_and]
      exact Ev.now _
    | succ d ih =>
      intro i h
      refine Ev.step (fun k => by rw [impl_numbersIn.l0]) ?_
      simp only [if_pos (show (i : Int) < (l.length : Int) by omega), if_pos (show 0 ≤ (i : Int) by omega), i_within, Option.bind_some]
      rw [ni, inc i (by omega)]
      by_cases h1 : lo ≤ rd l (i : Int) ∧ rd l (i : Int) ≤ hi
      · simp only [decide_eq_true h1, if_true, Bool.true_and]
        exact ih (i + 1) (by omega)
      · simp only [decide_eq_false h1, Bool.false_eq_true, if_false, Bool.false_and]
        exact Ev.now _
  unfold impl_numbersIn.f
  exact key l.length 0 (by omega)
theorem s_both (id o role cm T V : Int) (log : List S64) (yes nx mt : List Int) (hlog : log.length ≤ 1048576) (n : Nat) (hn : (n : Int) = o) (hx : nx.length = n) (hm : mt.length = n) (hn2 : n ≤ 5) :
    ∀ (d i : Nat), i + d = n → Ev (fun k => spec_RaftOk.l0 k (i : Int) id o role cm T V log yes nx mt) (ni 1 ((log.length : Int) + 1) nx d i && ni 0 (log.length : Int) mt d i) := by
  intro d
  induction d with
  | zero =>
    intro i h
    refine Ev.step (fun k => by rw [spec_RaftOk.l0]) ?_
    simp only [if_neg (show ¬ (i : Int) < o by omega)]
    exact Ev.now _
  | succ d ih =>
    intro i h
    refine Ev.step (fun k => by rw [spec_RaftOk.l0]) ?_
    unfold spec_l10End.f
    simp only [if_pos (show (i : Int) < o by omega), if_pos (show 0 ≤ (i : Int) by omega), if_pos (show (i : Int) < (nx.length : Int) by omega), if_pos (show (i : Int) < (mt.length : Int) by omega), s_In, Option.bind_some]
    rw [ni, ni, inc i (by omega), w64 ((log.length : Int) + 1) (by omega) (by omega)]
    by_cases h1 : 1 ≤ rd nx (i : Int) ∧ rd nx (i : Int) ≤ (log.length : Int) + 1
    · simp only [decide_eq_true h1, if_true, Bool.true_and]
      by_cases h2 : 0 ≤ rd mt (i : Int) ∧ rd mt (i : Int) ≤ (log.length : Int)
      · simp only [decide_eq_true h2, if_true, Bool.true_and]
        exact ih (i + 1) (by omega)
      · simp only [decide_eq_false h2, Bool.false_eq_true, if_false, Bool.false_and, Bool.and_false]
        exact Ev.now _
    · simp only [decide_eq_false h1, Bool.false_eq_true, if_false, Bool.false_and]
      exact Ev.now _

def cn (o role : Int) : Int := if role = 3 then o else 0
def own (id role T V : Int) : Bool := decide (role = 1 ∨ (1 ≤ T ∧ V = id + 1))
def fin (o role : Int) (log : List S64) (nx mt : List Int) : Bool := (ni 1 ((log.length : Int) + 1) nx nx.length 0 && ((nx.length : Int) == cn o role)) && (ni 0 (log.length : Int) mt mt.length 0 && ((mt.length : Int) == cn o role))
/-- What RaftOk tells. -/
def rOk (id o role cm T V : Int) (log : List S64) (yes nx mt : List Int) : Bool :=
  decide (o = 1 ∨ o = 3 ∨ o = 5) && (decide (0 ≤ id ∧ id ≤ o - 1) && (decide (1 ≤ role ∧ role ≤ 3) && (hOk T V log && (decide (0 ≤ cm ∧ cm ≤ (log.length : Int)) &&
  (na o yes yes.length 0 && (!hs id yes yes.length 0 && (decide (role = 2 ∨ (yes.length : Int) = 0) && (own id role T V && fin o role log nx mt))))))))
theorem s_Of (o : Int) : spec_l7Of.f o = some (decide (o = 1 ∨ o = 3 ∨ o = 5)) := by
  unfold spec_l7Of.f
  by_cases h1 : o = 1
  · simp [h1]
  · by_cases h3 : o = 3
    · simp [h3]
    · rw [if_neg h1, if_neg h3]; simp only [h1, h3, false_or]; rw [Option.some.injEq, Bool.eq_iff_iff]; simp
theorem i_Of (o : Int) : impl_isOf.f o = some (decide (o = 1 ∨ o = 3 ∨ o = 5)) := by
  unfold impl_isOf.f
  by_cases h1 : o = 1
  · simp [h1]
  · by_cases h3 : o = 3
    · simp [h3]
    · rw [if_neg h1, if_neg h3]; simp only [h1, h3, false_or]; rw [Option.some.injEq, Bool.eq_iff_iff]; simp
theorem s_j1 (id o role cm T V : Int) (log : List S64) (yes nx mt : List Int) (hlog : log.length ≤ 1048576) (ho : o = 1 ∨ o = 3 ∨ o = 5) :
    Ev (fun k => spec_RaftOk.j1 k false id o role cm T V log yes nx mt) (fin o role log nx mt) := by
  refine Ev.step (fun k => by rw [spec_RaftOk.j1]) ?_
  simp only [Bool.false_eq_true, if_false]
  unfold fin cn
  by_cases h3 : role = 3
  · simp only [if_pos h3]
    by_cases hn : (nx.length : Int) = o
    · simp only [if_pos hn]
      by_cases hm : (mt.length : Int) = o
      · refine Ev.step (fun k => by rw [spec_RaftOk.j2]) ?_
        simp only [show ((mt.length : Int) != o) = false by simp [hm], Bool.false_eq_true, if_false]
        have e := s_both id o role cm T V log yes nx mt hlog nx.length hn rfl (by omega) (by omega) nx.length 0 (by omega)
        refine ev_eq e ?_
        have e2 : mt.length = nx.length := by omega
        rw [e2]
        simp [hn]
      · refine Ev.step (fun k => by rw [spec_RaftOk.j2]) ?_
        simp only [show ((mt.length : Int) != o) = true by simp [hm], if_true]
        refine ev_eq (Ev.now _) ?_
        simp [hm]
    · simp only [if_neg hn]
      refine Ev.step (fun k => by rw [spec_RaftOk.j2]) ?_
      simp only [if_true]
      refine ev_eq (Ev.now _) ?_
      simp [hn]
  · simp only [if_neg h3]
    by_cases hn : (nx.length : Int) = 0
    · simp only [if_pos hn]
      refine ev_eq (Ev.now _) ?_
      have n0 : nx.length = 0 := by omega
      rw [n0]
      by_cases hm : (mt.length : Int) = 0
      · have m0 : mt.length = 0 := by omega
        rw [m0]
        simp [ni]
      · have e : ((mt.length : Int) == 0) = false := beq_eq_false_iff_ne.mpr hm
        rw [e]
        simp
    · simp only [if_neg hn]
      refine ev_eq (Ev.now _) ?_
      have e : ((nx.length : Int) == 0) = false := beq_eq_false_iff_ne.mpr hn
      rw [e]
      simp
theorem i_j1 (id o role cm T V : Int) (log : List S64) (yes nx mt : List Int) (hlog : log.length ≤ 1048576) (hx : nx.length ≤ 1048576) (hm : mt.length ≤ 1048576) (hid : 0 ≤ id ∧ id ≤ 4) :
    Ev (fun k => impl_RaftOk.j1 k (log.length : Int) false id o role cm T V log yes nx mt) (own id role T V && fin o role log nx mt) := by
  refine Ev.step (fun k => by rw [impl_RaftOk.j1]) ?_
  rw [w64 (id + 1) (by omega) (by omega), w64 ((log.length : Int) + 1) (by omega) (by omega)]
  simp only [Bool.false_eq_true, if_false]
  have go : ∀ c : Int, cn o role = c → Ev (fun k => (impl_numbersIn.f k nx c 1 ((log.length : Int) + 1)).bind fun t239 => (if t239 = true then ((impl_numbersIn.f k mt c 0 (log.length : Int)).bind fun t240 => (some t240)) else (some false))) (fin o role log nx mt) := by
    intro c hc
    unfold fin
    rw [hc]
    refine Ev.bind (i_ni c _ _ nx hx) ?_
    cases (ni 1 ((log.length : Int) + 1) nx nx.length 0 && ((nx.length : Int) == c))
    · simp only [Bool.false_eq_true, if_false, Bool.false_and]
      exact Ev.now _
    · simp only [if_true, Bool.true_and]
      exact Ev.bind (i_ni c _ _ mt hm) (Ev.now _)
  have no : own id role T V = false → Ev (fun _ : Nat => some false) (own id role T V && fin o role log nx mt) := by
    intro h
    rw [h, Bool.false_and]
    exact Ev.now _
  unfold own at *
  by_cases h1 : role = 1
  · have ow : decide (role = 1 ∨ (1 ≤ T ∧ V = id + 1)) = true := decide_eq_true (.inl h1)
    rw [ow, Bool.true_and]
    simp only [if_neg (show ¬ role = 3 by omega), if_pos h1]
    exact go 0 (by unfold cn; rw [if_neg (by omega)])
  · by_cases hT : T ≥ 1
    · by_cases hV : V = id + 1
      · have ow : decide (role = 1 ∨ (1 ≤ T ∧ V = id + 1)) = true := decide_eq_true (.inr ⟨hT, hV⟩)
        rw [ow, Bool.true_and]
        simp only [if_neg h1, if_pos hT, if_pos hV]
        by_cases h3 : role = 3
        · simp only [if_pos h3]
          exact go o (by unfold cn; rw [if_pos h3])
        · simp only [if_neg h3]
          exact go 0 (by unfold cn; rw [if_neg h3])
      · simp only [if_neg h1, if_pos hT, if_neg hV, ite_self]
        exact no (decide_eq_false (by omega))
    · simp only [if_neg h1, if_neg hT, ite_self]
      exact no (decide_eq_false (by omega))

theorem s_j0 (id o role cm T V : Int) (log : List S64) (yes nx mt : List Int) (hlog : log.length ≤ 1048576) (ho : o = 1 ∨ o = 3 ∨ o = 5) (hid : 0 ≤ id ∧ id ≤ 4) (b : Bool) :
    Ev (fun k => spec_RaftOk.j0 k b id o role cm T V log yes nx mt) (!b && (decide (role = 2 ∨ (yes.length : Int) = 0) && (own id role T V && fin o role log nx mt))) := by
  have j1t : Ev (fun k => spec_RaftOk.j1 k true id o role cm T V log yes nx mt) false := by
    refine Ev.step (fun k => by rw [spec_RaftOk.j1]) ?_
    simp only [if_true]
    exact Ev.now _
  cases b
  · refine Ev.step (fun k => by rw [spec_RaftOk.j0]) ?_
    rw [w64 (id + 1) (by omega) (by omega)]
    simp only [Bool.false_eq_true, if_false, Bool.not_false, Bool.true_and]
    have tail : ¬ role = 1 → Ev (fun k => if T < 1 then (spec_RaftOk.j1 k true id o role cm T V log yes nx mt) else (spec_RaftOk.j1 k (V != id + 1) id o role cm T V log yes nx mt)) (own id role T V && fin o role log nx mt) := by
      intro h1
      unfold own
      by_cases hT : T < 1
      · simp only [if_pos hT, decide_eq_false (show ¬ (role = 1 ∨ 1 ≤ T ∧ V = id + 1) by omega), Bool.false_and]
        exact j1t
      · simp only [if_neg hT]
        by_cases hV : V = id + 1
        · simp only [show (V != id + 1) = false by simp [hV], decide_eq_true (show (role = 1 ∨ 1 ≤ T ∧ V = id + 1) by omega), Bool.true_and]
          exact s_j1 id o role cm T V log yes nx mt hlog ho
        · simp only [show (V != id + 1) = true by simp [hV], decide_eq_false (show ¬ (role = 1 ∨ 1 ≤ T ∧ V = id + 1) by omega), Bool.false_and]
          exact j1t
    by_cases h2 : role = 2
    · simp only [if_pos h2, if_neg (show ¬ role = 1 by omega), decide_eq_true (show role = 2 ∨ (yes.length : Int) = 0 from .inl h2), Bool.true_and]
      exact tail (by omega)
    · simp only [if_neg h2]
      by_cases hy : (yes.length : Int) > 0
      · simp only [if_pos hy, decide_eq_false (show ¬ (role = 2 ∨ (yes.length : Int) = 0) by omega), Bool.false_and]
        exact j1t
      · simp only [if_neg hy, decide_eq_true (show (role = 2 ∨ (yes.length : Int) = 0) by omega), Bool.true_and]
        by_cases h1 : role = 1
        · simp only [if_pos h1]
          unfold own
          rw [decide_eq_true (show (role = 1 ∨ 1 ≤ T ∧ V = id + 1) from .inl h1), Bool.true_and]
          exact s_j1 id o role cm T V log yes nx mt hlog ho
        · simp only [if_neg h1]
          exact tail h1
  · refine Ev.step (fun k => by rw [spec_RaftOk.j0]) ?_
    simp only [if_true, Bool.not_true, Bool.false_and]
    exact Ev.now _
theorem i_j0 (id o role cm T V : Int) (log : List S64) (yes nx mt : List Int) (hlog : log.length ≤ 1048576) (hy : yes.length ≤ 1048576) (hx : nx.length ≤ 1048576) (hm : mt.length ≤ 1048576) (ho : o = 1 ∨ o = 3 ∨ o = 5) (hid : 0 ≤ id ∧ id ≤ 4) :
    Ev (fun k => impl_RaftOk.j0 k (log.length : Int) false id o role cm T V log yes nx mt) (na o yes yes.length 0 && (!hs id yes yes.length 0 && (decide (role = 2 ∨ (yes.length : Int) = 0) && (own id role T V && fin o role log nx mt)))) := by
  have j1t : Ev (fun k => impl_RaftOk.j1 k (log.length : Int) true id o role cm T V log yes nx mt) false := by
    refine Ev.step (fun k => by rw [impl_RaftOk.j1]) ?_
    simp only [if_true]
    exact Ev.now _
  have j1f := i_j1 id o role cm T V log yes nx mt hlog hx hm hid
  refine Ev.step (fun k => by rw [impl_RaftOk.j0]) ?_
  simp only [Bool.false_eq_true, if_false]
  have en : Ev (fun k => impl_nodesAscend.f k yes o) (na o yes yes.length 0) := by
    unfold impl_nodesAscend.f
    exact i_na o (by omega) yes hy yes.length 0 (by omega)
  refine Ev.bind en ?_
  cases na o yes yes.length 0
  · simp only [Bool.false_eq_true, if_false, Bool.false_and]
    exact j1t
  · simp only [if_true, Bool.true_and]
    refine Ev.bind (i_has id yes hy) ?_
    cases hs id yes yes.length 0
    · simp only [Bool.false_eq_true, if_false, Bool.not_false, Bool.true_and]
      by_cases h : (yes.length : Int) > 0
      · simp only [if_pos h]
        by_cases h2 : role = 2
        · simp only [show (role != 2) = false by simp [h2], decide_eq_true (show role = 2 ∨ (yes.length : Int) = 0 from .inl h2), Bool.true_and]
          exact j1f
        · simp only [show (role != 2) = true by simp [h2], decide_eq_false (show ¬ (role = 2 ∨ (yes.length : Int) = 0) by omega), Bool.false_and]
          exact j1t
      · simp only [if_neg h, decide_eq_true (show role = 2 ∨ (yes.length : Int) = 0 by omega), Bool.true_and]
        exact j1f
    · simp only [if_true, Bool.not_true, Bool.false_and]
      exact j1t
theorem s_RaftOk (id o role cm T V : Int) (log : List S64) (yes nx mt : List Int) (hlog : log.length ≤ 1048576) (hy : yes.length ≤ 1048576) : Ev (fun k => spec_RaftOk.f k id o role cm T V log yes nx mt) (rOk id o role cm T V log yes nx mt) := by
  have no : Ev (fun k => spec_RaftOk.j0 k true id o role cm T V log yes nx mt) false := by
    refine Ev.step (fun k => by rw [spec_RaftOk.j0]) ?_
    simp only [if_true]
    exact Ev.now _
  unfold spec_RaftOk.f rOk
  rw [s_Of]
  simp only [Option.bind_some]
  by_cases h1 : o = 1 ∨ o = 3 ∨ o = 5
  · rw [w64 (o - 1) (by omega) (by omega), s_In, s_In]
    simp only [decide_eq_true h1, if_true, Bool.true_and, Option.bind_some]
    by_cases h2 : 0 ≤ id ∧ id ≤ o - 1
    · simp only [decide_eq_true h2, if_true, Bool.true_and]
      by_cases h3 : 1 ≤ role ∧ role ≤ 3
      · simp only [decide_eq_true h3, if_true, Bool.true_and]
        refine Ev.bind (s_HardOk T V log hlog) ?_
        cases hOk T V log
        · simp only [Bool.false_eq_true, if_false, Bool.false_and]
          exact no
        · unfold spec_l10End.f
          simp only [if_true, Bool.true_and, Option.bind_some, s_In]
          by_cases h4 : 0 ≤ cm ∧ cm ≤ (log.length : Int)
          · simp only [decide_eq_true h4, if_true, Bool.true_and]
            by_cases h5 : (yes.length : Int) > o
            · simp only [if_pos h5]
              have : na o yes yes.length 0 = false := by
                rw [← Bool.not_eq_true]
                intro h
                have := na_len h (by omega)
                omega
              rw [this, Bool.false_and]
              exact no
            · simp only [if_neg h5]
              have en : Ev (fun k => spec_l7Nodes.f k yes o) (na o yes yes.length 0) := by
                unfold spec_l7Nodes.f
                exact s_na o (by omega) yes hy yes.length 0 (by omega)
              refine Ev.bind en ?_
              cases na o yes yes.length 0
              · simp only [Bool.false_eq_true, if_false, Bool.false_and]
                exact no
              · simp only [if_true, Bool.true_and]
                have eh : Ev (fun k => spec_l7Has.f k yes id) (hs id yes yes.length 0) := by
                  unfold spec_l7Has.f
                  exact s_has id yes hy yes.length 0 (by omega)
                exact Ev.bind eh (s_j0 id o role cm T V log yes nx mt hlog h1 (by omega) _)
          · simp only [decide_eq_false h4, Bool.false_eq_true, if_false, Bool.false_and]
            exact no
      · simp only [decide_eq_false h3, Bool.false_eq_true, if_false, Bool.false_and]
        exact no
    · simp only [decide_eq_false h2, Bool.false_eq_true, if_false, Bool.false_and]
      exact no
  · simp only [decide_eq_false h1, Bool.false_eq_true, if_false, Bool.false_and]
    exact no
theorem i_RaftOk (id o role cm T V : Int) (log : List S64) (yes nx mt : List Int) (hlog : log.length ≤ 1048576) (hy : yes.length ≤ 1048576) (hx : nx.length ≤ 1048576) (hm : mt.length ≤ 1048576) : Ev (fun k => impl_RaftOk.f k id o role cm T V log yes nx mt) (rOk id o role cm T V log yes nx mt) := by
  have no : Ev (fun k => impl_RaftOk.j0 k (log.length : Int) true id o role cm T V log yes nx mt) false := by
    refine Ev.step (fun k => by rw [impl_RaftOk.j0]) ?_
    simp only [if_true]
    exact Ev.now _
  unfold impl_RaftOk.f rOk
  rw [i_Of]
  simp only [Option.bind_some]
  by_cases h1 : o = 1 ∨ o = 3 ∨ o = 5
  · rw [w64 (o - 1) (by omega) (by omega), i_within, i_within]
    simp only [decide_eq_true h1, if_true, Bool.true_and, Option.bind_some]
    by_cases h2 : 0 ≤ id ∧ id ≤ o - 1
    · simp only [decide_eq_true h2, if_true, Bool.true_and]
      by_cases h3 : 1 ≤ role ∧ role ≤ 3
      · simp only [decide_eq_true h3, if_true, Bool.true_and]
        refine Ev.bind (i_HardOk T V log hlog) ?_
        cases hOk T V log
        · simp only [Bool.false_eq_true, if_false, Bool.false_and]
          exact no
        · simp only [if_true, Bool.true_and, Option.bind_some, i_within]
          by_cases h4 : 0 ≤ cm ∧ cm ≤ (log.length : Int)
          · simp only [decide_eq_true h4, Bool.not_true, Bool.true_and]
            exact i_j0 id o role cm T V log yes nx mt hlog hy hx hm h1 (by omega)
          · simp only [decide_eq_false h4, Bool.not_false, Bool.false_and]
            exact no
      · simp only [decide_eq_false h3, Bool.false_eq_true, if_false, Bool.false_and]
        exact no
    · simp only [decide_eq_false h2, Bool.false_eq_true, if_false, Bool.false_and]
      exact no
  · simp only [decide_eq_false h1, Bool.false_eq_true, if_false, Bool.false_and]
    exact no

theorem to_ints (l : List Int) (hl : l.length ≤ 1048576) : Ev (fun k => laws_toIntS.f k l) l := by
  unfold laws_toIntS.f
  simp only [if_pos (show 0 ≤ (l.length : Int) by omega), if_pos (show ((l.length : Int) : Int).toNat ≤ 35184372088832 by omega)]
  have key := up_ind l.length (fun i => ∀ ys : List Int, ys.length = l.length → (∀ j, j < i → ys[j]? = some (l.getD j 0)) → Ev (fun k => laws_toIntS.l0 k l ys (i : Int)) l)
    (by
      intro ys hy h
      refine Ev.step (fun k => by rw [laws_toIntS.l0]) ?_
      simp only [Int.lt_irrefl, if_false]
      have e2 := map_rd l 0 (fun x => x)
      rw [eq_fill (fun j => l.getD j 0) l.length ys hy h]
      have e3 : (List.range l.length).map (fun j => l.getD j 0) = l := by simpa using e2
      rw [e3]
      exact Ev.now _)
    (by
      intro i hi ih ys hy h
      refine Ev.step (fun k => by rw [laws_toIntS.l0]) ?_
      simp only [if_pos (show (i : Int) < (l.length : Int) by omega), if_pos (show 0 ≤ (i : Int) by omega), if_pos (show (i : Int) < (ys.length : Int) by omega)]
      rw [inc i (by omega)]
      exact ih _ (by rw [List.length_set]; exact hy) (set_fill (fun j => l.getD j 0) i ys h (by omega)))
  have := key 0 (by omega) (List.replicate ((l.length : Int) : Int).toNat 0) (by simp) (fun j hj => by omega)
  exact this
theorem eq_ints (l : List Int) (hl : l.length ≤ 10000000000000) : Ev (fun k => laws_eqIntS.f k l l) true := by
  unfold laws_eqIntS.f
  simp only [if_true]
  have key := up_ind l.length (fun i => Ev (fun k => laws_eqIntS.l0 k l l (i : Int)) true)
    (by
      refine Ev.step (fun k => by rw [laws_eqIntS.l0]) ?_
      simp only [Int.lt_irrefl, if_false]
      exact Ev.now _)
    (by
      intro i hi ih
      refine Ev.step (fun k => by rw [laws_eqIntS.l0]) ?_
      simp only [if_pos (show (i : Int) < (l.length : Int) by omega), if_pos (show 0 ≤ (i : Int) by omega), if_true]
      rw [inc i (by omega)]
      exact ih)
  exact key 0 (by omega)
theorem to_raft (id o role cm T V : Int) (log : List S70) (yes nx mt : List Int) (h1 : log.length ≤ 1048576) (h2 : yes.length ≤ 1048576) (h3 : nx.length ≤ 1048576) (h4 : mt.length ≤ 1048576) :
    Ev (fun k => laws_toRaft.f k id o role cm T V log yes nx mt) (id, o, role, cm, T, V, log.map cvE, yes, nx, mt) := by
  unfold laws_toRaft.f laws_toHard.f
  exact Ev.bind (Ev.bind (to_entries log h1) (Ev.now _)) (Ev.bind (to_ints yes h2) (Ev.bind (to_ints nx h3) (Ev.bind (to_ints mt h4) (Ev.now _))))
theorem eq_raft (id o role cm T V : Int) (log : List S64) (yes nx mt : List Int) (h1 : log.length ≤ 1048576) (h2 : yes.length ≤ 1048576) (h3 : nx.length ≤ 1048576) (h4 : mt.length ≤ 1048576) :
    Ev (fun k => laws_eqRaft.f k id o role cm T V log yes nx mt id o role cm T V log yes nx mt) true := by
  unfold laws_eqRaft.f laws_eqHard.f
  simp only [if_true]
  have e : Ev (fun k => (laws_eqEntryS.f k log log).bind fun t257 => if t257 = true then some true else some false) true := by
    refine Ev.bind (eq_entries log h1) ?_
    simp only [if_true]
    exact Ev.now _
  refine Ev.bind e ?_
  simp only [if_true]
  refine Ev.bind (eq_ints yes (by omega)) ?_
  simp only [if_true]
  refine Ev.bind (eq_ints nx (by omega)) ?_
  simp only [if_true]
  refine Ev.bind (eq_ints mt (by omega)) ?_
  simp only [if_true]
  exact Ev.now _
theorem sz_ints (l : List Int) (a : Int) (hl : l.length ≤ 9223372036854775807) (h0 : 0 ≤ a) (h1 : a ≤ 1048576) : ∃ t, laws_szIntS.f l a = some t ∧ t ≤ a ∧ (t < 0 ∨ (0 ≤ t ∧ l.length ≤ 1048576)) := by
  unfold laws_szIntS.f
  rw [w64 (a - (l.length : Int)) (by omega) (by omega)]
  by_cases h : a - (l.length : Int) < 0
  · rw [if_pos h]; exact ⟨_, rfl, by omega, by omega⟩
  · rw [if_neg h]; exact ⟨_, rfl, by omega, by omega⟩
theorem sz_raft (id o role cm T V : Int) (log : List S70) (yes nx mt : List Int) (h1 : log.length ≤ 9223372036854775807) (hs : ∀ x ∈ log, x.f1.f4.size ≤ 9223372036854775807) (h2 : yes.length ≤ 9223372036854775807) (h3 : nx.length ≤ 9223372036854775807) (h4 : mt.length ≤ 9223372036854775807) :
    ∃ r, Ev (fun k => laws_szRaft.f k id o role cm T V log yes nx mt 1048576) r ∧ (¬ r < 0 → log.length ≤ 1048576 ∧ yes.length ≤ 1048576 ∧ nx.length ≤ 1048576 ∧ mt.length ≤ 1048576) := by
  unfold laws_szRaft.f laws_szHard.f
  obtain ⟨r1, e1, l1, m1⟩ := sz_entries log 1048576 (by omega) (by omega) h1 hs
  by_cases c1 : r1 < 0
  · refine ⟨-1, Ev.bind (Ev.bind e1 (a := r1) (r := -1) ?_) ?_, by omega⟩
    · simp only [if_pos c1]; exact Ev.now _
    · simp only [if_pos (show (-1 : Int) < 0 by omega)]; exact Ev.now _
  · have L1 := l1 (by omega)
    have f1 : Ev (fun k => (laws_szEntryS.f k log 1048576).bind fun t107 => (if t107 < 0 then (some (-1)) else (some t107))) r1 := by
      refine Ev.bind e1 ?_
      simp only [if_neg c1]; exact Ev.now _
    obtain ⟨r2, e2, l2, m2⟩ := sz_ints yes r1 h2 (by omega) (by omega)
    by_cases c2 : r2 < 0
    · refine ⟨-1, Ev.bind f1 ?_, by omega⟩
      simp only [if_neg c1, e2, Option.bind_some, if_pos c2]; exact Ev.now _
    · obtain ⟨r3, e3, l3, m3⟩ := sz_ints nx r2 h3 (by omega) (by omega)
      by_cases c3 : r3 < 0
      · refine ⟨-1, Ev.bind f1 ?_, by omega⟩
        simp only [if_neg c1, e2, Option.bind_some, if_neg c2, e3, if_pos c3]; exact Ev.now _
      · obtain ⟨r4, e4, l4, m4⟩ := sz_ints mt r3 h4 (by omega) (by omega)
        by_cases c4 : r4 < 0
        · refine ⟨-1, Ev.bind f1 ?_, by omega⟩
          simp only [if_neg c1, e2, Option.bind_some, if_neg c2, e3, if_neg c3, e4, if_pos c4]; exact Ev.now _
        · refine ⟨r4, Ev.bind f1 ?_, fun _ => ⟨L1, by omega, by omega, by omega⟩⟩
          simp only [if_neg c1, e2, Option.bind_some, if_neg c2, e3, if_neg c3, e4, if_neg c4]; exact Ev.now _

theorem FnExactRaftOk : ∀ (a0_0 : Int) (a0_1 : Int) (a0_2 : Int) (a0_3 : Int) (a0_4 : Int) (a0_5 : Int) (l0_6 : (List S70)) (l0_7 : (List Int)) (l0_8 : (List Int)) (l0_9 : (List Int)), (Lit.int .i64 a0_0).wf = true → (Lit.int .i64 a0_1).wf = true → (Lit.int .i64 a0_2).wf = true → (Lit.int .i64 a0_3).wf = true → (Lit.int .i64 a0_4).wf = true → (Lit.int .i64 a0_5).wf = true → (l0_6.length ≤ 9223372036854775807 ∧ ∀ x ∈ l0_6, ((Lit.int .i64 x.f0).wf = true ∧ ((Lit.int .i64 x.f1.f0).wf = true ∧ (Lit.int .i64 x.f1.f1).wf = true ∧ (Lit.int .i64 x.f1.f2).wf = true ∧ (Lit.int .i64 x.f1.f3).wf = true ∧ x.f1.f4.size ≤ 9223372036854775807))) → (l0_7.length ≤ 9223372036854775807 ∧ ∀ x ∈ l0_7, (Lit.int .i64 x).wf = true) → (l0_8.length ≤ 9223372036854775807 ∧ ∀ x ∈ l0_8, (Lit.int .i64 x).wf = true) → (l0_9.length ≤ 9223372036854775807 ∧ ∀ x ∈ l0_9, (Lit.int .i64 x).wf = true) → ∃ k, laws_FnExactRaftOk.f k a0_0 a0_1 a0_2 a0_3 a0_4 a0_5 l0_6 l0_7 l0_8 l0_9 = some true := by
  intro id o role cm T V log yes nx mt _ _ _ _ _ _ hl hy hx hm
  refine Ev.rounds ?_
  unfold laws_FnExactRaftOk.f
  obtain ⟨r, e, hr⟩ := sz_raft id o role cm T V log yes nx mt hl.1 (fun x hx => (hl.2 x hx).2.2.2.2.2) hy.1 hx.1 hm.1
  refine Ev.bind e ?_
  by_cases h : r < 0
  · simp only [if_pos h]; exact Ev.now _
  · obtain ⟨g1, g2, g3, g4⟩ := hr h
    simp only [if_neg h]
    have g5 : (log.map cvE).length ≤ 1048576 := by rw [List.length_map]; exact g1
    have tr := to_raft id o role cm T V log yes nx mt g1 g2 g3 g4
    refine Ev.bind tr (Ev.bind (s_RaftOk id o role cm T V (log.map cvE) yes nx mt g5 g2) (Ev.bind tr (Ev.bind (i_RaftOk id o role cm T V (log.map cvE) yes nx mt g5 g2 g3 g4) ?_)))
    simp only [bne_self_eq_false, Bool.false_eq_true, if_false]
    refine Ev.bind tr (Ev.bind (eq_raft id o role cm T V (log.map cvE) yes nx mt g5 g2 g3 g4) ?_)
    simp only [if_true]
    exact Ev.now _

end Go.Proofs.Ytahhigniaepgeaa.Pure
