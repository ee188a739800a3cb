-- Written by a program of this session (wip/opq/raftnew.py).
import Derived.Test.YtahhigniaepgeaaQFnExactRaftNewx1
import Derived.Test.YtahhigniaepgeaaQFnExactRaftNewx3
import Derived.Test.YtahhigniaepgeaaQFnExactRaftNewx8
import Derived.Test.YtahhigniaepgeaaQFnExactRaftNewx11
import Derived.Test.YtahhigniaepgeaaQFnExactRaftNewx12
import Derived.Test.YtahhigniaepgeaaQFnExactRaftNewx13
namespace Go.Proofs.Ytahhigniaepgeaa.Pure
open Go.RowKit Go.Proofs.Ytahhigniaepgeaa.QFnExactRaftNew Go.Proofs.YtahhigniaepgeaaW.PrintWords Go.Proofs.YtahhigniaepgeaaW.PrintLast
set_option linter.unusedVariables false
set_option linter.unusedSimpArgs false

theorem w64 (n : Int) (h0 : -9223372036854775808 ≤ n) (h1 : n ≤ 9223372036854775807) : wrap64 n = n := by unfold wrap64; omega
theorem tmn {a : Int} (b : Int) (h : 0 ≤ a) : Int.tmod a b = a % b := Int.tmod_eq_emod_of_nonneg h
theorem wfi {x : Int} (h : (Lit.int .i64 x).wf = true) : -9223372036854775808 ≤ x ∧ x ≤ 9223372036854775807 := by
  simp [Lit.wf, IntKind.min, IntKind.max, IntKind.signed, IntKind.bits] at h
  omega
theorem wf8 {x : Int} (h : (Lit.int .u8 x).wf = true) : 0 ≤ x ∧ x ≤ 255 := by
  simp [Lit.wf, IntKind.min, IntKind.max, IntKind.signed, IntKind.bits] at h
  omega
theorem evc {α : Type} {g : Nat → Option α} {r : α} (h : ∀ k, g k = some r) : Ev g r := ⟨0, fun k _ => h k⟩
theorem getD_mem {α : Type} (l : List α) (n : Nat) (z : α) (h : n < l.length) : l.getD n z ∈ l := by
  rw [List.getD_eq_getElem?_getD, List.getElem?_eq_getElem h]
  exact List.getElem_mem h
theorem ex_step {α : Type} {g f : Nat → Option α} (h : ∀ k, g (k + 1) = f k) (e : ∃ r, Ev f r) : ∃ r, Ev g r := by
  obtain ⟨r, e⟩ := e
  exact ⟨r, Ev.step h e⟩
theorem ex_bind {α β : Type} {g : Nat → Option α} {f : Nat → α → Option β} {a : α} (h : Ev g a) (e : ∃ r, Ev (fun n => f n a) r) : ∃ r, Ev (fun n => (g n).bind (f n)) r := by
  obtain ⟨r, e⟩ := e
  exact ⟨r, Ev.bind h e⟩

theorem up_ind (n : Nat) (P : Nat → Prop) (he : P n) (hs : ∀ i, i < n → P (i + 1) → P i) (i : Nat) (h : i ≤ n) : P i := by
  have key : ∀ (d i : Nat), i + d = n → P i := by
    intro d
    induction d with
    | zero => intro i h; obtain rfl : i = n := by omega
              exact he
    | succ d ih => intro i h; exact hs i (by omega) (ih (i + 1) (by omega))
  exact key (n - i) i (by omega)
theorem eq_fill {β : Type} (y : Nat → β) (n : Nat) (ys : List β) (hl : ys.length = n) (h : ∀ j, j < n → ys[j]? = some (y j)) : ys = (List.range n).map y := by
  apply List.ext_getElem?
  intro j
  by_cases hj : j < n
  · rw [h j hj]; simp [hj]
  · rw [List.getElem?_eq_none (by omega), List.getElem?_eq_none (by simp; omega)]
theorem map_rd {α β : Type} (l : List α) (z : α) (f : α → β) : (List.range l.length).map (fun i => f (l.getD i z)) = l.map f := by
  apply List.ext_getElem?
  intro j
  by_cases hj : j < l.length
  · simp [hj, List.getD]
  · rw [List.getElem?_eq_none (by simp; omega), List.getElem?_eq_none (by simp; omega)]
theorem set_fill {β : Type} (y : Nat → β) (i : Nat) (ys : List β) (h : ∀ j, j < i → ys[j]? = some (y j)) (hi : i < ys.length) : ∀ j, j < i + 1 → (ys.set i (y i))[j]? = some (y j) := by
  intro j hj
  by_cases e : j = i
  · subst e; rw [List.getElem?_set_self hi]
  · rw [List.getElem?_set_ne (by omega)]; exact h j (by omega)
theorem inc (i : Nat) (h : i < 1000000000000000) : wrap64 ((i : Int) + 1) = ((i + 1 : Nat) : Int) := by rw [w64 _ (by omega) (by omega)]; omega

theorem bal (s : ByteArray) : s.toList = s.data.toList := ByteArray.toList_eq s
theorem bal_nil (s : ByteArray) : s.toList = ([] : List UInt8) ↔ s.size = 0 := by
  rw [bal, ← data_length]
  exact List.length_eq_zero_iff.symm

theorem i_within (n a b : Int) : impl_within.f n a b = some (decide (a ≤ n ∧ n ≤ b)) := by
  unfold impl_within.f
  by_cases h : n ≥ a
  · rw [if_pos h]; simp [show a ≤ n from h]
  · rw [if_neg h]; simp [show ¬ a ≤ n from h]

theorem s_In (n a b : Int) : spec_l1In.f n a b = some (decide (a ≤ n ∧ n ≤ b)) := by
  unfold spec_l1In.f
  by_cases h : n ≥ a
  · rw [if_pos h]; simp [show a ≤ n from h]
  · rw [if_neg h]; simp [show ¬ a ≤ n from h]

theorem sz_cmd (k r n z : Int) (d : ByteArray) (a : Int) (hd : d.size ≤ 9223372036854775807) (h0 : 0 ≤ a) (h1 : a ≤ 1048576) : ∃ t, laws_szCmd.f k r n z d a = some t ∧ t ≤ a ∧ (t < 0 ∨ 0 ≤ t) := by
  unfold laws_szCmd.f
  rw [w64 (a - (d.size : Int)) (by omega) (by omega)]
  by_cases h : a - (d.size : Int) < 0
  · rw [if_pos h]; exact ⟨_, rfl, by omega, by omega⟩
  · rw [if_neg h]; exact ⟨_, rfl, by omega, by omega⟩
theorem sz_entries (l : List S70) (a : Int) (ha : 0 ≤ a) (ha2 : a ≤ 1048576) (hl : l.length ≤ 9223372036854775807) (hs : ∀ x ∈ l, x.f1.f4.size ≤ 9223372036854775807) : ∃ r, Ev (fun k => laws_szEntryS.f k l a) r ∧ (0 ≤ r → l.length ≤ 1048576) ∧ r ≤ a := by
  unfold laws_szEntryS.f
  rw [w64 (a - (l.length : Int)) (by omega) (by omega)]
  by_cases h : a - (l.length : Int) < 0
  · simp only [if_pos h]; exact ⟨_, Ev.now _, fun h => by omega, by omega⟩
  · simp only [if_neg h]
    have key := up_ind l.length (fun i => ∀ b : Int, 0 ≤ b → b ≤ a → ∃ r, Ev (fun k => laws_szEntryS.l0 k l b (i : Int)) r ∧ r ≤ a)
      (by
        intro b h1 h2
        refine ⟨b, Ev.step (fun k => by rw [laws_szEntryS.l0]) ?_, h2⟩
        simp only [Int.lt_irrefl, if_false]
        exact Ev.now _)
      (by
        intro i hi ih b h1 h2
        have hx : (rd_T70 l (i : Int)).f1.f4.size ≤ 9223372036854775807 := hs _ (getD_mem _ _ _ (by omega))
        obtain ⟨t, et, ht, hc⟩ := sz_cmd (rd_T70 l (i : Int)).f1.f0 (rd_T70 l (i : Int)).f1.f1 (rd_T70 l (i : Int)).f1.f2 (rd_T70 l (i : Int)).f1.f3 (rd_T70 l (i : Int)).f1.f4 b hx h1 (by omega)
        by_cases h3 : t < 0
        · refine ⟨-1, Ev.step (fun k => by rw [laws_szEntryS.l0]) ?_, by omega⟩
          unfold laws_szEntry.f
          rw [et]
          simp only [if_pos (show (i : Int) < (l.length : Int) by omega), if_pos (show 0 ≤ (i : Int) by omega), Option.bind_some, if_pos h3, if_pos (show (-1 : Int) < 0 by omega)]
          exact Ev.now _
        · obtain ⟨r, er, hr⟩ := ih t (by omega) (by omega)
          refine ⟨r, Ev.step (fun k => by rw [laws_szEntryS.l0]) ?_, hr⟩
          unfold laws_szEntry.f
          rw [et, inc i (by omega)]
          simp only [if_pos (show (i : Int) < (l.length : Int) by omega), if_pos (show 0 ≤ (i : Int) by omega), Option.bind_some, if_neg h3]
          exact er)
    obtain ⟨r, e, hr⟩ := key 0 (by omega) (a - (l.length : Int)) (by omega) (by omega)
    exact ⟨r, e, fun _ => by omega, hr⟩

def cvE (x : S70) : S64 := ⟨x.f0, ⟨x.f1.f0, x.f1.f1, x.f1.f2, x.f1.f3, x.f1.f4⟩⟩
theorem to_entries (l : List S70) (hl : l.length ≤ 1048576) : Ev (fun k => laws_toEntryS.f k l) (l.map cvE) := by
  unfold laws_toEntryS.f
  simp only [if_pos (show 0 ≤ (l.length : Int) by omega), if_pos (show ((l.length : Int) : Int).toNat ≤ 5026338869833 by omega)]
  have key := up_ind l.length (fun i => ∀ ys : List S64, ys.length = l.length → (∀ j, j < i → ys[j]? = some (cvE (l.getD j z70))) → Ev (fun k => laws_toEntryS.l0 k l ys (i : Int)) (l.map cvE))
    (by
      intro ys hy h
      refine Ev.step (fun k => by rw [laws_toEntryS.l0]) ?_
      simp only [Int.lt_irrefl, if_false]
      rw [eq_fill (fun j => cvE (l.getD j z70)) l.length ys hy h, map_rd]
      exact Ev.now _)
    (by
      intro i hi ih ys hy h
      refine Ev.step (fun k => by rw [laws_toEntryS.l0]) ?_
      unfold laws_toEntry.f laws_toCmd.f
      simp only [Option.bind_some, if_pos (show (i : Int) < (l.length : Int) by omega), if_pos (show 0 ≤ (i : Int) by omega), if_pos (show (i : Int) < (ys.length : Int) by omega)]
      rw [inc i (by omega)]
      exact ih _ (by rw [List.length_set]; exact hy) (set_fill (fun j => cvE (l.getD j z70)) i ys h (by omega)))
  exact key 0 (by omega) (List.replicate ((l.length : Int) : Int).toNat z64) (by simp) (fun j hj => by omega)

theorem eq_cmd (k r n z : Int) (d : ByteArray) : laws_eqCmd.f k r n z d k r n z d = some true := by
  unfold laws_eqCmd.f; simp
theorem eq_entries (l : List S64) (hl : l.length ≤ 1048576) : Ev (fun k => laws_eqEntryS.f k l l) true := by
  unfold laws_eqEntryS.f
  simp only [if_true]
  have key := up_ind l.length (fun i => Ev (fun k => laws_eqEntryS.l0 k l l (i : Int)) true)
    (by
      refine Ev.step (fun k => by rw [laws_eqEntryS.l0]) ?_
      simp only [Int.lt_irrefl, if_false]
      exact Ev.now _)
    (by
      intro i hi ih
      refine Ev.step (fun k => by rw [laws_eqEntryS.l0]) ?_
      unfold laws_eqEntry.f
      simp only [eq_cmd, if_pos (show (i : Int) < (l.length : Int) by omega), if_pos (show 0 ≤ (i : Int) by omega), if_true, Option.bind_some]
      rw [inc i (by omega)]
      exact ih)
  exact key 0 (by omega)

/-- What CmdOk tells. -/
def cOk (q r n z : Int) (d : ByteArray) : Bool := decide ((q = 1 ∧ r = 0 ∧ n = 0 ∧ z = 0 ∧ d.toList = []) ∨ ((1 ≤ r ∧ r ≤ 1000) ∧ ((q = 2 ∧ (0 ≤ z ∧ z ≤ 1000) ∧ (d.size : Int) = 32 ∧ n = 0) ∨ (q = 3 ∧ (0 ≤ n ∧ n ≤ 4) ∧ z = 0 ∧ d.toList = []) ∨ ((q = 4 ∨ q = 5) ∧ n = 0 ∧ z = 0 ∧ d.toList = []))))
theorem ev_eq {g : Nat → Option Bool} {a b : Bool} (h : Ev g a) (e : a = b) : Ev g b := e ▸ h
theorem nil_list : (⟨#[]⟩ : ByteArray).toList = [] := (bal_nil _).2 rfl
theorem s_CmdOk (q r n z : Int) (d : ByteArray) : Ev (fun k => spec_CmdOk.f k q r n z d) (cOk q r n z d) := by
  unfold spec_CmdOk.f
  rw [s_In, s_In]
  simp only [Option.bind_some]
  by_cases h1 : q = 1
  · subst h1
    simp only [if_true]
    refine ev_eq (Ev.now _) ?_
    unfold cOk
    rw [Bool.eq_iff_iff]
    simp
  · simp only [if_neg h1]
    have j : ∀ b : Bool, b = true → Ev (fun k => spec_CmdOk.j0 k b q r n z d q 0 0 0 (⟨#[]⟩ : ByteArray)) false := by
      intro b hb
      refine Ev.step (fun k => by rw [spec_CmdOk.j0]) ?_
      simp only [hb, if_true]
      exact Ev.now _
    by_cases h2 : 2 ≤ q ∧ q ≤ 5
    · simp only [decide_eq_true h2, if_true]
      by_cases h3 : 1 ≤ r ∧ r ≤ 1000
      · simp only [decide_eq_true h3, Bool.not_true]
        refine Ev.step (fun k => by rw [spec_CmdOk.j0]) ?_
        simp only [Bool.false_eq_true, if_false, s_In, Option.bind_some, nil_list]
        by_cases q2 : q = 2
        · subst q2
          simp only [if_true]
          by_cases hz : 0 ≤ z ∧ z ≤ 1000
          · simp only [decide_eq_true hz, if_true]
            by_cases hd : (d.size : Int) = 32
            · simp only [if_pos hd]
              refine ev_eq (Ev.now _) ?_
              unfold cOk
              rw [Bool.eq_iff_iff]
              simp [h3, hz, hd]
            · simp only [if_neg hd]
              refine ev_eq (Ev.now _) ?_
              unfold cOk
              simp [hd]
          · simp only [decide_eq_false hz, Bool.false_eq_true, if_false]
            refine ev_eq (Ev.now _) ?_
            unfold cOk
            simp [hz]
        · simp only [if_neg q2]
          by_cases q3 : q = 3
          · subst q3
            simp only [if_true]
            by_cases hn : 0 ≤ n ∧ n ≤ 4
            · simp only [decide_eq_true hn, if_true]
              refine ev_eq (Ev.now _) ?_
              unfold cOk
              rw [Bool.eq_iff_iff]
              simp [h3, hn]
            · simp only [decide_eq_false hn, Bool.false_eq_true, if_false]
              refine ev_eq (Ev.now _) ?_
              unfold cOk
              simp [hn]
          · simp only [if_neg q3]
            refine ev_eq (Ev.now _) ?_
            have h4 : q = 4 ∨ q = 5 := by omega
            unfold cOk
            rw [Bool.eq_iff_iff]
            simp [h1, q2, q3, h3, h4]
      · simp only [decide_eq_false h3, Bool.not_false]
        refine ev_eq (j true rfl) ?_
        unfold cOk
        simp [h1, h3]
    · simp only [decide_eq_false h2, Bool.false_eq_true, if_false]
      refine ev_eq (j true rfl) ?_
      have a2 : ¬ q = 2 := by omega
      have a3 : ¬ q = 3 := by omega
      have a4 : ¬ q = 4 := by omega
      have a5 : ¬ q = 5 := by omega
      unfold cOk
      simp [h1, a2, a3, a4, a5]
theorem i_CmdOk (q r n z : Int) (d : ByteArray) : impl_CmdOk.f q r n z d = some (cOk q r n z d) := by
  unfold impl_CmdOk.f impl_isRelease.f impl_isSize.f impl_isNode.f
  simp only [i_within, Option.bind_some]
  unfold cOk
  by_cases h1 : q = 1
  · subst h1
    by_cases hr : r = 0 <;> simp [hr]
    rw [Bool.eq_iff_iff]
    simp
  · simp only [if_neg h1]
    by_cases h3 : 1 ≤ r ∧ r ≤ 1000
    · simp only [decide_eq_true h3, if_true]
      by_cases q2 : q = 2
      · subst q2
        by_cases hz : 0 ≤ z ∧ z ≤ 1000
        · by_cases hd : (d.size : Int) = 32
          · simp [h3, hz, hd]
            rw [Bool.eq_iff_iff]
            simp
          · simp [hz, hd]
        · simp [hz]
      · by_cases q3 : q = 3
        · subst q3
          by_cases hn : 0 ≤ n ∧ n ≤ 4
          · simp [h3, hn]
            rw [Bool.eq_iff_iff]
            simp
          · simp [hn]
        · by_cases q4 : q = 4
          · subst q4
            simp [h3]
            rw [Bool.eq_iff_iff]
            simp
          · by_cases q5 : q = 5
            · subst q5
              simp [h3]
              rw [Bool.eq_iff_iff]
              simp
            · simp [h1, q2, q3, q4, q5]
    · simp only [decide_eq_false h3, Bool.false_eq_true, if_false]
      simp [h1, h3]

/-- What each entry must be, from i on. -/
def hk (T : Int) (l : List S64) : Nat → Nat → Bool
  | 0, _ => true
  | d + 1, i =>
    cOk (rd_T64 l (i : Int)).f1.f0 (rd_T64 l (i : Int)).f1.f1 (rd_T64 l (i : Int)).f1.f2 (rd_T64 l (i : Int)).f1.f3 (rd_T64 l (i : Int)).f1.f4 &&
    (decide (1 ≤ (rd_T64 l (i : Int)).f0 ∧ (rd_T64 l (i : Int)).f0 ≤ T) && ((decide (i = 0) || decide ((rd_T64 l ((i : Int) - 1)).f0 ≤ (rd_T64 l (i : Int)).f0)) && hk T l d (i + 1)))
def hOk (T V : Int) (l : List S64) : Bool := decide (0 ≤ T ∧ T ≤ 1000000000) && (decide (0 ≤ V ∧ V ≤ 5) && (decide ((l.length : Int) ≤ 80) && hk T l l.length 0))
theorem s_Entry (t q r n z : Int) (d : ByteArray) : Ev (fun k => spec_l6Entry.f k t q r n z d) (decide (1 ≤ t ∧ t ≤ 1000000000) && cOk q r n z d) := by
  unfold spec_l6Entry.f
  rw [s_In]
  simp only [Option.bind_some]
  by_cases h : 1 ≤ t ∧ t ≤ 1000000000
  · simp only [decide_eq_true h, if_true, Bool.true_and]
    exact Ev.bind (s_CmdOk q r n z d) (Ev.now _)
  · simp only [decide_eq_false h, Bool.false_eq_true, if_false, Bool.false_and]
    exact Ev.now _
theorem s_hk (T V : Int) (l : List S64) (hT : T ≤ 1000000000) (hl : l.length ≤ 1048576) : ∀ (d i : Nat), i + d = l.length → Ev (fun k => spec_HardOk.l0 k (i : Int) T V l) (hk T l d i) := by
  intro d
  induction d with
  | zero =>
    intro i h
    refine Ev.step (fun k => by rw [spec_HardOk.l0]) ?_
    simp only [if_neg (show ¬ (i : Int) < (l.length : Int) by omega)]
    exact Ev.now _
  | succ d ih =>
    intro i h
    refine Ev.step (fun k => by rw [spec_HardOk.l0]) ?_
    simp only [if_pos (show (i : Int) < (l.length : Int) by omega), if_pos (show 0 ≤ (i : Int) by omega)]
    refine Ev.bind (s_Entry _ _ _ _ _ _) ?_
    unfold hk
    generalize cOk (rd_T64 l (i : Int)).f1.f0 (rd_T64 l (i : Int)).f1.f1 (rd_T64 l (i : Int)).f1.f2 (rd_T64 l (i : Int)).f1.f3 (rd_T64 l (i : Int)).f1.f4 = c
    cases c
    · simp only [Bool.and_false, Bool.false_and, Bool.false_eq_true, if_false]
      exact Ev.now _
    · simp only [Bool.and_true, Bool.true_and]
      by_cases h1 : 1 ≤ (rd_T64 l (i : Int)).f0 ∧ (rd_T64 l (i : Int)).f0 ≤ T
      · simp only [decide_eq_true h1, decide_eq_true (show 1 ≤ (rd_T64 l (i : Int)).f0 ∧ (rd_T64 l (i : Int)).f0 ≤ 1000000000 by omega), if_true, if_neg (show ¬ (rd_T64 l (i : Int)).f0 > T by omega), Bool.true_and]
        by_cases h0 : i = 0
        · subst h0
          simp only [if_neg (show ¬ ((0 : Nat) : Int) > 0 by omega), decide_true, Bool.true_or, Bool.true_and]
          rw [inc 0 (by omega)]
          exact ih 1 (by omega)
        · rw [w64 ((i : Int) - 1) (by omega) (by omega), inc i (by omega)]
          simp only [if_pos (show (i : Int) > 0 by omega), if_pos (show 0 ≤ (i : Int) - 1 by omega), if_pos (show (i : Int) - 1 < (l.length : Int) by omega), decide_eq_false h0, Bool.false_or]
          by_cases h2 : (rd_T64 l ((i : Int) - 1)).f0 ≤ (rd_T64 l (i : Int)).f0
          · simp only [if_neg (show ¬ (rd_T64 l (i : Int)).f0 < (rd_T64 l ((i : Int) - 1)).f0 by omega), decide_eq_true h2, Bool.true_and]
            exact ih (i + 1) (by omega)
          · simp only [if_pos (show (rd_T64 l (i : Int)).f0 < (rd_T64 l ((i : Int) - 1)).f0 by omega), decide_eq_false h2, Bool.false_and]
            exact Ev.now _
      · simp only [decide_eq_false h1, Bool.false_and]
        by_cases h2 : 1 ≤ (rd_T64 l (i : Int)).f0 ∧ (rd_T64 l (i : Int)).f0 ≤ 1000000000
        · simp only [decide_eq_true h2, if_true, if_pos (show (rd_T64 l (i : Int)).f0 > T by omega)]
          exact Ev.now _
        · simp only [decide_eq_false h2, Bool.false_eq_true, if_false]
          exact Ev.now _
theorem s_HardOk (T V : Int) (l : List S64) (hl : l.length ≤ 1048576) : Ev (fun k => spec_HardOk.f k T V l) (hOk T V l) := by
  unfold spec_HardOk.f spec_l1Whole.f
  rw [s_In, s_In]
  simp only [Option.bind_some]
  have j : Ev (fun k => spec_HardOk.j0 k true T V l) false := by
    refine Ev.step (fun k => by rw [spec_HardOk.j0]) ?_
    simp only [if_true]
    exact Ev.now _
  unfold hOk
  by_cases h1 : 0 ≤ T ∧ T ≤ 1000000000
  · simp only [decide_eq_true h1, if_true, Bool.true_and]
    by_cases h2 : 0 ≤ V ∧ V ≤ 5
    · simp only [decide_eq_true h2, if_true, Bool.true_and]
      by_cases h3 : (l.length : Int) ≤ 80
      · simp only [decide_eq_true h3, decide_eq_false (show ¬ (l.length : Int) > 80 by omega), Bool.true_and]
        refine Ev.step (fun k => by rw [spec_HardOk.j0]) ?_
        simp only [Bool.false_eq_true, if_false]
        exact s_hk T V l h1.2 hl l.length 0 (by omega)
      · simp only [decide_eq_false h3, decide_eq_true (show (l.length : Int) > 80 by omega), Bool.false_and]
        exact j
    · simp only [decide_eq_false h2, Bool.false_eq_true, if_false, Bool.false_and]
      exact j
  · simp only [decide_eq_false h1, Bool.false_eq_true, if_false, Bool.false_and]
    exact j
theorem i_lastTerm (l : List S64) (i : Nat) (hi : i < l.length) (hl : l.length ≤ 1048576) : impl_lastTerm.f (l.take i) = some (if i = 0 then 0 else (rd_T64 l ((i : Int) - 1)).f0) := by
  unfold impl_lastTerm.f
  have hlen : (l.take i).length = i := by rw [List.length_take]; omega
  rw [hlen]
  by_cases h : i = 0
  · subst h
    simp
  · rw [if_neg (show ¬ (i : Int) = 0 by omega), w64 ((i : Int) - 1) (by omega) (by omega), if_pos (show 0 ≤ (i : Int) - 1 by omega), if_pos (show (i : Int) - 1 < (i : Int) by omega), if_neg h]
    have e : rd_T64 (l.take i) ((i : Int) - 1) = rd_T64 l ((i : Int) - 1) := by
      unfold rd_T64
      rw [List.getD_eq_getElem?_getD, List.getD_eq_getElem?_getD, List.getElem?_take_of_lt (by omega)]
    rw [e]
theorem i_hk (T V : Int) (l : List S64) (hl : l.length ≤ 1048576) : ∀ (d i : Nat), i + d = l.length → Ev (fun k => impl_HardOk.l0 k l (l.length : Int) (i : Int) T V l) (hk T l d i && (decide (0 ≤ T ∧ T ≤ 1000000000) && (decide (0 ≤ V ∧ V ≤ 5) && decide ((l.length : Int) ≤ 80)))) := by
  intro d
  induction d with
  | zero =>
    intro i h
    refine Ev.step (fun k => by rw [impl_HardOk.l0]) ?_
    unfold impl_isWhole.f
    simp only [if_neg (show ¬ (i : Int) < (l.length : Int) by omega), i_within, Option.bind_some, hk, Bool.true_and]
    by_cases h1 : 0 ≤ T ∧ T ≤ 1000000000
    · simp only [decide_eq_true h1, if_true, Bool.true_and]
      by_cases h2 : 0 ≤ V ∧ V ≤ 5
      · simp only [decide_eq_true h2, if_true, Bool.true_and]
        exact Ev.now _
      · simp only [decide_eq_false h2, Bool.false_eq_true, if_false, Bool.false_and]
        exact Ev.now _
    · simp only [decide_eq_false h1, Bool.false_eq_true, if_false, Bool.false_and]
      exact Ev.now _
  | succ d ih =>
    intro i h
    refine Ev.step (fun k => by rw [impl_HardOk.l0]) ?_
    simp only [if_pos (show (i : Int) < (l.length : Int) by omega), if_pos (show 0 ≤ (i : Int) by omega), i_CmdOk, Option.bind_some]
    unfold hk
    generalize cOk (rd_T64 l (i : Int)).f1.f0 (rd_T64 l (i : Int)).f1.f1 (rd_T64 l (i : Int)).f1.f2 (rd_T64 l (i : Int)).f1.f3 (rd_T64 l (i : Int)).f1.f4 = c
    cases c
    · simp only [Bool.false_and, Bool.false_eq_true, if_false]
      exact Ev.now _
    · have ht : (i : Int).toNat = i := by omega
      simp only [if_true, Bool.true_and, if_pos (show (i : Int) ≤ (l.length : Int) by omega), ht, i_lastTerm l i (by omega) hl, Option.bind_some, i_within]
      rw [inc i (by omega)]
      by_cases h1 : (1 ≤ (rd_T64 l (i : Int)).f0 ∧ (rd_T64 l (i : Int)).f0 ≤ T) ∧ (i = 0 ∨ (rd_T64 l ((i : Int) - 1)).f0 ≤ (rd_T64 l (i : Int)).f0)
      · have hm : mx 1 (if i = 0 then 0 else (rd_T64 l ((i : Int) - 1)).f0) ≤ (rd_T64 l (i : Int)).f0 ∧ (rd_T64 l (i : Int)).f0 ≤ T := by
          unfold mx
          by_cases h0 : i = 0
          · rw [if_pos h0]; split <;> omega
          · rw [if_neg h0]; split <;> omega
        have ho : (decide (i = 0) || decide ((rd_T64 l ((i : Int) - 1)).f0 ≤ (rd_T64 l (i : Int)).f0)) = true := by simpa using h1.2
        simp only [decide_eq_true hm, if_true, decide_eq_true h1.1, ho, Bool.true_and]
        exact ih (i + 1) (by omega)
      · have hm : ¬ (mx 1 (if i = 0 then 0 else (rd_T64 l ((i : Int) - 1)).f0) ≤ (rd_T64 l (i : Int)).f0 ∧ (rd_T64 l (i : Int)).f0 ≤ T) := by
          unfold mx
          by_cases h0 : i = 0
          · rw [if_pos h0]; split <;> omega
          · rw [if_neg h0]; split <;> omega
        simp only [decide_eq_false hm, Bool.false_eq_true, if_false]
        refine ev_eq (Ev.now _) ?_
        by_cases h2 : 1 ≤ (rd_T64 l (i : Int)).f0 ∧ (rd_T64 l (i : Int)).f0 ≤ T
        · have ho : (decide (i = 0) || decide ((rd_T64 l ((i : Int) - 1)).f0 ≤ (rd_T64 l (i : Int)).f0)) = false := by
            rw [← Bool.not_eq_true]
            intro x
            exact h1 ⟨h2, by simpa using x⟩
          simp only [ho, Bool.false_and, Bool.and_false]
        · simp only [decide_eq_false h2, Bool.false_and]
theorem i_HardOk (T V : Int) (l : List S64) (hl : l.length ≤ 1048576) : Ev (fun k => impl_HardOk.f k T V l) (hOk T V l) := by
  unfold impl_HardOk.f hOk
  refine ev_eq (i_hk T V l hl l.length 0 (by omega)) ?_
  rw [Bool.and_comm, Bool.and_assoc, Bool.and_assoc]

def na (o : Int) (l : List Int) : Nat → Nat → Bool
  | 0, _ => true
  | d + 1, i => decide (0 ≤ rd l (i : Int) ∧ rd l (i : Int) ≤ o - 1) && ((decide (i = 0) || decide (rd l ((i : Int) - 1) < rd l (i : Int))) && na o l d (i + 1))
theorem na_le (o : Int) (l : List Int) : ∀ (d i : Nat), na o l (d + 1) i = true → (i = 0 ∨ (i : Int) - 1 ≤ rd l ((i : Int) - 1)) → ((i + d : Nat) : Int) ≤ o - 1 := by
  intro d
  induction d with
  | zero =>
    intro i h hi
    simp only [na, Bool.and_true, Bool.and_eq_true, Bool.or_eq_true, decide_eq_true_eq] at h
    omega
  | succ d ih =>
    intro i h hi
    rw [na] at h
    simp only [Bool.and_eq_true, Bool.or_eq_true, decide_eq_true_eq] at h
    obtain ⟨h1, h2, h3⟩ := h
    have := ih (i + 1) h3 (.inr (by
      have e : ((i + 1 : Nat) : Int) - 1 = (i : Int) := by omega
      rw [e]
      omega))
    omega
theorem na_len {o : Int} {l : List Int} (h : na o l l.length 0 = true) (ho : 1 ≤ o) : (l.length : Int) ≤ o := by
  cases hl : l.length with
  | zero => omega
  | succ d =>
    rw [hl] at h
    have := na_le o l d 0 h (.inl rfl)
    omega
theorem s_na (o : Int) (ho : 1 ≤ o ∧ o ≤ 5) (l : List Int) (hl : l.length ≤ 1048576) : ∀ (d i : Nat), i + d = l.length → Ev (fun k => spec_l7Nodes.l0 k l o (i : Int)) (na o l d i) := by
  intro d
  induction d with
  | zero =>
    intro i h
    refine Ev.step (fun k => by rw [spec_l7Nodes.l0]) ?_
    simp only [if_neg (show ¬ (i : Int) < (l.length : Int) by omega)]
    exact Ev.now _
  | succ d ih =>
    intro i h
    refine Ev.step (fun k => by rw [spec_l7Nodes.l0]) ?_
    rw [w64 (o - 1) (by omega) (by omega), s_In]
    simp only [if_pos (show (i : Int) < (l.length : Int) by omega), if_pos (show 0 ≤ (i : Int) by omega), Option.bind_some]
    rw [na]
    by_cases h1 : 0 ≤ rd l (i : Int) ∧ rd l (i : Int) ≤ o - 1
    · simp only [decide_eq_true h1, if_true, Bool.true_and]
      rw [inc i (by omega)]
      by_cases h0 : i = 0
      · subst h0
        simp only [if_neg (show ¬ ((0 : Nat) : Int) > 0 by omega), decide_true, Bool.true_or, Bool.true_and]
        exact ih 1 (by omega)
      · rw [w64 ((i : Int) - 1) (by omega) (by omega)]
        simp only [if_pos (show (i : Int) > 0 by omega), if_pos (show 0 ≤ (i : Int) - 1 by omega), if_pos (show (i : Int) - 1 < (l.length : Int) by omega), decide_eq_false h0, Bool.false_or]
        by_cases h2 : rd l ((i : Int) - 1) < rd l (i : Int)
        · simp only [if_neg (show ¬ rd l ((i : Int) - 1) ≥ rd l (i : Int) by omega), decide_eq_true h2, Bool.true_and]
          exact ih (i + 1) (by omega)
        · simp only [if_pos (show rd l ((i : Int) - 1) ≥ rd l (i : Int) by omega), decide_eq_false h2, Bool.false_and]
          exact Ev.now _
    · simp only [decide_eq_false h1, Bool.false_eq_true, if_false, Bool.false_and]
      exact Ev.now _
theorem i_na (o : Int) (ho : 1 ≤ o ∧ o ≤ 5) (l : List Int) (hl : l.length ≤ 1048576) : ∀ (d i : Nat), i + d = l.length → Ev (fun k => impl_nodesAscend.l0 k l o l (l.length : Int) (i : Int)) (na o l d i) := by
  intro d
  induction d with
  | zero =>
    intro i h
    refine Ev.step (fun k => by rw [impl_nodesAscend.l0]) ?_
    simp only [if_neg (show ¬ (i : Int) < (l.length : Int) by omega)]
    exact Ev.now _
  | succ d ih =>
    intro i h
    refine Ev.step (fun k => by rw [impl_nodesAscend.l0]) ?_
    rw [w64 (o - 1) (by omega) (by omega), i_within]
    simp only [if_pos (show (i : Int) < (l.length : Int) by omega), if_pos (show 0 ≤ (i : Int) by omega), Option.bind_some]
    rw [na]
    by_cases h1 : 0 ≤ rd l (i : Int) ∧ rd l (i : Int) ≤ o - 1
    · simp only [decide_eq_true h1, if_true, Bool.true_and]
      rw [inc i (by omega)]
      by_cases h0 : i = 0
      · subst h0
        simp only [if_neg (show ¬ ((0 : Nat) : Int) > 0 by omega), decide_true, Bool.true_or, Bool.true_and]
        exact ih 1 (by omega)
      · rw [w64 ((i : Int) - 1) (by omega) (by omega)]
        simp only [if_pos (show (i : Int) > 0 by omega), if_pos (show 0 ≤ (i : Int) - 1 by omega), if_pos (show (i : Int) - 1 < (l.length : Int) by omega), decide_eq_false h0, Bool.false_or]
        by_cases h2 : rd l ((i : Int) - 1) < rd l (i : Int)
        · simp only [if_neg (show ¬ rd l ((i : Int) - 1) ≥ rd l (i : Int) by omega), decide_eq_true h2, Bool.true_and]
          exact ih (i + 1) (by omega)
        · simp only [if_pos (show rd l ((i : Int) - 1) ≥ rd l (i : Int) by omega), decide_eq_false h2, Bool.false_and]
          exact Ev.now _
    · simp only [decide_eq_false h1, Bool.false_eq_true, if_false, Bool.false_and]
      exact Ev.now _
def hs (x : Int) (l : List Int) : Nat → Nat → Bool
  | 0, _ => false
  | d + 1, i => decide (rd l (i : Int) = x) || hs x l d (i + 1)
theorem s_has (x : Int) (l : List Int) (hl : l.length ≤ 1048576) : ∀ (d i : Nat), i + d = l.length → Ev (fun k => spec_l7Has.l0 k l x (i : Int)) (hs x l d i) := by
  intro d
  induction d with
  | zero =>
    intro i h
    refine Ev.step (fun k => by rw [spec_l7Has.l0]) ?_
    simp only [if_neg (show ¬ (i : Int) < (l.length : Int) by omega)]
    exact Ev.now _
  | succ d ih =>
    intro i h
    refine Ev.step (fun k => by rw [spec_l7Has.l0]) ?_
    simp only [if_pos (show (i : Int) < (l.length : Int) by omega), if_pos (show 0 ≤ (i : Int) by omega)]
    rw [hs, inc i (by omega)]
    by_cases h1 : rd l (i : Int) = x
    · simp only [if_pos h1, decide_eq_true h1, Bool.true_or]
      exact Ev.now _
    · simp only [if_neg h1, decide_eq_false h1, Bool.false_or]
      exact ih (i + 1) (by omega)
theorem i_index (x : Int) (l : List Int) (hl : l.length ≤ 1048576) : ∀ (d i : Nat), i + d = l.length → ∃ r, Ev (fun k => slices_Index_int_int.l0 k l x (l.length : Int) (i : Int)) r ∧ decide (r ≥ 0) = hs x l d i := by
  intro d
  induction d with
  | zero =>
    intro i h
    refine ⟨-1, Ev.step (fun k => by rw [slices_Index_int_int.l0]) ?_, rfl⟩
    simp only [if_neg (show ¬ (i : Int) < (l.length : Int) by omega)]
    exact Ev.now _
  | succ d ih =>
    intro i h
    by_cases h1 : x = rd l (i : Int)
    · refine ⟨(i : Int), Ev.step (fun k => by rw [slices_Index_int_int.l0]) ?_, ?_⟩
      · simp only [if_pos (show (i : Int) < (l.length : Int) by omega), if_pos (show 0 ≤ (i : Int) by omega), if_pos h1]
        exact Ev.now _
      · rw [hs, decide_eq_true h1.symm, decide_eq_true (show (i : Int) ≥ 0 by omega)]
        rfl
    · obtain ⟨r, e, hr⟩ := ih (i + 1) (by omega)
      refine ⟨r, Ev.step (fun k => by rw [slices_Index_int_int.l0]) ?_, ?_⟩
      · simp only [if_pos (show (i : Int) < (l.length : Int) by omega), if_pos (show 0 ≤ (i : Int) by omega), if_neg h1]
        rw [inc i (by omega)]
        exact e
      · rw [hr]
        show _ = (decide (rd l (i : Int) = x) || hs x l d (i + 1))
        rw [decide_eq_false (show ¬ rd l (i : Int) = x from fun e => h1 e.symm)]
        rfl
theorem i_has (x : Int) (l : List Int) (hl : l.length ≤ 1048576) : Ev (fun k => slices_Contains_int_int.f k l x) (hs x l l.length 0) := by
  obtain ⟨r, e, hr⟩ := i_index x l hl l.length 0 (by omega)
  unfold slices_Contains_int_int.f slices_Index_int_int.f
  rw [← hr]
  exact Ev.bind e (Ev.now _)
def ni (lo hi : Int) (l : List Int) : Nat → Nat → Bool
  | 0, _ => true
  | d + 1, i => decide (lo ≤ rd l (i : Int) ∧ rd l (i : Int) ≤ hi) && ni lo hi l d (i + 1)
theorem i_ni (c lo hi : Int) (l : List Int) (hl : l.length ≤ 1048576) : Ev (fun k => impl_numbersIn.f k l c lo hi) (ni lo hi l l.length 0 && ((l.length : Int) == c)) := by
  have key : ∀ (d i : Nat), i + d = l.length → Ev (fun k => impl_numbersIn.l0 k l c lo hi l (l.length : Int) (i : Int)) (ni lo hi l d i && ((l.length : Int) == c)) := by
    intro d
    induction d with
    | zero =>
      intro i h
      refine Ev.step (fun k => by rw [impl_numbersIn.l0]) ?_
      simp only [if_neg (show ¬ (i : Int) < (l.length : Int) by omega), ni, Bool.true_and]
      exact Ev.now _
    | succ d ih =>
      intro i h
      refine Ev.step (fun k => by rw [impl_numbersIn.l0]) ?_
      simp only [if_pos (show (i : Int) < (l.length : Int) by omega), if_pos (show 0 ≤ (i : Int) by omega), i_within, Option.bind_some]
      rw [ni, inc i (by omega)]
      by_cases h1 : lo ≤ rd l (i : Int) ∧ rd l (i : Int) ≤ hi
      · simp only [decide_eq_true h1, if_true, Bool.true_and]
        exact ih (i + 1) (by omega)
      · simp only [decide_eq_false h1, Bool.false_eq_true, if_false, Bool.false_and]
        exact Ev.now _
  unfold impl_numbersIn.f
  exact key l.length 0 (by omega)
theorem s_both (id o role cm T V : Int) (log : List S64) (yes nx mt : List Int) (hlog : log.length ≤ 1048576) (n : Nat) (hn : (n : Int) = o) (hx : nx.length = n) (hm : mt.length = n) (hn2 : n ≤ 5) :
    ∀ (d i : Nat), i + d = n → Ev (fun k => spec_RaftOk.l0 k (i : Int) id o role cm T V log yes nx mt) (ni 1 ((log.length : Int) + 1) nx d i && ni 0 (log.length : Int) mt d i) := by
  intro d
  induction d with
  | zero =>
    intro i h
    refine Ev.step (fun k => by rw [spec_RaftOk.l0]) ?_
    simp only [if_neg (show ¬ (i : Int) < o by omega)]
    exact Ev.now _
  | succ d ih =>
    intro i h
    refine Ev.step (fun k => by rw [spec_RaftOk.l0]) ?_
    unfold spec_l10End.f
    simp only [if_pos (show (i : Int) < o by omega), if_pos (show 0 ≤ (i : Int) by omega), if_pos (show (i : Int) < (nx.length : Int) by omega), if_pos (show (i : Int) < (mt.length : Int) by omega), s_In, Option.bind_some]
    rw [ni, ni, inc i (by omega), w64 ((log.length : Int) + 1) (by omega) (by omega)]
    by_cases h1 : 1 ≤ rd nx (i : Int) ∧ rd nx (i : Int) ≤ (log.length : Int) + 1
    · simp only [decide_eq_true h1, if_true, Bool.true_and]
      by_cases h2 : 0 ≤ rd mt (i : Int) ∧ rd mt (i : Int) ≤ (log.length : Int)
      · simp only [decide_eq_true h2, if_true, Bool.true_and]
        exact ih (i + 1) (by omega)
      · simp only [decide_eq_false h2, Bool.false_eq_true, if_false, Bool.false_and, Bool.and_false]
        exact Ev.now _
    · simp only [decide_eq_false h1, Bool.false_eq_true, if_false, Bool.false_and]
      exact Ev.now _

def cn (o role : Int) : Int := if role = 3 then o else 0
def own (id role T V : Int) : Bool := decide (role = 1 ∨ (1 ≤ T ∧ V = id + 1))
def fin (o role : Int) (log : List S64) (nx mt : List Int) : Bool := (ni 1 ((log.length : Int) + 1) nx nx.length 0 && ((nx.length : Int) == cn o role)) && (ni 0 (log.length : Int) mt mt.length 0 && ((mt.length : Int) == cn o role))
/-- What RaftOk tells. -/
def rOk (id o role cm T V : Int) (log : List S64) (yes nx mt : List Int) : Bool :=
  decide (o = 1 ∨ o = 3 ∨ o = 5) && (decide (0 ≤ id ∧ id ≤ o - 1) && (decide (1 ≤ role ∧ role ≤ 3) && (hOk T V log && (decide (0 ≤ cm ∧ cm ≤ (log.length : Int)) &&
  (na o yes yes.length 0 && (!hs id yes yes.length 0 && (decide (role = 2 ∨ (yes.length : Int) = 0) && (own id role T V && fin o role log nx mt))))))))
theorem s_Of (o : Int) : spec_l7Of.f o = some (decide (o = 1 ∨ o = 3 ∨ o = 5)) := by
  unfold spec_l7Of.f
  by_cases h1 : o = 1
  · simp [h1]
  · by_cases h3 : o = 3
    · simp [h3]
    · rw [if_neg h1, if_neg h3]; simp only [h1, h3, false_or]; rw [Option.some.injEq, Bool.eq_iff_iff]; simp
theorem i_Of (o : Int) : impl_isOf.f o = some (decide (o = 1 ∨ o = 3 ∨ o = 5)) := by
  unfold impl_isOf.f
  by_cases h1 : o = 1
  · simp [h1]
  · by_cases h3 : o = 3
    · simp [h3]
    · rw [if_neg h1, if_neg h3]; simp only [h1, h3, false_or]; rw [Option.some.injEq, Bool.eq_iff_iff]; simp
theorem s_j1 (id o role cm T V : Int) (log : List S64) (yes nx mt : List Int) (hlog : log.length ≤ 1048576) (ho : o = 1 ∨ o = 3 ∨ o = 5) :
    Ev (fun k => spec_RaftOk.j1 k false id o role cm T V log yes nx mt) (fin o role log nx mt) := by
  refine Ev.step (fun k => by rw [spec_RaftOk.j1]) ?_
  simp only [Bool.false_eq_true, if_false]
  unfold fin cn
  by_cases h3 : role = 3
  · simp only [if_pos h3]
    by_cases hn : (nx.length : Int) = o
    · simp only [if_pos hn]
      by_cases hm : (mt.length : Int) = o
      · refine Ev.step (fun k => by rw [spec_RaftOk.j2]) ?_
        simp only [show ((mt.length : Int) != o) = false by simp [hm], Bool.false_eq_true, if_false]
        have e := s_both id o role cm T V log yes nx mt hlog nx.length hn rfl (by omega) (by omega) nx.length 0 (by omega)
        refine ev_eq e ?_
        have e2 : mt.length = nx.length := by omega
        rw [e2]
        simp [hn]
      · refine Ev.step (fun k => by rw [spec_RaftOk.j2]) ?_
        simp only [show ((mt.length : Int) != o) = true by simp [hm], if_true]
        refine ev_eq (Ev.now _) ?_
        simp [hm]
    · simp only [if_neg hn]
      refine Ev.step (fun k => by rw [spec_RaftOk.j2]) ?_
      simp only [if_true]
      refine ev_eq (Ev.now _) ?_
      simp [hn]
  · simp only [if_neg h3]
    by_cases hn : (nx.length : Int) = 0
    · simp only [if_pos hn]
      refine ev_eq (Ev.now _) ?_
      have n0 : nx.length = 0 := by omega
      rw [n0]
      by_cases hm : (mt.length : Int) = 0
      · have m0 : mt.length = 0 := by omega
        rw [m0]
        simp [ni]
      · have e : ((mt.length : Int) == 0) = false := beq_eq_false_iff_ne.mpr hm
        rw [e]
        simp
    · simp only [if_neg hn]
      refine ev_eq (Ev.now _) ?_
      have e : ((nx.length : Int) == 0) = false := beq_eq_false_iff_ne.mpr hn
      rw [e]
      simp
theorem i_j1 (id o role cm T V : Int) (log : List S64) (yes nx mt : List Int) (hlog : log.length ≤ 1048576) (hx : nx.length ≤ 1048576) (hm : mt.length ≤ 1048576) (hid : 0 ≤ id ∧ id ≤ 4) :
    Ev (fun k => impl_RaftOk.j1 k (log.length : Int) false id o role cm T V log yes nx mt) (own id role T V && fin o role log nx mt) := by
  refine Ev.step (fun k => by rw [impl_RaftOk.j1]) ?_
  rw [w64 (id + 1) (by omega) (by omega), w64 ((log.length : Int) + 1) (by omega) (by omega)]
  simp only [Bool.false_eq_true, if_false]
  have go : ∀ c : Int, cn o role = c → Ev (fun k => (impl_numbersIn.f k nx c 1 ((log.length : Int) + 1)).bind fun t239 => (if t239 = true then ((impl_numbersIn.f k mt c 0 (log.length : Int)).bind fun t240 => (some t240)) else (some false))) (fin o role log nx mt) := by
    intro c hc
    unfold fin
    rw [hc]
    refine Ev.bind (i_ni c _ _ nx hx) ?_
    cases (ni 1 ((log.length : Int) + 1) nx nx.length 0 && ((nx.length : Int) == c))
    · simp only [Bool.false_eq_true, if_false, Bool.false_and]
      exact Ev.now _
    · simp only [if_true, Bool.true_and]
      exact Ev.bind (i_ni c _ _ mt hm) (Ev.now _)
  have no : own id role T V = false → Ev (fun _ : Nat => some false) (own id role T V && fin o role log nx mt) := by
    intro h
    rw [h, Bool.false_and]
    exact Ev.now _
  unfold own at *
  by_cases h1 : role = 1
  · have ow : decide (role = 1 ∨ (1 ≤ T ∧ V = id + 1)) = true := decide_eq_true (.inl h1)
    rw [ow, Bool.true_and]
    simp only [if_neg (show ¬ role = 3 by omega), if_pos h1]
    exact go 0 (by unfold cn; rw [if_neg (by omega)])
  · by_cases hT : T ≥ 1
    · by_cases hV : V = id + 1
      · have ow : decide (role = 1 ∨ (1 ≤ T ∧ V = id + 1)) = true := decide_eq_true (.inr ⟨hT, hV⟩)
        rw [ow, Bool.true_and]
        simp only [if_neg h1, if_pos hT, if_pos hV]
        by_cases h3 : role = 3
        · simp only [if_pos h3]
          exact go o (by unfold cn; rw [if_pos h3])
        · simp only [if_neg h3]
          exact go 0 (by unfold cn; rw [if_neg h3])
      · simp only [if_neg h1, if_pos hT, if_neg hV, ite_self]
        exact no (decide_eq_false (by omega))
    · simp only [if_neg h1, if_neg hT, ite_self]
      exact no (decide_eq_false (by omega))

theorem s_j0 (id o role cm T V : Int) (log : List S64) (yes nx mt : List Int) (hlog : log.length ≤ 1048576) (ho : o = 1 ∨ o = 3 ∨ o = 5) (hid : 0 ≤ id ∧ id ≤ 4) (b : Bool) :
    Ev (fun k => spec_RaftOk.j0 k b id o role cm T V log yes nx mt) (!b && (decide (role = 2 ∨ (yes.length : Int) = 0) && (own id role T V && fin o role log nx mt))) := by
  have j1t : Ev (fun k => spec_RaftOk.j1 k true id o role cm T V log yes nx mt) false := by
    refine Ev.step (fun k => by rw [spec_RaftOk.j1]) ?_
    simp only [if_true]
    exact Ev.now _
  cases b
  · refine Ev.step (fun k => by rw [spec_RaftOk.j0]) ?_
    rw [w64 (id + 1) (by omega) (by omega)]
    simp only [Bool.false_eq_true, if_false, Bool.not_false, Bool.true_and]
    have tail : ¬ role = 1 → Ev (fun k => if T < 1 then (spec_RaftOk.j1 k true id o role cm T V log yes nx mt) else (spec_RaftOk.j1 k (V != id + 1) id o role cm T V log yes nx mt)) (own id role T V && fin o role log nx mt) := by
      intro h1
      unfold own
      by_cases hT : T < 1
      · simp only [if_pos hT, decide_eq_false (show ¬ (role = 1 ∨ 1 ≤ T ∧ V = id + 1) by omega), Bool.false_and]
        exact j1t
      · simp only [if_neg hT]
        by_cases hV : V = id + 1
        · simp only [show (V != id + 1) = false by simp [hV], decide_eq_true (show (role = 1 ∨ 1 ≤ T ∧ V = id + 1) by omega), Bool.true_and]
          exact s_j1 id o role cm T V log yes nx mt hlog ho
        · simp only [show (V != id + 1) = true by simp [hV], decide_eq_false (show ¬ (role = 1 ∨ 1 ≤ T ∧ V = id + 1) by omega), Bool.false_and]
          exact j1t
    by_cases h2 : role = 2
    · simp only [if_pos h2, if_neg (show ¬ role = 1 by omega), decide_eq_true (show role = 2 ∨ (yes.length : Int) = 0 from .inl h2), Bool.true_and]
      exact tail (by omega)
    · simp only [if_neg h2]
      by_cases hy : (yes.length : Int) > 0
      · simp only [if_pos hy, decide_eq_false (show ¬ (role = 2 ∨ (yes.length : Int) = 0) by omega), Bool.false_and]
        exact j1t
      · simp only [if_neg hy, decide_eq_true (show (role = 2 ∨ (yes.length : Int) = 0) by omega), Bool.true_and]
        by_cases h1 : role = 1
        · simp only [if_pos h1]
          unfold own
          rw [decide_eq_true (show (role = 1 ∨ 1 ≤ T ∧ V = id + 1) from .inl h1), Bool.true_and]
          exact s_j1 id o role cm T V log yes nx mt hlog ho
        · simp only [if_neg h1]
          exact tail h1
  · refine Ev.step (fun k => by rw [spec_RaftOk.j0]) ?_
    simp only [if_true, Bool.not_true, Bool.false_and]
    exact Ev.now _
theorem i_j0 (id o role cm T V : Int) (log : List S64) (yes nx mt : List Int) (hlog : log.length ≤ 1048576) (hy : yes.length ≤ 1048576) (hx : nx.length ≤ 1048576) (hm : mt.length ≤ 1048576) (ho : o = 1 ∨ o = 3 ∨ o = 5) (hid : 0 ≤ id ∧ id ≤ 4) :
    Ev (fun k => impl_RaftOk.j0 k (log.length : Int) false id o role cm T V log yes nx mt) (na o yes yes.length 0 && (!hs id yes yes.length 0 && (decide (role = 2 ∨ (yes.length : Int) = 0) && (own id role T V && fin o role log nx mt)))) := by
  have j1t : Ev (fun k => impl_RaftOk.j1 k (log.length : Int) true id o role cm T V log yes nx mt) false := by
    refine Ev.step (fun k => by rw [impl_RaftOk.j1]) ?_
    simp only [if_true]
    exact Ev.now _
  have j1f := i_j1 id o role cm T V log yes nx mt hlog hx hm hid
  refine Ev.step (fun k => by rw [impl_RaftOk.j0]) ?_
  simp only [Bool.false_eq_true, if_false]
  have en : Ev (fun k => impl_nodesAscend.f k yes o) (na o yes yes.length 0) := by
    unfold impl_nodesAscend.f
    exact i_na o (by omega) yes hy yes.length 0 (by omega)
  refine Ev.bind en ?_
  cases na o yes yes.length 0
  · simp only [Bool.false_eq_true, if_false, Bool.false_and]
    exact j1t
  · simp only [if_true, Bool.true_and]
    refine Ev.bind (i_has id yes hy) ?_
    cases hs id yes yes.length 0
    · simp only [Bool.false_eq_true, if_false, Bool.not_false, Bool.true_and]
      by_cases h : (yes.length : Int) > 0
      · simp only [if_pos h]
        by_cases h2 : role = 2
        · simp only [show (role != 2) = false by simp [h2], decide_eq_true (show role = 2 ∨ (yes.length : Int) = 0 from .inl h2), Bool.true_and]
          exact j1f
        · simp only [show (role != 2) = true by simp [h2], decide_eq_false (show ¬ (role = 2 ∨ (yes.length : Int) = 0) by omega), Bool.false_and]
          exact j1t
      · simp only [if_neg h, decide_eq_true (show role = 2 ∨ (yes.length : Int) = 0 by omega), Bool.true_and]
        exact j1f
    · simp only [if_true, Bool.not_true, Bool.false_and]
      exact j1t
theorem s_RaftOk (id o role cm T V : Int) (log : List S64) (yes nx mt : List Int) (hlog : log.length ≤ 1048576) (hy : yes.length ≤ 1048576) : Ev (fun k => spec_RaftOk.f k id o role cm T V log yes nx mt) (rOk id o role cm T V log yes nx mt) := by
  have no : Ev (fun k => spec_RaftOk.j0 k true id o role cm T V log yes nx mt) false := by
    refine Ev.step (fun k => by rw [spec_RaftOk.j0]) ?_
    simp only [if_true]
    exact Ev.now _
  unfold spec_RaftOk.f rOk
  rw [s_Of]
  simp only [Option.bind_some]
  by_cases h1 : o = 1 ∨ o = 3 ∨ o = 5
  · rw [w64 (o - 1) (by omega) (by omega), s_In, s_In]
    simp only [decide_eq_true h1, if_true, Bool.true_and, Option.bind_some]
    by_cases h2 : 0 ≤ id ∧ id ≤ o - 1
    · simp only [decide_eq_true h2, if_true, Bool.true_and]
      by_cases h3 : 1 ≤ role ∧ role ≤ 3
      · simp only [decide_eq_true h3, if_true, Bool.true_and]
        refine Ev.bind (s_HardOk T V log hlog) ?_
        cases hOk T V log
        · simp only [Bool.false_eq_true, if_false, Bool.false_and]
          exact no
        · unfold spec_l10End.f
          simp only [if_true, Bool.true_and, Option.bind_some, s_In]
          by_cases h4 : 0 ≤ cm ∧ cm ≤ (log.length : Int)
          · simp only [decide_eq_true h4, if_true, Bool.true_and]
            by_cases h5 : (yes.length : Int) > o
            · simp only [if_pos h5]
              have : na o yes yes.length 0 = false := by
                rw [← Bool.not_eq_true]
                intro h
                have := na_len h (by omega)
                omega
              rw [this, Bool.false_and]
              exact no
            · simp only [if_neg h5]
              have en : Ev (fun k => spec_l7Nodes.f k yes o) (na o yes yes.length 0) := by
                unfold spec_l7Nodes.f
                exact s_na o (by omega) yes hy yes.length 0 (by omega)
              refine Ev.bind en ?_
              cases na o yes yes.length 0
              · simp only [Bool.false_eq_true, if_false, Bool.false_and]
                exact no
              · simp only [if_true, Bool.true_and]
                have eh : Ev (fun k => spec_l7Has.f k yes id) (hs id yes yes.length 0) := by
                  unfold spec_l7Has.f
                  exact s_has id yes hy yes.length 0 (by omega)
                exact Ev.bind eh (s_j0 id o role cm T V log yes nx mt hlog h1 (by omega) _)
          · simp only [decide_eq_false h4, Bool.false_eq_true, if_false, Bool.false_and]
            exact no
      · simp only [decide_eq_false h3, Bool.false_eq_true, if_false, Bool.false_and]
        exact no
    · simp only [decide_eq_false h2, Bool.false_eq_true, if_false, Bool.false_and]
      exact no
  · simp only [decide_eq_false h1, Bool.false_eq_true, if_false, Bool.false_and]
    exact no
theorem i_RaftOk (id o role cm T V : Int) (log : List S64) (yes nx mt : List Int) (hlog : log.length ≤ 1048576) (hy : yes.length ≤ 1048576) (hx : nx.length ≤ 1048576) (hm : mt.length ≤ 1048576) : Ev (fun k => impl_RaftOk.f k id o role cm T V log yes nx mt) (rOk id o role cm T V log yes nx mt) := by
  have no : Ev (fun k => impl_RaftOk.j0 k (log.length : Int) true id o role cm T V log yes nx mt) false := by
    refine Ev.step (fun k => by rw [impl_RaftOk.j0]) ?_
    simp only [if_true]
    exact Ev.now _
  unfold impl_RaftOk.f rOk
  rw [i_Of]
  simp only [Option.bind_some]
  by_cases h1 : o = 1 ∨ o = 3 ∨ o = 5
  · rw [w64 (o - 1) (by omega) (by omega), i_within, i_within]
    simp only [decide_eq_true h1, if_true, Bool.true_and, Option.bind_some]
    by_cases h2 : 0 ≤ id ∧ id ≤ o - 1
    · simp only [decide_eq_true h2, if_true, Bool.true_and]
      by_cases h3 : 1 ≤ role ∧ role ≤ 3
      · simp only [decide_eq_true h3, if_true, Bool.true_and]
        refine Ev.bind (i_HardOk T V log hlog) ?_
        cases hOk T V log
        · simp only [Bool.false_eq_true, if_false, Bool.false_and]
          exact no
        · simp only [if_true, Bool.true_and, Option.bind_some, i_within]
          by_cases h4 : 0 ≤ cm ∧ cm ≤ (log.length : Int)
          · simp only [decide_eq_true h4, Bool.not_true, Bool.true_and]
            exact i_j0 id o role cm T V log yes nx mt hlog hy hx hm h1 (by omega)
          · simp only [decide_eq_false h4, Bool.not_false, Bool.false_and]
            exact no
      · simp only [decide_eq_false h3, Bool.false_eq_true, if_false, Bool.false_and]
        exact no
    · simp only [decide_eq_false h2, Bool.false_eq_true, if_false, Bool.false_and]
      exact no
  · simp only [decide_eq_false h1, Bool.false_eq_true, if_false, Bool.false_and]
    exact no

theorem eq_ints (l : List Int) (hl : l.length ≤ 10000000000000) : Ev (fun k => laws_eqIntS.f k l l) true := by
  unfold laws_eqIntS.f
  simp only [if_true]
  have key := up_ind l.length (fun i => Ev (fun k => laws_eqIntS.l0 k l l (i : Int)) true)
    (by
      refine Ev.step (fun k => by rw [laws_eqIntS.l0]) ?_
      simp only [Int.lt_irrefl, if_false]
      exact Ev.now _)
    (by
      intro i hi ih
      refine Ev.step (fun k => by rw [laws_eqIntS.l0]) ?_
      simp only [if_pos (show (i : Int) < (l.length : Int) by omega), if_pos (show 0 ≤ (i : Int) by omega), if_true]
      rw [inc i (by omega)]
      exact ih)
  exact key 0 (by omega)
theorem eq_raft (id o role cm T V : Int) (log : List S64) (yes nx mt : List Int) (h1 : log.length ≤ 1048576) (h2 : yes.length ≤ 1048576) (h3 : nx.length ≤ 1048576) (h4 : mt.length ≤ 1048576) :
    Ev (fun k => laws_eqRaft.f k id o role cm T V log yes nx mt id o role cm T V log yes nx mt) true := by
  unfold laws_eqRaft.f laws_eqHard.f
  simp only [if_true]
  have e : Ev (fun k => (laws_eqEntryS.f k log log).bind fun t257 => if t257 = true then some true else some false) true := by
    refine Ev.bind (eq_entries log h1) ?_
    simp only [if_true]
    exact Ev.now _
  refine Ev.bind e ?_
  simp only [if_true]
  refine Ev.bind (eq_ints yes (by omega)) ?_
  simp only [if_true]
  refine Ev.bind (eq_ints nx (by omega)) ?_
  simp only [if_true]
  refine Ev.bind (eq_ints mt (by omega)) ?_
  simp only [if_true]
  exact Ev.now _
theorem strOfNums_size (l : List Int) : (strOfNums l).size = l.length := by
  unfold strOfNums
  simp [ByteArray.size]
theorem mark_l : ∀ (m : Nat) (x : Int) (s : ByteArray), x ≤ m → 0 ≤ x → x ≤ 1000000000000 → s.size + m ≤ 1000000000000000 → ∃ t, Ev (fun k => laws_markText.l0 k x s) t := by
  intro m
  induction m with
  | zero =>
    intro x s h1 h2 h3 h4
    refine ex_step (fun k => by rw [laws_markText.l0]) ?_
    simp only [if_neg (show ¬ x > 0 by omega), if_pos (show 1 + s.size ≤ 9223372036854775807 by omega)]
    exact ⟨_, Ev.now _⟩
  | succ m ih =>
    intro x s h1 h2 h3 h4
    refine ex_step (fun k => by rw [laws_markText.l0]) ?_
    by_cases hx : x > 0
    · have hz : (strOfNums [(wrap64 (48 + (Int.tmod x 10))) % 256]).size = 1 := strOfNums_size _
      simp only [if_pos hx, Option.bind_some, if_pos (show (strOfNums [(wrap64 (48 + (Int.tmod x 10))) % 256]).size + s.size ≤ 9223372036854775807 by omega)]
      rw [Int.tdiv_eq_ediv_of_nonneg h2, w64 (x / 10) (by omega) (by omega)]
      exact ih _ _ (by omega) (by omega) (by omega) (by rw [ByteArray.size_append, hz]; omega)
    · simp only [if_neg hx, if_pos (show 1 + s.size ≤ 9223372036854775807 by omega)]
      exact ⟨_, Ev.now _⟩
theorem mark_ex (n : Nat) : ∃ t, 1 ≤ n → n ≤ 100000000000 → Ev (fun k => laws_markText.f k (n : Int)) t := by
  by_cases h : 1 ≤ n ∧ n ≤ 100000000000
  · obtain ⟨t, e⟩ := mark_l n (n : Int) (⟨#[]⟩ : ByteArray) (by omega) (by omega) (by omega) (by show 0 + n ≤ _; omega)
    refine ⟨t, fun _ _ => ?_⟩
    unfold laws_markText.f
    simp only [if_neg (show ¬ (n : Int) ≤ 0 by omega)]
    exact e
  · exact ⟨ByteArray.empty, fun h1 h2 => absurd ⟨h1, h2⟩ h⟩
/-- The text that marks n. -/
noncomputable def mt (n : Nat) : ByteArray := Classical.choose (mark_ex n)
theorem mt_ev (n : Nat) (h1 : 1 ≤ n) (h2 : n ≤ 100000000000) : Ev (fun k => laws_markText.f k (n : Int)) (mt n) := Classical.choose_spec (mark_ex n) h1 h2
theorem sz_hard (T V : Int) (log : List S70) (h1 : log.length ≤ 9223372036854775807) (hs : ∀ x ∈ log, x.f1.f4.size ≤ 9223372036854775807) :
    ∃ r, Ev (fun k => laws_szHard.f k T V log 1048576) r ∧ (¬ r < 0 → log.length ≤ 1048576) := by
  unfold laws_szHard.f
  obtain ⟨r1, e1, l1, m1⟩ := sz_entries log 1048576 (by omega) (by omega) h1 hs
  by_cases c1 : r1 < 0
  · refine ⟨-1, Ev.bind e1 ?_, by omega⟩
    simp only [if_pos c1]; exact Ev.now _
  · refine ⟨r1, Ev.bind e1 ?_, fun _ => l1 (by omega)⟩
    simp only [if_neg c1]; exact Ev.now _
theorem to_hard (T V : Int) (log : List S70) (h1 : log.length ≤ 1048576) : Ev (fun k => laws_toHard.f k T V log) (T, V, log.map cvE) := by
  unfold laws_toHard.f
  exact Ev.bind (to_entries log h1) (Ev.now _)
theorem eq_hard (T V : Int) (log : List S64) (h1 : log.length ≤ 1048576) : Ev (fun k => laws_eqHard.f k T V log T V log) true := by
  unfold laws_eqHard.f
  simp only [if_true]
  refine Ev.bind (eq_entries log h1) ?_
  simp only [if_true]
  exact Ev.now _
abbrev RN := Int × Int × Int × Int × Int × Int × (List S64) × List Int × List Int × List Int × Bool
/-- What RaftNew tells. -/
noncomputable def rNew (id o T V : Int) (log : List S64) : RN :=
  if rOk id o 1 0 T V log [] [] [] = true then (id, o, 1, 0, T, V, log, [], [], [], true) else (0, 0, 0, 0, 0, 0, [], [], [], [], false)
theorem s_RaftNew (id o T V : Int) (log : List S64) (h1 : log.length ≤ 1048576) : Ev (fun k => spec_RaftNew.f k id o T V log) (rNew id o T V log) := by
  unfold spec_RaftNew.f spec_l6Copy.f rNew
  simp only [Option.bind_some, List.length_nil, List.nil_append, if_pos (show 0 + log.length < 2513169434916 by omega)]
  refine Ev.bind (s_RaftOk id o 1 0 T V log [] [] [] h1 (by simp)) ?_
  exact Ev.congr (fun _ => by split <;> rfl) (Ev.now _)
theorem i_RaftNew (id o T V : Int) (log : List S64) (h1 : log.length ≤ 1048576) : Ev (fun k => impl_RaftNew.f k id o T V log) (rNew id o T V log) := by
  unfold impl_RaftNew.f impl_copyHard.f impl_copyLog.f rNew
  simp only [Option.bind_some, List.length_nil, List.nil_append, if_pos (show 0 + log.length < 2513169434916 by omega)]
  refine Ev.bind (i_RaftOk id o 1 0 T V log [] [] [] h1 (by simp) (by simp) (by simp)) ?_
  exact Ev.congr (fun _ => by split <;> rfl) (Ev.now _)
theorem rNew_len (id o T V : Int) (log : List S64) (h1 : log.length ≤ 1048576) : (rNew id o T V log).2.2.2.2.2.2.1.length ≤ 1048576 ∧ (rNew id o T V log).2.2.2.2.2.2.2.1 = [] ∧ (rNew id o T V log).2.2.2.2.2.2.2.2.1 = [] ∧ (rNew id o T V log).2.2.2.2.2.2.2.2.2.1 = [] := by
  unfold rNew
  split
  · exact ⟨h1, rfl, rfl, rfl⟩
  · exact ⟨by simp, rfl, rfl, rfl⟩
noncomputable def mkE (j : Nat) : S64 := ⟨((1 + 6 * j : Nat) : Int), ⟨((2 + 6 * j : Nat) : Int), ((3 + 6 * j : Nat) : Int), ((4 + 6 * j : Nat) : Int), ((5 + 6 * j : Nat) : Int), mt (6 + 6 * j)⟩⟩
theorem inc1 (n m : Nat) (h : n + 1 = m) (h2 : n < 1000000000000000) : wrap64 ((n : Int) + 1) = (m : Int) := by rw [inc n h2, h]
theorem rd_set (ys : List S64) (i : Nat) (v : S64) (h : i < ys.length) : rd_T64 (ys.set i v) (i : Int) = v := by
  unfold rd_T64
  simp [List.getD, h]
theorem mk_entries (l : List S64) (hl : l.length ≤ 1048576) : Ev (fun k => laws_markEntryS.f k l 1) (((1 + 6 * l.length : Nat) : Int), (List.range l.length).map mkE) := by
  unfold laws_markEntryS.f
  have key := up_ind l.length (fun i => ∀ ys : List S64, ys.length = l.length → (∀ j, j < i → ys[j]? = some (mkE j)) → Ev (fun k => laws_markEntryS.l0 k ys ((1 + 6 * i : Nat) : Int) (i : Int)) (((1 + 6 * l.length : Nat) : Int), (List.range l.length).map mkE))
    (by
      intro ys hy h
      refine Ev.step (fun k => by rw [laws_markEntryS.l0]) ?_
      simp only [hy, Int.lt_irrefl, if_false]
      rw [eq_fill mkE l.length ys hy h]
      exact Ev.now _)
    (by
      intro i hi ih ys hy h
      have hiy : i < ys.length := by omega
      refine Ev.step (fun k => by rw [laws_markEntryS.l0]) ?_
      simp only [if_pos (show (i : Int) < (ys.length : Int) by omega), if_pos (show 0 ≤ (i : Int) by omega), Int.toNat_natCast]
      rw [inc1 (1 + 6 * i) (2 + 6 * i) (by omega) (by omega), inc1 (2 + 6 * i) (3 + 6 * i) (by omega) (by omega), inc1 (3 + 6 * i) (4 + 6 * i) (by omega) (by omega), inc1 (4 + 6 * i) (5 + 6 * i) (by omega) (by omega), inc1 (5 + 6 * i) (6 + 6 * i) (by omega) (by omega), inc1 (6 + 6 * i) (1 + 6 * (i + 1)) (by omega) (by omega), inc i (by omega)]
      refine Ev.bind (Ev.now _) ?_
      refine Ev.bind (Ev.now _) ?_
      simp only [rd_set ys i _ hiy, List.set_set]
      refine Ev.bind (Ev.now _) ?_
      simp only [rd_set ys i _ hiy, List.set_set]
      refine Ev.bind (Ev.now _) ?_
      simp only [rd_set ys i _ hiy, List.set_set]
      refine Ev.bind (Ev.now _) ?_
      simp only [rd_set ys i _ hiy, List.set_set]
      refine Ev.bind (mt_ev (6 + 6 * i) (by omega) (by omega)) ?_
      exact ih _ (by rw [List.length_set]; exact hy) (set_fill mkE i ys h (by omega)))
  exact key 0 (by omega) l rfl (fun j hj => by omega)
theorem hd_entries (n : Nat) (hl : n ≤ 1048576) : Ev (fun k => laws_heldEntryS.f k ((List.range n).map mkE) 1) ((1 + 6 * n : Nat) : Int) := by
  unfold laws_heldEntryS.f
  have hn : ((List.range n).map mkE).length = n := by simp
  have key := up_ind n (fun i => Ev (fun k => laws_heldEntryS.l0 k ((List.range n).map mkE) ((1 + 6 * i : Nat) : Int) (i : Int)) ((1 + 6 * n : Nat) : Int))
    (by
      refine Ev.step (fun k => by rw [laws_heldEntryS.l0]) ?_
      simp only [hn, Int.lt_irrefl, if_false]
      exact Ev.now _)
    (by
      intro i hi ih
      have e : rd_T64 ((List.range n).map mkE) (i : Int) = mkE i := by
        unfold rd_T64
        simp [List.getD, hi]
      refine Ev.step (fun k => by rw [laws_heldEntryS.l0]) ?_
      simp only [hn, if_pos (show (i : Int) < (n : Int) by omega), if_pos (show 0 ≤ (i : Int) by omega), e]
      rw [inc1 (1 + 6 * i) (2 + 6 * i) (by omega) (by omega), inc1 (2 + 6 * i) (3 + 6 * i) (by omega) (by omega), inc1 (3 + 6 * i) (4 + 6 * i) (by omega) (by omega), inc1 (4 + 6 * i) (5 + 6 * i) (by omega) (by omega), inc1 (5 + 6 * i) (6 + 6 * i) (by omega) (by omega), inc1 (6 + 6 * i) (1 + 6 * (i + 1)) (by omega) (by omega), inc i (by omega)]
      simp only [mkE, if_true]
      refine Ev.bind (mt_ev (6 + 6 * i) (by omega) (by omega)) ?_
      simp only [if_true]
      exact ih)
  exact key 0 (by omega)
theorem mk_nil (k : Nat) (a : Int) : laws_markIntS.f (k + 1) [] a = some (a, []) := by
  unfold laws_markIntS.f
  rw [laws_markIntS.l0]
  rfl
theorem hd_nil (k : Nat) (a : Int) : laws_heldIntS.f (k + 1) [] a = some a := by
  unfold laws_heldIntS.f
  rw [laws_heldIntS.l0]
  rfl
theorem mk_nilE (a : Int) : Ev (fun k => laws_markIntS.f k [] a) (a, []) := Ev.step (fun k => mk_nil k a) (Ev.now _)
theorem hd_nilE (a : Int) : Ev (fun k => laws_heldIntS.f k [] a) a := Ev.step (fun k => hd_nil k a) (Ev.now _)
theorem mk_hard (T V : Int) (l : List S64) (hl : l.length ≤ 1048576) : Ev (fun k => laws_markHard.f k T V l 1) (((1 + 6 * l.length : Nat) : Int), (List.range l.length).map mkE) := by
  unfold laws_markHard.f
  exact Ev.bind (mk_entries l hl) (Ev.now _)
theorem hd_hard (T V : Int) (n : Nat) (hl : n ≤ 1048576) : Ev (fun k => laws_heldHard.f k T V ((List.range n).map mkE) 1) ((1 + 6 * n : Nat) : Int) := by
  unfold laws_heldHard.f
  refine Ev.bind (hd_entries n hl) ?_
  simp only [if_neg (show ¬ (((1 + 6 * n : Nat) : Int) < 0) by omega)]
  exact Ev.now _
theorem mk_raft (a b c d T V : Int) (l : List S64) (hl : l.length ≤ 1048576) : Ev (fun k => laws_markRaft.f k a b c d T V l [] [] [] 1) (((1 + 6 * l.length : Nat) : Int), (List.range l.length).map mkE, [], [], []) := by
  unfold laws_markRaft.f
  exact Ev.bind (mk_hard T V l hl) (Ev.bind (mk_nilE _) (Ev.bind (mk_nilE _) (Ev.bind (mk_nilE _) (Ev.now _))))
theorem hd_raft (a b c d T V : Int) (n : Nat) (hl : n ≤ 1048576) : Ev (fun k => laws_heldRaft.f k a b c d T V ((List.range n).map mkE) [] [] [] 1) ((1 + 6 * n : Nat) : Int) := by
  unfold laws_heldRaft.f
  have h : ¬ (((1 + 6 * n : Nat) : Int) < 0) := by omega
  refine Ev.bind (hd_hard T V n hl) ?_
  simp only [if_neg h]
  refine Ev.bind (hd_nilE _) ?_
  simp only [if_neg h]
  refine Ev.bind (hd_nilE _) ?_
  simp only [if_neg h]
  refine Ev.bind (hd_nilE _) ?_
  simp only [if_neg h]
  exact Ev.now _

end Go.Proofs.Ytahhigniaepgeaa.Pure
namespace Go.Proofs.Ytahhigniaepgeaa.QFnExactRaftNew
open Go.RowKit Go.Proofs.YtahhigniaepgeaaW.PrintWords Go.Proofs.YtahhigniaepgeaaW.PrintLast Go.Proofs.YtahhigniaepgeaaW.PrintMore Go.Proofs.Ytahhigniaepgeaa.Pure
set_option linter.unusedVariables false
set_option linter.unusedSimpArgs false
abbrev X24 := Int × Int × List S70
abbrev X32 := Int × Int × List S64
def M24 (w : World) (x : X24) (cs : Array Value) : Prop := ∃ (A : Option Addr) (c : Nat), cs = #[.int .i64 x.1, .int .i64 x.2.1, .slice A x.2.2.length c] ∧ x.2.2.length ≤ c ∧ Kd.C k70 w A x.2.2.length x.2.2
theorem M24.below {w w' : World} {x : X24} {cs : Array Value} (h : M24 w x cs) (hb : Below w.heap.size w w') : M24 w' x cs := by
  obtain ⟨A, c, e, hc, hr⟩ := h
  exact ⟨A, c, e, hc, Kd.C_below hr hb⟩
theorem M24.sz {w : World} {x : X24} {cs : Array Value} (h : M24 w x cs) : (Try.prog.info? 24).map (·.size) = some cs.size := by
  obtain ⟨A, c, rfl, hc, hr⟩ := h
  exact (show (Try.prog.info? 24).map (·.size) = some 3 by kernel_rfl)
theorem R_one {α : Type} {d : Kd α} {e base : Nat} {ok : Nat → Prop} {w : World} {v : Value} {xs : List α} (h : Kd.R d e w base ok v xs) : v.oneCell' = true := by
  obtain ⟨A, c, rfl, _, _⟩ := Kd.R_reads h
  rfl
/-- A Hard of the call's own. -/
def O32 (W : World) (b : Nat) (ok : Nat → Prop) (x : X32) (cs : Array Value) : Prop := ∃ v, cs = #[.int .i64 x.1, .int .i64 x.2.1, v] ∧ Kd.R k64 64 W b ok v x.2.2
theorem O32.sz {w : World} {b : Nat} {ok : Nat → Prop} {x : X32} {cs : Array Value} (h : O32 w b ok x cs) : (Try.prog.info? 32).map (·.size) = some cs.size := by
  obtain ⟨v, rfl, hr⟩ := h
  exact (show (Try.prog.info? 32).map (·.size) = some 3 by kernel_rfl)
theorem O32.size {w : World} {b : Nat} {ok : Nat → Prop} {x : X32} {cs : Array Value} (h : O32 w b ok x cs) : cs.size = 3 := by
  obtain ⟨v, rfl, hr⟩ := h
  rfl
theorem O32.one {w : World} {b : Nat} {ok : Nat → Prop} {x : X32} {cs : Array Value} (h : O32 w b ok x cs) : cs.all (·.oneCell') = true := by
  obtain ⟨v, rfl, hr⟩ := h
  obtain ⟨A, c, rfl, _, _⟩ := Kd.R_reads hr
  simp [Value.oneCell']
theorem O32.below {w w' : World} {b : Nat} {ok : Nat → Prop} {x : X32} {cs : Array Value} (h : O32 w b ok x cs) (hb : Below w.heap.size w w') : O32 w' b ok x cs := by
  obtain ⟨v, e, hr⟩ := h
  exact ⟨v, e, Kd.R_below hr hb⟩
theorem O32.mono {w : World} {b b' : Nat} {ok ok' : Nat → Prop} {x : X32} {cs : Array Value} (h : O32 w b ok x cs) (hb : b' ≤ b) (hk : ∀ k, ok k → b ≤ k → k < w.heap.size → ok' k) : O32 w b' ok' x cs := by
  obtain ⟨v, e, hr⟩ := h
  exact ⟨v, e, Kd.R_lower (Kd.R_mono (Kd.R_bound hr) (fun k h => hk k h.1 h.2.1 h.2.2.1)) hb⟩
abbrev RN := Go.Proofs.Ytahhigniaepgeaa.Pure.RN
/-- A Raft of the call's own. -/
def O34 (W : World) (b : Nat) (ok : Nat → Prop) (x : RN) (cs : Array Value) : Prop := ∃ v6 v7 v8 v9 : Value, cs = #[.int .i64 x.1, .int .i64 x.2.1, .int .i64 x.2.2.1, .int .i64 x.2.2.2.1, .int .i64 x.2.2.2.2.1, .int .i64 x.2.2.2.2.2.1, v6, v7, v8, v9] ∧ Kd.R k64 64 W b ok v6 x.2.2.2.2.2.2.1 ∧ Kd.R (Kd.int .i64) 3 W b (fun k => ok k ∧ some k ≠ v8.ownBlock ∧ some k ≠ v9.ownBlock) v7 x.2.2.2.2.2.2.2.1 ∧ Kd.R (Kd.int .i64) 3 W b (fun k => ok k ∧ some k ≠ v7.ownBlock ∧ some k ≠ v9.ownBlock) v8 x.2.2.2.2.2.2.2.2.1 ∧ Kd.R (Kd.int .i64) 3 W b (fun k => ok k ∧ some k ≠ v7.ownBlock ∧ some k ≠ v8.ownBlock) v9 x.2.2.2.2.2.2.2.2.2.1
theorem O34.sz {w : World} {b : Nat} {ok : Nat → Prop} {x : RN} {cs : Array Value} (h : O34 w b ok x cs) : (Try.prog.info? 34).map (·.size) = some cs.size := by
  obtain ⟨v6, v7, v8, v9, rfl, _⟩ := h
  exact (show (Try.prog.info? 34).map (·.size) = some 10 by kernel_rfl)
theorem O34.size {w : World} {b : Nat} {ok : Nat → Prop} {x : RN} {cs : Array Value} (h : O34 w b ok x cs) : cs.size = 10 := by
  obtain ⟨v6, v7, v8, v9, rfl, _⟩ := h
  rfl
theorem O34.one {w : World} {b : Nat} {ok : Nat → Prop} {x : RN} {cs : Array Value} (h : O34 w b ok x cs) : cs.all (·.oneCell') = true := by
  obtain ⟨v6, v7, v8, v9, rfl, h6, h7, h8, h9⟩ := h
  obtain ⟨A6, c6, rfl, _, _⟩ := Kd.R_reads h6
  obtain ⟨A7, c7, rfl, _, _⟩ := Kd.R_reads h7
  obtain ⟨A8, c8, rfl, _, _⟩ := Kd.R_reads h8
  obtain ⟨A9, c9, rfl, _, _⟩ := Kd.R_reads h9
  simp [Value.oneCell']
theorem O34.below {w w' : World} {b : Nat} {ok : Nat → Prop} {x : RN} {cs : Array Value} (h : O34 w b ok x cs) (hb : Below w.heap.size w w') : O34 w' b ok x cs := by
  obtain ⟨v6, v7, v8, v9, e, h6, h7, h8, h9⟩ := h
  exact ⟨v6, v7, v8, v9, e, Kd.R_below h6 hb, Kd.R_below h7 hb, Kd.R_below h8 hb, Kd.R_below h9 hb⟩
theorem O34.kept {w w' : World} {b : Nat} {ok S : Nat → Prop} {x : RN} {cs : Array Value} (h : O34 w b ok x cs) (hk : Kept w w' S) (hne : ∀ k, ok k → ¬ S k) : O34 w' b ok x cs := by
  obtain ⟨v6, v7, v8, v9, e, h6, h7, h8, h9⟩ := h
  exact ⟨v6, v7, v8, v9, e, Kd.R_kept h6 hk hne, Kd.R_kept h7 hk (fun k h => hne k h.1), Kd.R_kept h8 hk (fun k h => hne k h.1), Kd.R_kept h9 hk (fun k h => hne k h.1)⟩
theorem O34.mono {w : World} {b b' : Nat} {ok ok' : Nat → Prop} {x : RN} {cs : Array Value} (h : O34 w b ok x cs) (hb : b' ≤ b) (hk : ∀ k, ok k → b ≤ k → k < w.heap.size → ok' k) : O34 w b' ok' x cs := by
  obtain ⟨v6, v7, v8, v9, e, h6, h7, h8, h9⟩ := h
  exact ⟨v6, v7, v8, v9, e, Kd.R_lower (Kd.R_mono (Kd.R_bound h6) (fun k h => hk k h.1 h.2.1 h.2.2.1)) hb, Kd.R_lower (Kd.R_mono (Kd.R_bound h7) (fun k h => ⟨hk k h.1.1 h.2.1 h.2.2.1, h.1.2⟩)) hb, Kd.R_lower (Kd.R_mono (Kd.R_bound h8) (fun k h => ⟨hk k h.1.1 h.2.1 h.2.2.1, h.1.2⟩)) hb, Kd.R_lower (Kd.R_mono (Kd.R_bound h9) (fun k h => ⟨hk k h.1.1 h.2.1 h.2.2.1, h.1.2⟩)) hb⟩
/-- A Raft that is read. -/
def M34 (w : World) (x : RN) (cs : Array Value) : Prop := ∃ (A6 A7 A8 A9 : Option Addr) (c6 c7 c8 c9 : Nat), cs = #[.int .i64 x.1, .int .i64 x.2.1, .int .i64 x.2.2.1, .int .i64 x.2.2.2.1, .int .i64 x.2.2.2.2.1, .int .i64 x.2.2.2.2.2.1, .slice A6 x.2.2.2.2.2.2.1.length c6, .slice A7 x.2.2.2.2.2.2.2.1.length c7, .slice A8 x.2.2.2.2.2.2.2.2.1.length c8, .slice A9 x.2.2.2.2.2.2.2.2.2.1.length c9] ∧ (x.2.2.2.2.2.2.1.length ≤ c6 ∧ Kd.C k64 w A6 x.2.2.2.2.2.2.1.length x.2.2.2.2.2.2.1) ∧ (x.2.2.2.2.2.2.2.1.length ≤ c7 ∧ Kd.C (Kd.int .i64) w A7 x.2.2.2.2.2.2.2.1.length x.2.2.2.2.2.2.2.1) ∧ (x.2.2.2.2.2.2.2.2.1.length ≤ c8 ∧ Kd.C (Kd.int .i64) w A8 x.2.2.2.2.2.2.2.2.1.length x.2.2.2.2.2.2.2.2.1) ∧ (x.2.2.2.2.2.2.2.2.2.1.length ≤ c9 ∧ Kd.C (Kd.int .i64) w A9 x.2.2.2.2.2.2.2.2.2.1.length x.2.2.2.2.2.2.2.2.2.1)
theorem M34.below {w w' : World} {x : RN} {cs : Array Value} (h : M34 w x cs) (hb : Below w.heap.size w w') : M34 w' x cs := by
  obtain ⟨A6, A7, A8, A9, c6, c7, c8, c9, e, h6, h7, h8, h9⟩ := h
  exact ⟨A6, A7, A8, A9, c6, c7, c8, c9, e, ⟨h6.1, Kd.C_below h6.2 hb⟩, ⟨h7.1, Kd.C_below h7.2 hb⟩, ⟨h8.1, Kd.C_below h8.2 hb⟩, ⟨h9.1, Kd.C_below h9.2 hb⟩⟩
theorem M34.sz {w : World} {x : RN} {cs : Array Value} (h : M34 w x cs) : (Try.prog.info? 34).map (·.size) = some cs.size := by
  obtain ⟨A6, A7, A8, A9, c6, c7, c8, c9, rfl, _⟩ := h
  exact (show (Try.prog.info? 34).map (·.size) = some 10 by kernel_rfl)
theorem O34.M {w : World} {b : Nat} {ok : Nat → Prop} {x : RN} {cs : Array Value} (h : O34 w b ok x cs) : M34 w x cs := by
  obtain ⟨v6, v7, v8, v9, rfl, h6, h7, h8, h9⟩ := h
  obtain ⟨A6, c6, rfl, a6, f6⟩ := Kd.R_reads h6
  obtain ⟨A7, c7, rfl, a7, f7⟩ := Kd.R_reads h7
  obtain ⟨A8, c8, rfl, a8, f8⟩ := Kd.R_reads h8
  obtain ⟨A9, c9, rfl, a9, f9⟩ := Kd.R_reads h9
  exact ⟨A6, A7, A8, A9, c6, c7, c8, c9, rfl, ⟨a6, f6⟩, ⟨a7, f7⟩, ⟨a8, f8⟩, ⟨a9, f9⟩⟩
theorem sz_t (x : X24) (h1 : x.2.2.length ≤ 9223372036854775807) (hs : ∀ e ∈ x.2.2, e.f1.f4.size ≤ 9223372036854775807) (cs : Array Value) (w : World) (hx : M24 w x cs) :
    Calls Try.prog 10 #[.agg cs, .int .i64 1048576] w fun e w' => ∃ t : Int, e = .returned (.int .i64 t) ∧ (¬ t < 0 → x.2.2.length ≤ 1048576) ∧ Below w.heap.size w w' := by
  obtain ⟨A, c, rfl, hc, hr⟩ := hx
  obtain ⟨r, ⟨K, hK⟩, hl⟩ := sz_hard x.1 x.2.1 x.2.2 h1 hs
  refine (laws_szHard.calls K x.1 x.2.1 A c x.2.2 1048576 r w hr hc (hK K (Nat.le_refl _))).mono ?_
  rintro e w' ⟨rfl, hb⟩
  exact ⟨r, rfl, hl, hb⟩
def toX (x : X24) : X32 := (x.1, x.2.1, x.2.2.map cvE)
theorem to_t (x : X24) (hl : x.2.2.length ≤ 1048576) (cs : Array Value) (w : World) (hx : M24 w x cs) :
    Calls Try.prog 12 #[.agg cs] w fun e w' => ∃ ds, e = .returned (.agg ds) ∧ O32 w' w.heap.size (fun _ => True) (toX x) ds ∧ Below w.heap.size w w' := by
  obtain ⟨A, c, rfl, hc, hr⟩ := hx
  obtain ⟨K, hK⟩ := to_hard x.1 x.2.1 x.2.2 hl
  refine (laws_toHard.calls K x.1 x.2.1 A c x.2.2 _ _ _ w hr hc (hK K (Nat.le_refl _))).mono ?_
  rintro e w' ⟨v, rfl, hR, hb⟩
  exact ⟨_, rfl, ⟨v, rfl, hR⟩, hb⟩
noncomputable def nw (id o : Int) (y : X32) : RN := rNew id o y.1 y.2.1 y.2.2
noncomputable def okB (id o : Int) (y : X32) : Bool := (nw id o y).2.2.2.2.2.2.2.2.2.2
theorem okB_ne (id o : Int) (y : X32) : (!(okB id o y == okB id o y)) = false := by simp
noncomputable def nH (y : X32) : Int := ((1 + 6 * y.2.2.length : Nat) : Int)
theorem nH_lt (y : X32) : decide (nH y < 0) = false := decide_eq_false (by unfold nH; omega)
noncomputable def nR (x : RN) : Int := ((1 + 6 * x.2.2.2.2.2.2.1.length : Nat) : Int)
theorem nR_lt (x : RN) : decide (nR x < 0) = false := decide_eq_false (by unfold nR; omega)
theorem nR_ne (x : RN) : (!(nR x == nR x)) = false := by simp
theorem sp_t (id o : Int) (y : X32) (hl : y.2.2.length ≤ 1048576) (b : Nat) (ok : Nat → Prop) (cs : Array Value) (w : World) (hy : O32 w b ok y cs) :
    Calls Try.prog 11 #[.int .i64 id, .int .i64 o, .agg cs] w fun e w' => ∃ ds, e = .returned (.tuple #[.agg ds, .bool (okB id o y)]) ∧ O34 w' w.heap.size (fun _ => True) (nw id o y) ds ∧ Below w.heap.size w w' := by
  obtain ⟨v, rfl, hr⟩ := hy
  obtain ⟨A, c, rfl, hc, hr⟩ := Kd.R_reads hr
  obtain ⟨K, hK⟩ := s_RaftNew id o y.1 y.2.1 y.2.2 hl
  refine (spec_RaftNew.calls K id o y.1 y.2.1 A c y.2.2 _ _ _ _ _ _ _ _ _ _ _ w hr hc (hK K (Nat.le_refl _))).mono ?_
  rintro e w' ⟨v6, v7, v8, v9, rfl, h6, h7, h8, h9, hb⟩
  exact ⟨_, rfl, ⟨v6, v7, v8, v9, rfl, h6, Kd.R_mono h7 (fun k h => ⟨trivial, h⟩), Kd.R_mono h8 (fun k h => ⟨trivial, h⟩), Kd.R_mono h9 (fun k h => ⟨trivial, h⟩)⟩, hb⟩
theorem im_t (id o : Int) (y : X32) (hl : y.2.2.length ≤ 1048576) (b : Nat) (ok : Nat → Prop) (cs : Array Value) (w : World) (hy : O32 w b ok y cs) :
    Calls Try.prog 13 #[.int .i64 id, .int .i64 o, .agg cs] w fun e w' => ∃ ds, e = .returned (.tuple #[.agg ds, .bool (okB id o y)]) ∧ O34 w' w.heap.size (fun _ => True) (nw id o y) ds ∧ Below w.heap.size w w' := by
  obtain ⟨v, rfl, hr⟩ := hy
  obtain ⟨A, c, rfl, hc, hr⟩ := Kd.R_reads hr
  obtain ⟨K, hK⟩ := i_RaftNew id o y.1 y.2.1 y.2.2 hl
  refine (impl_RaftNew.calls K id o y.1 y.2.1 A c y.2.2 _ _ _ _ _ _ _ _ _ _ _ w hr hc (hK K (Nat.le_refl _))).mono ?_
  rintro e w' ⟨v6, v7, v8, v9, rfl, h6, h7, h8, h9, hb⟩
  exact ⟨_, rfl, ⟨v6, v7, v8, v9, rfl, h6, Kd.R_mono h7 (fun k h => ⟨trivial, h⟩), Kd.R_mono h8 (fun k h => ⟨trivial, h⟩), Kd.R_mono h9 (fun k h => ⟨trivial, h⟩)⟩, hb⟩
theorem eqR_t (id o : Int) (y : X32) (hl : y.2.2.length ≤ 1048576) (cs ds : Array Value) (w : World) (hx : M34 w (nw id o y) cs) (hy : M34 w (nw id o y) ds) :
    Calls Try.prog 9 #[.agg cs, .agg ds] w fun e w' => e = .returned (.bool true) ∧ Below w.heap.size w w' := by
  obtain ⟨A6, A7, A8, A9, c6, c7, c8, c9, rfl, h6, h7, h8, h9⟩ := hx
  obtain ⟨B6, B7, B8, B9, d6, d7, d8, d9, rfl, g6, g7, g8, g9⟩ := hy
  obtain ⟨l6, l7, l8, l9⟩ := rNew_len id o y.1 y.2.1 y.2.2 hl
  unfold nw at *
  revert l6 l7 l8 l9 h6 h7 h8 h9 g6 g7 g8 g9
  generalize rNew id o y.1 y.2.1 y.2.2 = x
  intro h6 h7 h8 h9 g6 g7 g8 g9 l6 l7 l8 l9
  obtain ⟨K, hK⟩ := eq_raft x.1 x.2.1 x.2.2.1 x.2.2.2.1 x.2.2.2.2.1 x.2.2.2.2.2.1 x.2.2.2.2.2.2.1 x.2.2.2.2.2.2.2.1 x.2.2.2.2.2.2.2.2.1 x.2.2.2.2.2.2.2.2.2.1 l6 (by rw [l7]; simp) (by rw [l8]; simp) (by rw [l9]; simp)
  exact laws_eqRaft.calls K x.1 x.2.1 x.2.2.1 x.2.2.2.1 x.2.2.2.2.1 x.2.2.2.2.2.1 A6 c6 x.2.2.2.2.2.2.1 A7 c7 x.2.2.2.2.2.2.2.1 A8 c8 x.2.2.2.2.2.2.2.2.1 A9 c9 x.2.2.2.2.2.2.2.2.2.1 x.1 x.2.1 x.2.2.1 x.2.2.2.1 x.2.2.2.2.1 x.2.2.2.2.2.1 B6 d6 x.2.2.2.2.2.2.1 B7 d7 x.2.2.2.2.2.2.2.1 B8 d8 x.2.2.2.2.2.2.2.2.1 B9 d9 x.2.2.2.2.2.2.2.2.2.1 true w h6.2 h6.1 h7.2 h7.1 h8.2 h8.1 h9.2 h9.1 g6.2 g6.1 g7.2 g7.1 g8.2 g8.1 g9.2 g9.1 (hK K (Nat.le_refl _))
theorem eqH_t (y : X32) (hl : y.2.2.length ≤ 1048576) (b b' : Nat) (ok ok' : Nat → Prop) (cs ds : Array Value) (w : World) (hx : O32 w b ok y cs) (hy : O32 w b' ok' y ds) :
    Calls Try.prog 14 #[.agg cs, .agg ds] w fun e w' => e = .returned (.bool true) ∧ Below w.heap.size w w' := by
  obtain ⟨v, rfl, h⟩ := hx
  obtain ⟨u, rfl, g⟩ := hy
  obtain ⟨A, c, rfl, hc, h'⟩ := Kd.R_reads h
  obtain ⟨B, d, rfl, gc, g'⟩ := Kd.R_reads g
  obtain ⟨K, hK⟩ := eq_hard y.1 y.2.1 y.2.2 hl
  exact laws_eqHard.calls K y.1 y.2.1 A c y.2.2 y.1 y.2.1 B d y.2.2 true w h' hc g' gc (hK K (Nat.le_refl _))
theorem mkH_t (y : X32) (hl : y.2.2.length ≤ 1048576) (ok : Nat → Prop) (cs : Array Value) (w0 w : World) (hB : Below w0.heap.size w0 w) (hx : O32 w w0.heap.size ok y cs) :
    Calls Try.prog 15 #[.agg cs, .int .i64 1] w fun e w' => e = .returned (.int .i64 (nH y)) ∧ Below w0.heap.size w0 w' ∧ Kept w w' ok := by
  obtain ⟨v, rfl, h⟩ := hx
  obtain ⟨K, hK⟩ := mk_hard y.1 y.2.1 y.2.2 hl
  refine (laws_markHard.calls K y.1 y.2.1 ok v y.2.2 1 _ _ w0 w hB h (hK K (Nat.le_refl _))).mono ?_
  rintro e w' ⟨rfl, _, hb, hk⟩
  exact ⟨rfl, hb, hk⟩
/-- A Raft as marked. -/
noncomputable def mkd (x : RN) : RN := (x.1, x.2.1, x.2.2.1, x.2.2.2.1, x.2.2.2.2.1, x.2.2.2.2.2.1, (List.range x.2.2.2.2.2.2.1.length).map mkE, [], [], [], false)
theorem mkR_t (id o : Int) (y : X32) (hl : y.2.2.length ≤ 1048576) (ok : Nat → Prop) (cs : Array Value) (w0 w : World) (hB : Below w0.heap.size w0 w) (hx : O34 w w0.heap.size ok (nw id o y) cs) :
    Calls Try.prog 16 #[.agg cs, .int .i64 1] w fun e w' => e = .returned (.int .i64 (nR (nw id o y))) ∧ M34 w' (mkd (nw id o y)) cs ∧ Below w0.heap.size w0 w' ∧ Kept w w' ok := by
  obtain ⟨v6, v7, v8, v9, rfl, h6, h7, h8, h9⟩ := hx
  obtain ⟨l6, l7, l8, l9⟩ := rNew_len id o y.1 y.2.1 y.2.2 hl
  unfold nw at *
  revert l6 l7 l8 l9 h6 h7 h8 h9
  generalize rNew id o y.1 y.2.1 y.2.2 = x
  intro h6 h7 h8 h9 l6 l7 l8 l9
  obtain ⟨K, hK⟩ := mk_raft x.1 x.2.1 x.2.2.1 x.2.2.2.1 x.2.2.2.2.1 x.2.2.2.2.2.1 x.2.2.2.2.2.2.1 l6
  rw [l7] at h7
  rw [l8] at h8
  rw [l9] at h9
  refine (laws_markRaft.calls K x.1 x.2.1 x.2.2.1 x.2.2.2.1 x.2.2.2.2.1 x.2.2.2.2.2.1 (fun k => some k = v6.ownBlock) v6 x.2.2.2.2.2.2.1 (fun k => some k = v7.ownBlock) v7 [] (fun k => some k = v8.ownBlock) v8 [] (fun k => some k = v9.ownBlock) v9 [] 1 _ _ _ _ _ w0 w hB (Kd.R_tight rfl h6) (Kd.R_tight rfl h7) (fun k e => (h7.1 k e.symm).2.1) (fun k e => (h7.1 k e.symm).2.2) (Kd.R_tight rfl h8) (fun k e => (h8.1 k e.symm).2.1) (fun k e => (h8.1 k e.symm).2.2) (Kd.R_tight rfl h9) (fun k e => (h9.1 k e.symm).2.1) (fun k e => (h9.1 k e.symm).2.2) (hK K (Nat.le_refl _))).mono ?_
  rintro e w' ⟨rfl, g6, g7, g8, g9, hb, hk⟩
  refine ⟨rfl, ?_, hb, hk.mono (fun k hk => ?_)⟩
  · obtain ⟨A6, c6, rfl, a6, f6⟩ := Kd.R_reads g6
    obtain ⟨A7, c7, rfl, a7, f7⟩ := Kd.R_reads g7
    obtain ⟨A8, c8, rfl, a8, f8⟩ := Kd.R_reads g8
    obtain ⟨A9, c9, rfl, a9, f9⟩ := Kd.R_reads g9
    exact ⟨A6, A7, A8, A9, c6, c7, c8, c9, rfl, ⟨a6, f6⟩, ⟨a7, f7⟩, ⟨a8, f8⟩, ⟨a9, f9⟩⟩
  · rcases hk with e | e | e | e
    · exact h6.1 k e.symm
    · exact (h7.1 k e.symm).1
    · exact (h8.1 k e.symm).1
    · exact (h9.1 k e.symm).1
theorem hdR_t (x : RN) (hl : x.2.2.2.2.2.2.1.length ≤ 1048576) (cs : Array Value) (w : World) (hx : M34 w (mkd x) cs) :
    Calls Try.prog 17 #[.agg cs, .int .i64 1] w fun e w' => e = .returned (.int .i64 (nR x)) ∧ Below w.heap.size w w' := by
  obtain ⟨A6, A7, A8, A9, c6, c7, c8, c9, rfl, h6, h7, h8, h9⟩ := hx
  obtain ⟨K, hK⟩ := hd_raft x.1 x.2.1 x.2.2.1 x.2.2.2.1 x.2.2.2.2.1 x.2.2.2.2.2.1 x.2.2.2.2.2.2.1.length hl
  exact laws_heldRaft.calls K x.1 x.2.1 x.2.2.1 x.2.2.2.1 x.2.2.2.2.1 x.2.2.2.2.2.1 A6 c6 ((List.range x.2.2.2.2.2.2.1.length).map mkE) A7 c7 [] A8 c8 [] A9 c9 [] 1 _ w h6.2 h6.1 h7.2 h7.1 h8.2 h8.1 h9.2 h9.1 (hK K (Nat.le_refl _))
theorem load_run {P : Program} {o : Oper} {a : Act} {w : World} (ty : TypeId) (x : Operand) (ho : o.op = .load ty x)
    (g : Nat) (hx : a.eval x = .pointer (some ⟨g, 0, none⟩)) (t : TypeId) (cs : Array Value) (fr : Nat × Nat) (d : TypeDesc) (hg : w.heap[g]? = some (.cells cs t fr))
    (hu : P.underlying ty = some d) (hd : (match d with | .struct _ | .array _ _ => true | _ => false) = true) (hi : (P.info? ty).map (·.size) = some cs.size) : (execOp a.eval o).run P w = .ok (.value (.agg cs)) w := by
  unfold execOp
  simp only [ho, hx, Instr.loadAt, Instr.sureAddr, Sem.run_bind, Sem.run_pure, Result.andThen_ok, run_loadVar_row w g t ty cs fr d hg hu hd hi]
theorem store_new {W w1 : World} {g t : Nat} {old ds : Array Value} (hg : g = W.heap.size) (hbox : w1.heap[g]? = some (.cells old t (0, 0))) (hb : Below W.heap.size W w1) :
    Below W.heap.size W (w1.setRow g ds) ∧ (w1.setRow g ds).heap[g]? = some (.cells ds t (0, 0)) :=
  ⟨hb.trans ⟨rfl, rfl, rfl, by simp, fun k hk => setRow_other _ _ _ _ (by omega)⟩, setRow_heap w1 g old ds t (0, 0) hbox⟩
theorem blk_kept {w w' : World} {g : Nat} {o : Obj} {S : Nat → Prop} (h : w.heap[g]? = some o) (hk : Kept w w' S) (hn : ¬ S g) : w'.heap[g]? = some o := (hk.2 g (blk_lt h) hn).trans h

end Go.Proofs.Ytahhigniaepgeaa.QFnExactRaftNew
