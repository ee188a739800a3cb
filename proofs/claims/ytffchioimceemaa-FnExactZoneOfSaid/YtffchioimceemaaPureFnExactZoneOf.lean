/- The law FnExactZoneOf answers true for every argument. No condition. -/
import Derived.Test.YtffchioimceemaaQFnExactZoneOfx12
namespace Go.Proofs.Ytffchioimceemaa.Pure
open Go.RowKit Go.Proofs.Ytffchioimceemaa.QFnExactZoneOf Go.Proofs.YtffchioimceemaaW.PrintWords Go.Proofs.YtffchioimceemaaW.PrintLast
set_option linter.unusedVariables false
set_option linter.unusedSimpArgs false

theorem w64 (n : Int) (h0 : -9223372036854775808 ≤ n) (h1 : n ≤ 9223372036854775807) : wrap64 n = n := by unfold wrap64; omega
theorem tmn {a : Int} (b : Int) (h : 0 ≤ a) : Int.tmod a b = a % b := Int.tmod_eq_emod_of_nonneg h
theorem wfi {x : Int} (h : (Lit.int .i64 x).wf = true) : -9223372036854775808 ≤ x ∧ x ≤ 9223372036854775807 := by
  simp [Lit.wf, IntKind.min, IntKind.max, IntKind.signed, IntKind.bits] at h
  omega
theorem wf8 {x : Int} (h : (Lit.int .u8 x).wf = true) : 0 ≤ x ∧ x ≤ 255 := by
  simp [Lit.wf, IntKind.min, IntKind.max, IntKind.signed, IntKind.bits] at h
  omega
theorem evc {α : Type} {g : Nat → Option α} {r : α} (h : ∀ k, g k = some r) : Ev g r := ⟨0, fun k _ => h k⟩
theorem getD_mem {α : Type} (l : List α) (n : Nat) (z : α) (h : n < l.length) : l.getD n z ∈ l := by
  rw [List.getD_eq_getElem?_getD, List.getElem?_eq_getElem h]
  exact List.getElem_mem h
theorem ex_step {α : Type} {g f : Nat → Option α} (h : ∀ k, g (k + 1) = f k) (e : ∃ r, Ev f r) : ∃ r, Ev g r := by
  obtain ⟨r, e⟩ := e
  exact ⟨r, Ev.step h e⟩
theorem ex_bind {α β : Type} {g : Nat → Option α} {f : Nat → α → Option β} {a : α} (h : Ev g a) (e : ∃ r, Ev (fun n => f n a) r) : ∃ r, Ev (fun n => (g n).bind (f n)) r := by
  obtain ⟨r, e⟩ := e
  exact ⟨r, Ev.bind h e⟩

theorem up_ind (n : Nat) (P : Nat → Prop) (he : P n) (hs : ∀ i, i < n → P (i + 1) → P i) (i : Nat) (h : i ≤ n) : P i := by
  have key : ∀ (d i : Nat), i + d = n → P i := by
    intro d
    induction d with
    | zero => intro i h; obtain rfl : i = n := by omega
              exact he
    | succ d ih => intro i h; exact hs i (by omega) (ih (i + 1) (by omega))
  exact key (n - i) i (by omega)
theorem eq_fill {β : Type} (y : Nat → β) (n : Nat) (ys : List β) (hl : ys.length = n) (h : ∀ j, j < n → ys[j]? = some (y j)) : ys = (List.range n).map y := by
  apply List.ext_getElem?
  intro j
  by_cases hj : j < n
  · rw [h j hj]; simp [hj]
  · rw [List.getElem?_eq_none (by omega), List.getElem?_eq_none (by simp; omega)]
theorem map_rd {α β : Type} (l : List α) (z : α) (f : α → β) : (List.range l.length).map (fun i => f (l.getD i z)) = l.map f := by
  apply List.ext_getElem?
  intro j
  by_cases hj : j < l.length
  · simp [hj, List.getD]
  · rw [List.getElem?_eq_none (by simp; omega), List.getElem?_eq_none (by simp; omega)]
theorem set_fill {β : Type} (y : Nat → β) (i : Nat) (ys : List β) (h : ∀ j, j < i → ys[j]? = some (y j)) (hi : i < ys.length) : ∀ j, j < i + 1 → (ys.set i (y i))[j]? = some (y j) := by
  intro j hj
  by_cases e : j = i
  · subst e; rw [List.getElem?_set_self hi]
  · rw [List.getElem?_set_ne (by omega)]; exact h j (by omega)
theorem inc (i : Nat) (h : i < 1000000000000000) : wrap64 ((i : Int) + 1) = ((i + 1 : Nat) : Int) := by rw [w64 _ (by omega) (by omega)]; omega

theorem i_within (n a b : Int) : impl_within.f n a b = some (decide (a ≤ n ∧ n ≤ b)) := by
  unfold impl_within.f
  by_cases h : n ≥ a
  · rw [if_pos h]; simp [show a ≤ n from h]
  · rw [if_neg h]; simp [show ¬ a ≤ n from h]

theorem s_In (n a b : Int) : spec_l1In.f n a b = some (decide (a ≤ n ∧ n ≤ b)) := by
  unfold spec_l1In.f
  by_cases h : n ≥ a
  · rw [if_pos h]; simp [show a ≤ n from h]
  · rw [if_neg h]; simp [show ¬ a ≤ n from h]

def OnP (k d w : Int) : Prop := (k = 1 ∧ 1 ≤ d ∧ d ≤ 31 ∧ w = 0) ∨ (k = 2 ∧ d = 0 ∧ 0 ≤ w ∧ w ≤ 6) ∨ (k = 3 ∧ 1 ≤ d ∧ d ≤ 31 ∧ 0 ≤ w ∧ w ≤ 6)
instance (k d w : Int) : Decidable (OnP k d w) := by unfold OnP; exact inferInstance
theorem i_OnOk (k d w : Int) : impl_OnOk.f k d w = some (decide (OnP k d w)) := by
  unfold impl_OnOk.f OnP
  rw [i_within, i_within]
  simp only [Option.bind_some]
  by_cases h1 : k = 1
  · subst h1; by_cases h : 1 ≤ d ∧ d ≤ 31 <;> by_cases hw : w = 0 <;> simp [h, hw]
  · rw [if_neg h1]
    by_cases h2 : k = 2
    · subst h2; by_cases h : d = 0 <;> by_cases hw : 0 ≤ w ∧ w ≤ 6 <;> simp [h, hw]
    · rw [if_neg h2]
      by_cases h3 : k = 3
      · subst h3; by_cases h : 1 ≤ d ∧ d ≤ 31 <;> by_cases hw : 0 ≤ w ∧ w ≤ 6 <;> simp [h, hw]
      · simp [h1, h2, h3]
theorem s_OnOk (k d w : Int) : spec_OnOk.f k d w = some (decide (OnP k d w)) := by
  unfold spec_OnOk.f OnP
  rw [s_In, s_In]
  simp only [Option.bind_some]
  by_cases h1 : k = 1
  · subst h1; by_cases h : 1 ≤ d ∧ d ≤ 31 <;> by_cases hw : w = 0 <;> simp [h, hw]
  · rw [if_neg h1]
    by_cases h2 : k = 2
    · subst h2; by_cases h : d = 0 <;> by_cases hw : 0 ≤ w ∧ w ≤ 6 <;> simp [h, hw]
    · rw [if_neg h2]
      by_cases h3 : k = 3
      · subst h3; by_cases h : 1 ≤ d ∧ d ≤ 31 <;> by_cases hw : 0 ≤ w ∧ w ≤ 6 <;> simp [h, hw]
      · simp [h1, h2, h3]

def cvR (x : S68) : S59 := ⟨x.f0, x.f1, x.f2, x.f3, ⟨x.f4.f0, x.f4.f1, x.f4.f2⟩, x.f5, x.f6⟩
def cvZ (x : S70) : S29 := ⟨x.f0, x.f1, x.f2⟩
def cvL (x : S72) : S47 := ⟨x.f0, x.f1⟩
theorem to_rules (l : List S68) (hl : l.length ≤ 1048576) : Ev (fun k => laws_toRuleS.f k l) (l.map cvR) := by
  unfold laws_toRuleS.f
  simp only [if_pos (show 0 ≤ (l.length : Int) by omega), if_pos (show ((l.length : Int) : Int).toNat ≤ 3909374676536 by omega)]
  have key := up_ind l.length (fun i => ∀ ys : List S59, ys.length = l.length → (∀ j, j < i → ys[j]? = some (cvR (l.getD j z68))) → Ev (fun k => laws_toRuleS.l0 k l ys (i : Int)) (l.map cvR))
    (by
      intro ys hy h
      refine Ev.step (fun k => by rw [laws_toRuleS.l0]) ?_
      simp only [Int.lt_irrefl, if_false]
      rw [eq_fill (fun j => cvR (l.getD j z68)) l.length ys hy h, map_rd]
      exact Ev.now _)
    (by
      intro i hi ih ys hy h
      refine Ev.step (fun k => by rw [laws_toRuleS.l0]) ?_
      unfold laws_toRule.f laws_toOn.f
      simp only [Option.bind_some, if_pos (show (i : Int) < (l.length : Int) by omega), if_pos (show 0 ≤ (i : Int) by omega), if_pos (show (i : Int) < (ys.length : Int) by omega)]
      rw [inc i (by omega)]
      exact ih _ (by rw [List.length_set]; exact hy) (set_fill (fun j => cvR (l.getD j z68)) i ys h (by omega)))
  exact key 0 (by omega) (List.replicate ((l.length : Int) : Int).toNat z59) (by simp) (fun j hj => by omega)
theorem to_zones (l : List S70) (hl : l.length ≤ 1048576) : Ev (fun k => laws_toZoneS.f k l) (l.map cvZ) := by
  unfold laws_toZoneS.f
  simp only [if_pos (show 0 ≤ (l.length : Int) by omega), if_pos (show ((l.length : Int) : Int).toNat ≤ 11728124029610 by omega)]
  have key := up_ind l.length (fun i => ∀ ys : List S29, ys.length = l.length → (∀ j, j < i → ys[j]? = some (cvZ (l.getD j z70))) → Ev (fun k => laws_toZoneS.l0 k l ys (i : Int)) (l.map cvZ))
    (by
      intro ys hy h
      refine Ev.step (fun k => by rw [laws_toZoneS.l0]) ?_
      simp only [Int.lt_irrefl, if_false]
      rw [eq_fill (fun j => cvZ (l.getD j z70)) l.length ys hy h, map_rd]
      exact Ev.now _)
    (by
      intro i hi ih ys hy h
      refine Ev.step (fun k => by rw [laws_toZoneS.l0]) ?_
      unfold laws_toZone.f
      simp only [Option.bind_some, if_pos (show (i : Int) < (l.length : Int) by omega), if_pos (show 0 ≤ (i : Int) by omega), if_pos (show (i : Int) < (ys.length : Int) by omega)]
      rw [inc i (by omega)]
      exact ih _ (by rw [List.length_set]; exact hy) (set_fill (fun j => cvZ (l.getD j z70)) i ys h (by omega)))
  exact key 0 (by omega) (List.replicate ((l.length : Int) : Int).toNat z29) (by simp) (fun j hj => by omega)
theorem to_links (l : List S72) (hl : l.length ≤ 1048576) : Ev (fun k => laws_toLinkS.f k l) (l.map cvL) := by
  unfold laws_toLinkS.f
  simp only [if_pos (show 0 ≤ (l.length : Int) by omega), if_pos (show ((l.length : Int) : Int).toNat ≤ 17592186044416 by omega)]
  have key := up_ind l.length (fun i => ∀ ys : List S47, ys.length = l.length → (∀ j, j < i → ys[j]? = some (cvL (l.getD j z72))) → Ev (fun k => laws_toLinkS.l0 k l ys (i : Int)) (l.map cvL))
    (by
      intro ys hy h
      refine Ev.step (fun k => by rw [laws_toLinkS.l0]) ?_
      simp only [Int.lt_irrefl, if_false]
      rw [eq_fill (fun j => cvL (l.getD j z72)) l.length ys hy h, map_rd]
      exact Ev.now _)
    (by
      intro i hi ih ys hy h
      refine Ev.step (fun k => by rw [laws_toLinkS.l0]) ?_
      unfold laws_toLink.f
      simp only [Option.bind_some, if_pos (show (i : Int) < (l.length : Int) by omega), if_pos (show 0 ≤ (i : Int) by omega), if_pos (show (i : Int) < (ys.length : Int) by omega)]
      rw [inc i (by omega)]
      exact ih _ (by rw [List.length_set]; exact hy) (set_fill (fun j => cvL (l.getD j z72)) i ys h (by omega)))
  exact key 0 (by omega) (List.replicate ((l.length : Int) : Int).toNat z47) (by simp) (fun j hj => by omega)
theorem to_source (R : List S68) (Z : List S70) (L : List S72) (h1 : R.length ≤ 1048576) (h2 : Z.length ≤ 1048576) (h3 : L.length ≤ 1048576) :
    Ev (fun k => laws_toSource.f k R Z L) (R.map cvR, Z.map cvZ, L.map cvL) := by
  unfold laws_toSource.f
  exact Ev.bind (to_rules R h1) (Ev.bind (to_zones Z h2) (Ev.bind (to_links L h3) (Ev.now _)))
theorem eq_rules (l : List S59) (hl : l.length ≤ 1048576) : Ev (fun k => laws_eqRuleS.f k l l) true := by
  unfold laws_eqRuleS.f
  simp only [if_true]
  have key := up_ind l.length (fun i => Ev (fun k => laws_eqRuleS.l0 k l l (i : Int)) true)
    (by
      refine Ev.step (fun k => by rw [laws_eqRuleS.l0]) ?_
      simp only [Int.lt_irrefl, if_false]
      exact Ev.now _)
    (by
      intro i hi ih
      refine Ev.step (fun k => by rw [laws_eqRuleS.l0]) ?_
      unfold laws_eqRule.f laws_eqOn.f
      simp only [if_pos (show (i : Int) < (l.length : Int) by omega), if_pos (show 0 ≤ (i : Int) by omega), if_true, Option.bind_some]
      rw [inc i (by omega)]
      exact ih)
  exact key 0 (by omega)
theorem eq_zones (l : List S29) (hl : l.length ≤ 1048576) : Ev (fun k => laws_eqZoneS.f k l l) true := by
  unfold laws_eqZoneS.f
  simp only [if_true]
  have key := up_ind l.length (fun i => Ev (fun k => laws_eqZoneS.l0 k l l (i : Int)) true)
    (by
      refine Ev.step (fun k => by rw [laws_eqZoneS.l0]) ?_
      simp only [Int.lt_irrefl, if_false]
      exact Ev.now _)
    (by
      intro i hi ih
      refine Ev.step (fun k => by rw [laws_eqZoneS.l0]) ?_
      unfold laws_eqZone.f
      simp only [if_pos (show (i : Int) < (l.length : Int) by omega), if_pos (show 0 ≤ (i : Int) by omega), if_true, Option.bind_some]
      rw [inc i (by omega)]
      exact ih)
  exact key 0 (by omega)
theorem eq_links (l : List S47) (hl : l.length ≤ 1048576) : Ev (fun k => laws_eqLinkS.f k l l) true := by
  unfold laws_eqLinkS.f
  simp only [if_true]
  have key := up_ind l.length (fun i => Ev (fun k => laws_eqLinkS.l0 k l l (i : Int)) true)
    (by
      refine Ev.step (fun k => by rw [laws_eqLinkS.l0]) ?_
      simp only [Int.lt_irrefl, if_false]
      exact Ev.now _)
    (by
      intro i hi ih
      refine Ev.step (fun k => by rw [laws_eqLinkS.l0]) ?_
      unfold laws_eqLink.f
      simp only [if_pos (show (i : Int) < (l.length : Int) by omega), if_pos (show 0 ≤ (i : Int) by omega), if_true, Option.bind_some]
      rw [inc i (by omega)]
      exact ih)
  exact key 0 (by omega)
theorem eq_source (R : List S59) (Z : List S29) (L : List S47) (h1 : R.length ≤ 1048576) (h2 : Z.length ≤ 1048576) (h3 : L.length ≤ 1048576) :
    Ev (fun k => laws_eqSource.f k R Z L R Z L) true := by
  unfold laws_eqSource.f
  refine Ev.bind (eq_rules R h1) ?_
  simp only [if_true]
  refine Ev.bind (eq_zones Z h2) ?_
  simp only [if_true]
  refine Ev.bind (eq_links L h3) ?_
  simp only [if_true]
  exact Ev.now _
theorem sz_source (R : List S68) (Z : List S70) (L : List S72) (h1 : R.length ≤ 9223372036854775807) (h2 : Z.length ≤ 9223372036854775807) (h3 : L.length ≤ 9223372036854775807) :
    ∃ r, laws_szSource.f R Z L 1048576 = some r ∧ (¬ r < 0 → R.length ≤ 1048576 ∧ Z.length ≤ 1048576 ∧ L.length ≤ 1048576) := by
  unfold laws_szSource.f laws_szRuleS.f laws_szZoneS.f laws_szLinkS.f
  rw [w64 (1048576 - (R.length : Int)) (by omega) (by omega)]
  by_cases c1 : 1048576 - (R.length : Int) < 0
  · exact ⟨-1, by rw [if_pos c1]; rfl, by omega⟩
  · rw [if_neg c1]
    simp only [Option.bind_some, if_neg c1]
    rw [w64 (1048576 - (R.length : Int) - (Z.length : Int)) (by omega) (by omega)]
    by_cases c2 : 1048576 - (R.length : Int) - (Z.length : Int) < 0
    · exact ⟨-1, by rw [if_pos c2]; rfl, by omega⟩
    · rw [if_neg c2]
      simp only [Option.bind_some, if_neg c2]
      rw [w64 (1048576 - (R.length : Int) - (Z.length : Int) - (L.length : Int)) (by omega) (by omega)]
      by_cases c3 : 1048576 - (R.length : Int) - (Z.length : Int) - (L.length : Int) < 0
      · exact ⟨-1, by rw [if_pos c3]; rfl, by omega⟩
      · rw [if_neg c3]
        simp only [Option.bind_some, if_neg c3]
        exact ⟨_, rfl, by omega⟩

def ruOk (r : S59) : Bool := decide (97 ≤ r.f0 ∧ r.f0 ≤ 122) && (decide (1900 ≤ r.f1 ∧ r.f1 ≤ 2200) && (decide (1900 ≤ r.f2 ∧ r.f2 ≤ 2200) && (decide (r.f1 ≤ r.f2) && (decide (1 ≤ r.f3 ∧ r.f3 ≤ 12) && (decide (OnP r.f4.f0 r.f4.f1 r.f4.f2) && (decide (0 ≤ r.f5 ∧ r.f5 ≤ 1439) && decide (0 ≤ r.f6 ∧ r.f6 ≤ 180)))))))
theorem s_ruOk (r : S59) : spec_l12RuleOk.f r.f0 r.f1 r.f2 r.f3 r.f4.f0 r.f4.f1 r.f4.f2 r.f5 r.f6 = some (ruOk r) := by
  unfold spec_l12RuleOk.f spec_l12Small.f spec_l11Year.f ruOk
  simp only [s_In, s_OnOk, Option.bind_some]
  generalize decide (97 ≤ r.f0 ∧ r.f0 ≤ 122) = b1
  generalize decide (1900 ≤ r.f1 ∧ r.f1 ≤ 2200) = b2
  generalize decide (1900 ≤ r.f2 ∧ r.f2 ≤ 2200) = b3
  generalize decide (1 ≤ r.f3 ∧ r.f3 ≤ 12) = b5
  generalize decide (OnP r.f4.f0 r.f4.f1 r.f4.f2) = b6
  generalize decide (0 ≤ r.f5 ∧ r.f5 ≤ 1439) = b7
  generalize decide (0 ≤ r.f6 ∧ r.f6 ≤ 180) = b8
  by_cases h4 : r.f1 ≤ r.f2
  · simp only [h4, if_true, decide_true]
    cases b1 <;> cases b2 <;> cases b3 <;> cases b5 <;> cases b6 <;> cases b7 <;> rfl
  · simp only [h4, if_false, decide_false]
    cases b1 <;> cases b2 <;> cases b3 <;> rfl
theorem i_ruj (r : S59) (b : Bool) : Ev (fun k => impl_ruleOk.j0 k b r.f0 r.f1 r.f2 r.f3 r.f4.f0 r.f4.f1 r.f4.f2 r.f5 r.f6) (decide (97 ≤ r.f0 ∧ r.f0 ≤ 122) && (b && (decide (1 ≤ r.f3 ∧ r.f3 ≤ 12) && (decide (OnP r.f4.f0 r.f4.f1 r.f4.f2) && (decide (0 ≤ r.f5 ∧ r.f5 ≤ 1439) && decide (0 ≤ r.f6 ∧ r.f6 ≤ 180)))))) := by
  refine Ev.step (fun k => by rw [impl_ruleOk.j0]) ?_
  unfold impl_isSmall.f
  simp only [i_within, i_OnOk, Option.bind_some]
  refine evc fun k => ?_
  generalize decide (97 ≤ r.f0 ∧ r.f0 ≤ 122) = b1
  generalize decide (1 ≤ r.f3 ∧ r.f3 ≤ 12) = b5
  generalize decide (OnP r.f4.f0 r.f4.f1 r.f4.f2) = b6
  generalize decide (0 ≤ r.f5 ∧ r.f5 ≤ 1439) = b7
  generalize decide (0 ≤ r.f6 ∧ r.f6 ≤ 180) = b8
  cases b1 <;> cases b <;> cases b5 <;> cases b6 <;> cases b7 <;> rfl
theorem i_ruOk (r : S59) : Ev (fun k => impl_ruleOk.f k r.f0 r.f1 r.f2 r.f3 r.f4.f0 r.f4.f1 r.f4.f2 r.f5 r.f6) (ruOk r) := by
  unfold impl_ruleOk.f impl_isYear.f ruOk
  simp only [i_within, Option.bind_some]
  have hj := i_ruj r
  generalize decide (97 ≤ r.f0 ∧ r.f0 ≤ 122) = a at hj
  generalize (decide (1 ≤ r.f3 ∧ r.f3 ≤ 12) && (decide (OnP r.f4.f0 r.f4.f1 r.f4.f2) && (decide (0 ≤ r.f5 ∧ r.f5 ≤ 1439) && decide (0 ≤ r.f6 ∧ r.f6 ≤ 180)))) = c at hj
  by_cases h2 : 1900 ≤ r.f1 ∧ r.f1 ≤ 2200
  · by_cases h3 : 1900 ≤ r.f2 ∧ r.f2 ≤ 2200
    · simp only [decide_eq_true h2, decide_eq_true h3, if_true, Bool.true_and]
      exact hj (decide (r.f1 ≤ r.f2))
    · simp only [decide_eq_true h2, decide_eq_false h3, if_true, Bool.false_eq_true, if_false, Bool.false_and, Bool.and_false, Bool.true_and]
      have := hj false
      simpa only [Bool.false_and, Bool.and_false] using this
  · simp only [decide_eq_false h2, Bool.false_eq_true, if_false, Bool.false_and, Bool.and_false]
    have := hj false
    simpa only [Bool.false_and, Bool.and_false] using this
/-- Is there a rule of that name; a zone. -/
def hasR (R : List S59) (a : Int) : Bool := R.any fun r => r.f0 == a
def hasZ (Z : List S29) (a : Int) : Bool := Z.any fun r => r.f0 == a
theorem drop_any {α : Type} (l : List α) (p : α → Bool) (i : Nat) (z : α) (h : i < l.length) : (l.drop i).any p = (p (l.getD i z) || (l.drop (i + 1)).any p) := by
  rw [List.drop_eq_getElem_cons h, List.any_cons, List.getD_eq_getElem?_getD, List.getElem?_eq_getElem h]
  rfl
theorem s_hasR (R : List S59) (a : Int) (hl : R.length ≤ 1048576) : Ev (fun k => spec_l12HasRule.f k R a) (hasR R a) := by
  unfold spec_l12HasRule.f hasR
  have key := up_ind R.length (fun i => Ev (fun k => spec_l12HasRule.l0 k R a (i : Int)) ((R.drop i).any fun r => r.f0 == a))
    (by
      refine Ev.step (fun k => by rw [spec_l12HasRule.l0]) ?_
      simp only [Int.lt_irrefl, if_false, List.drop_length, List.any_nil]
      exact Ev.now _)
    (by
      intro i hi ih
      refine Ev.step (fun k => by rw [spec_l12HasRule.l0]) ?_
      simp only [if_pos (show (i : Int) < (R.length : Int) by omega), if_pos (show 0 ≤ (i : Int) by omega)]
      rw [drop_any R _ i z59 hi]
      have e : (rd_T59 R (i : Int)) = R.getD i z59 := rfl
      rw [e, inc i (by omega)]
      by_cases h : (R.getD i z59).f0 = a
      · simp only [if_pos h, beq_iff_eq.mpr h, Bool.true_or]
        exact Ev.now _
      · simp only [if_neg h, beq_eq_false_iff_ne.mpr h, Bool.false_or]
        exact ih)
  exact key 0 (by omega)
theorem s_hasZ (R : List S29) (a : Int) (hl : R.length ≤ 1048576) : Ev (fun k => spec_l12HasZone.f k R a) (hasZ R a) := by
  unfold spec_l12HasZone.f hasZ
  have key := up_ind R.length (fun i => Ev (fun k => spec_l12HasZone.l0 k R a (i : Int)) ((R.drop i).any fun r => r.f0 == a))
    (by
      refine Ev.step (fun k => by rw [spec_l12HasZone.l0]) ?_
      simp only [Int.lt_irrefl, if_false, List.drop_length, List.any_nil]
      exact Ev.now _)
    (by
      intro i hi ih
      refine Ev.step (fun k => by rw [spec_l12HasZone.l0]) ?_
      simp only [if_pos (show (i : Int) < (R.length : Int) by omega), if_pos (show 0 ≤ (i : Int) by omega)]
      rw [drop_any R _ i z29 hi]
      have e : (rd_T29 R (i : Int)) = R.getD i z29 := rfl
      rw [e, inc i (by omega)]
      by_cases h : (R.getD i z29).f0 = a
      · simp only [if_pos h, beq_iff_eq.mpr h, Bool.true_or]
        exact Ev.now _
      · simp only [if_neg h, beq_eq_false_iff_ne.mpr h, Bool.false_or]
        exact ih)
  exact key 0 (by omega)
theorem atR (R : List S59) (a : Int) : ∀ i : Nat, (0 ≤ impl_hasRule.at_ R a i ↔ hasR R a = true) := by
  induction R with
  | nil => intro i; simp [impl_hasRule.at_, hasR]
  | cons r R ih =>
    intro i
    unfold impl_hasRule.at_ hasR
    rw [List.any_cons]
    cases h : (r.f0 == a)
    · simp only [Bool.false_eq_true, if_false, Bool.false_or]
      exact ih (i + 1)
    · simp only [if_true, Bool.true_or, iff_true]
      omega
theorem atZ (R : List S29) (a : Int) : ∀ i : Nat, (0 ≤ impl_zoneAt.at_ R a i ↔ hasZ R a = true) := by
  induction R with
  | nil => intro i; simp [impl_zoneAt.at_, hasZ]
  | cons r R ih =>
    intro i
    unfold impl_zoneAt.at_ hasZ
    rw [List.any_cons]
    cases h : (r.f0 == a)
    · simp only [Bool.false_eq_true, if_false, Bool.false_or]
      exact ih (i + 1)
    · simp only [if_true, Bool.true_or, iff_true]
      omega
theorem i_hasR (R : List S59) (Z : List S29) (L : List S47) (a : Int) : impl_hasRule.f R Z L a = some (hasR R a) := by
  unfold impl_hasRule.f
  have := atR R a 0
  congr 1
  rw [Bool.eq_iff_iff, decide_eq_true_eq]
  exact this
def ru (R : List S59) : Nat → Nat → Bool
  | 0, _ => true
  | d + 1, i => ruOk (rd_T59 R (i : Int)) && ru R d (i + 1)
def zn (R : List S59) (Z : List S29) : Nat → Nat → Bool
  | 0, _ => true
  | d + 1, i => decide (65 ≤ (rd_T29 Z (i : Int)).f0 ∧ (rd_T29 Z (i : Int)).f0 ≤ 90) && (decide (-900 ≤ (rd_T29 Z (i : Int)).f1 ∧ (rd_T29 Z (i : Int)).f1 ≤ 900) &&
    ((decide (i = 0) || decide ((rd_T29 Z ((i : Int) - 1)).f0 < (rd_T29 Z (i : Int)).f0)) && ((decide ((rd_T29 Z (i : Int)).f2 = 0) || hasR R (rd_T29 Z (i : Int)).f2) && zn R Z d (i + 1))))
def lk (Z : List S29) (L : List S47) : Nat → Nat → Bool
  | 0, _ => true
  | d + 1, i => decide (65 ≤ (rd_T47 L (i : Int)).f0 ∧ (rd_T47 L (i : Int)).f0 ≤ 90) &&
    ((decide (i = 0) || decide ((rd_T47 L ((i : Int) - 1)).f0 < (rd_T47 L (i : Int)).f0)) && (hasZ Z (rd_T47 L (i : Int)).f1 && (!hasZ Z (rd_T47 L (i : Int)).f0 && lk Z L d (i + 1))))
/-- What a source must be; the reference asks how many zones and links there are, too. -/
def sOk (R : List S59) (Z : List S29) (L : List S47) : Bool := ru R R.length 0 && (zn R Z Z.length 0 && (lk Z L L.length 0 && decide ((R.length : Int) ≤ 20)))
theorem zn_le (R : List S59) (Z : List S29) : ∀ (d i : Nat), zn R Z (d + 1) i = true → (i = 0 ∨ (i : Int) + 64 ≤ (rd_T29 Z ((i : Int) - 1)).f0) → (i : Int) + d ≤ 25 := by
  intro d
  induction d with
  | zero =>
    intro i h hi
    simp only [zn, Bool.and_eq_true, Bool.or_eq_true, decide_eq_true_eq] at h
    omega
  | succ d ih =>
    intro i h hi
    rw [zn] at h
    simp only [Bool.and_eq_true, Bool.or_eq_true, decide_eq_true_eq] at h
    obtain ⟨h1, _, h2, _, h3⟩ := h
    have := ih (i + 1) h3 (.inr (by
      have e : ((i + 1 : Nat) : Int) - 1 = (i : Int) := by omega
      rw [e]
      omega))
    omega
theorem zn_len {R : List S59} {Z : List S29} (h : zn R Z Z.length 0 = true) : (Z.length : Int) ≤ 26 := by
  cases hl : Z.length with
  | zero => omega
  | succ d =>
    rw [hl] at h
    have := zn_le R Z d 0 h (.inl rfl)
    omega
theorem lk_le (Z : List S29) (L : List S47) : ∀ (d i : Nat), lk Z L (d + 1) i = true → (i = 0 ∨ (i : Int) + 64 ≤ (rd_T47 L ((i : Int) - 1)).f0) → (i : Int) + d ≤ 25 := by
  intro d
  induction d with
  | zero =>
    intro i h hi
    simp only [lk, Bool.and_eq_true, Bool.or_eq_true, decide_eq_true_eq] at h
    omega
  | succ d ih =>
    intro i h hi
    rw [lk] at h
    simp only [Bool.and_eq_true, Bool.or_eq_true, decide_eq_true_eq] at h
    obtain ⟨h1, h2, _, _, h3⟩ := h
    have := ih (i + 1) h3 (.inr (by
      have e : ((i + 1 : Nat) : Int) - 1 = (i : Int) := by omega
      rw [e]
      omega))
    omega
theorem lk_len {Z : List S29} {L : List S47} (h : lk Z L L.length 0 = true) : (L.length : Int) ≤ 26 := by
  cases hl : L.length with
  | zero => omega
  | succ d =>
    rw [hl] at h
    have := lk_le Z L d 0 h (.inl rfl)
    omega
theorem ru_small (R : List S59) (h : ru R R.length 0 = true) (a : Int) (ha : hasR R a = true) : 97 ≤ a ∧ a ≤ 122 := by
  have key : ∀ (d i : Nat), i + d = R.length → ru R d i = true → ∀ r ∈ R.drop i, 97 ≤ r.f0 ∧ r.f0 ≤ 122 := by
    intro d
    induction d with
    | zero =>
      intro i hi _ r hr
      rw [List.drop_eq_nil_of_le (by omega)] at hr
      cases hr
    | succ d ih =>
      intro i hi h r hr
      rw [ru, Bool.and_eq_true] at h
      rw [List.drop_eq_getElem_cons (by omega)] at hr
      rcases List.mem_cons.1 hr with rfl | hr
      · have e : rd_T59 R (i : Int) = R[i]'(by omega) := by
          unfold rd_T59
          rw [List.getD_eq_getElem?_getD, Int.toNat_natCast, List.getElem?_eq_getElem (by omega)]
          rfl
        have := h.1
        rw [e] at this
        unfold ruOk at this
        rw [Bool.and_eq_true, decide_eq_true_eq] at this
        exact this.1
      · exact ih (i + 1) (by omega) h.2 r hr
  obtain ⟨r, hr, e⟩ := List.any_eq_true.1 ha
  have := key R.length 0 (by omega) h r hr
  rw [beq_iff_eq] at e
  omega

theorem rd_takeZ (Z : List S29) (i : Nat) (h0 : i ≠ 0) (h : i ≤ Z.length) : rd_T29 (Z.take i) ((i : Int) - 1) = rd_T29 Z ((i : Int) - 1) := by
  unfold rd_T29
  rw [List.getD_eq_getElem?_getD, List.getD_eq_getElem?_getD, List.getElem?_take_of_lt (by omega)]
theorem rd_takeL (Z : List S47) (i : Nat) (h0 : i ≠ 0) (h : i ≤ Z.length) : rd_T47 (Z.take i) ((i : Int) - 1) = rd_T47 Z ((i : Int) - 1) := by
  unfold rd_T47
  rw [List.getD_eq_getElem?_getD, List.getD_eq_getElem?_getD, List.getElem?_take_of_lt (by omega)]
theorem s_Zone (R : List S59) (Z : List S29) (L : List S47) (i : Nat) (hi : i < Z.length) (z : S29) (hR : R.length ≤ 1048576) (hZ : Z.length ≤ 1048576) :
    Ev (fun k => spec_l12Zone.f k R (Z.take i) L z.f0 z.f1 z.f2) (decide (65 ≤ z.f0 ∧ z.f0 ≤ 90) && (decide (-900 ≤ z.f1 ∧ z.f1 ≤ 900) && ((decide (i = 0) || decide ((rd_T29 Z ((i : Int) - 1)).f0 < z.f0)) && (decide (z.f2 = 0) || hasR R z.f2)))) := by
  unfold spec_l12Zone.f spec_l12Great.f
  have hlen : (Z.take i).length = i := by rw [List.length_take]; omega
  rw [hlen]
  simp only [s_In, Option.bind_some]
  by_cases h1 : 65 ≤ z.f0 ∧ z.f0 ≤ 90
  · simp only [decide_eq_true h1, if_true, Bool.true_and]
    by_cases h2 : -900 ≤ z.f1 ∧ z.f1 ≤ 900
    · simp only [decide_eq_true h2, if_true, Bool.true_and]
      have tail : Ev (fun k => if z.f2 = 0 then some true else (spec_l12HasRule.f k R z.f2).bind fun t => some t) (decide (z.f2 = 0) || hasR R z.f2) := by
        by_cases h4 : z.f2 = 0
        · simp only [if_pos h4, decide_eq_true h4, Bool.true_or]
          exact Ev.now _
        · simp only [if_neg h4, decide_eq_false h4, Bool.false_or]
          exact Ev.bind (s_hasR R _ hR) (Ev.now _)
      by_cases h0 : i = 0
      · subst h0
        simp only [if_pos (show ((0 : Nat) : Int) = 0 from rfl), decide_true, Bool.true_or, Bool.true_and]
        exact tail
      · rw [w64 ((i : Int) - 1) (by omega) (by omega), rd_takeZ Z i h0 (by omega)]
        simp only [if_neg (show ¬ (i : Int) = 0 by omega), if_pos (show 0 ≤ (i : Int) - 1 by omega), if_pos (show (i : Int) - 1 < (i : Int) by omega), decide_eq_false h0, Bool.false_or]
        by_cases h3 : (rd_T29 Z ((i : Int) - 1)).f0 < z.f0
        · simp only [if_pos h3, decide_eq_true h3, Bool.true_and]
          exact tail
        · simp only [if_neg h3, decide_eq_false h3, Bool.false_and]
          exact Ev.now _
    · simp only [decide_eq_false h2, Bool.false_eq_true, if_false, Bool.false_and]
      exact Ev.now _
  · simp only [decide_eq_false h1, Bool.false_eq_true, if_false, Bool.false_and]
    exact Ev.now _
theorem s_Link (R : List S59) (Z : List S29) (L : List S47) (i : Nat) (hi : i < L.length) (z : S47) (hZ : Z.length ≤ 1048576) (hL : L.length ≤ 1048576) :
    Ev (fun k => spec_l12Link.f k R Z (L.take i) z.f0 z.f1) (decide (65 ≤ z.f0 ∧ z.f0 ≤ 90) && ((decide (i = 0) || decide ((rd_T47 L ((i : Int) - 1)).f0 < z.f0)) && (hasZ Z z.f1 && !hasZ Z z.f0))) := by
  unfold spec_l12Link.f spec_l12Great.f
  have hlen : (L.take i).length = i := by rw [List.length_take]; omega
  rw [hlen]
  simp only [s_In, Option.bind_some]
  by_cases h1 : 65 ≤ z.f0 ∧ z.f0 ≤ 90
  · simp only [decide_eq_true h1, if_true, Bool.true_and]
    have tail : Ev (fun k => (spec_l12HasZone.f k Z z.f1).bind fun t => if t = true then ((spec_l12HasZone.f k Z z.f0).bind fun u => some (!u)) else some false) (hasZ Z z.f1 && !hasZ Z z.f0) := by
      refine Ev.bind (s_hasZ Z _ hZ) ?_
      cases h4 : hasZ Z z.f1
      · simp only [Bool.false_eq_true, if_false, Bool.false_and]
        exact Ev.now _
      · simp only [if_true, Bool.true_and]
        exact Ev.bind (s_hasZ Z _ hZ) (Ev.now _)
    by_cases h0 : i = 0
    · subst h0
      simp only [if_pos (show ((0 : Nat) : Int) = 0 from rfl), decide_true, Bool.true_or, Bool.true_and]
      exact tail
    · rw [w64 ((i : Int) - 1) (by omega) (by omega), rd_takeL L i h0 (by omega)]
      simp only [if_neg (show ¬ (i : Int) = 0 by omega), if_pos (show 0 ≤ (i : Int) - 1 by omega), if_pos (show (i : Int) - 1 < (i : Int) by omega), decide_eq_false h0, Bool.false_or]
      by_cases h3 : (rd_T47 L ((i : Int) - 1)).f0 < z.f0
      · simp only [if_pos h3, decide_eq_true h3, Bool.true_and]
        exact tail
      · simp only [if_neg h3, decide_eq_false h3, Bool.false_and]
        exact Ev.now _
  · simp only [decide_eq_false h1, Bool.false_eq_true, if_false, Bool.false_and]
    exact Ev.now _
theorem s_lk (R : List S59) (Z : List S29) (L : List S47) (Zt : List S29) (hz : Zt = Z) (hR : R.length ≤ 1048576) (hZ : Z.length ≤ 1048576) (hL : L.length ≤ 1048576) : ∀ (d i : Nat), i + d = L.length →
    Ev (fun k => spec_SourceOk.l2 k (i : Int) R Z L R Zt (L.take i)) (lk Z L d i) := by
  intro d
  induction d with
  | zero =>
    intro i h
    refine Ev.step (fun k => by rw [spec_SourceOk.l2]) ?_
    simp only [if_neg (show ¬ (i : Int) < (L.length : Int) by omega)]
    exact Ev.now _
  | succ d ih =>
    intro i h
    refine Ev.step (fun k => by rw [spec_SourceOk.l2]) ?_
    simp only [if_pos (show (i : Int) < (L.length : Int) by omega), if_pos (show 0 ≤ (i : Int) by omega)]
    rw [hz]
    refine Ev.bind (s_Link R Z L i (by omega) (rd_T47 L (i : Int)) hZ hL) ?_
    rw [lk, inc i (by omega)]
    have ih' := ih (i + 1) (by omega)
    rw [hz] at ih'
    rw [show ∀ a b c e f : Bool, (a && (b && (c && (e && f)))) = ((a && (b && (c && e))) && f) from by decide]
    cases (decide (65 ≤ (rd_T47 L (i : Int)).f0 ∧ (rd_T47 L (i : Int)).f0 ≤ 90) && ((decide (i = 0) || decide ((rd_T47 L ((i : Int) - 1)).f0 < (rd_T47 L (i : Int)).f0)) && (hasZ Z (rd_T47 L (i : Int)).f1 && !hasZ Z (rd_T47 L (i : Int)).f0)))
    · simp only [Bool.false_eq_true, if_false, Bool.false_and]
      exact Ev.now _
    · simp only [if_true, Bool.true_and, if_pos (show 0 ≤ ((i + 1 : Nat) : Int) by omega), if_pos (show ((i + 1 : Nat) : Int) ≤ (L.length : Int) by omega), Int.toNat_natCast]
      exact ih'
theorem s_zn (R : List S59) (Z : List S29) (L : List S47) (hR : R.length ≤ 1048576) (hZ : Z.length ≤ 1048576) (hL : L.length ≤ 1048576) : ∀ (d i : Nat), i + d = Z.length →
    Ev (fun k => spec_SourceOk.l1 k (i : Int) R Z L R (Z.take i)) (zn R Z d i && lk Z L L.length 0) := by
  intro d
  induction d with
  | zero =>
    intro i h
    refine Ev.step (fun k => by rw [spec_SourceOk.l1]) ?_
    simp only [if_neg (show ¬ (i : Int) < (Z.length : Int) by omega), zn, Bool.true_and]
    have := s_lk R Z L (Z.take i) (by rw [List.take_of_length_le (by omega)]) hR hZ hL L.length 0 (by omega)
    rw [List.take_zero] at this
    exact this
  | succ d ih =>
    intro i h
    refine Ev.step (fun k => by rw [spec_SourceOk.l1]) ?_
    simp only [if_pos (show (i : Int) < (Z.length : Int) by omega), if_pos (show 0 ≤ (i : Int) by omega)]
    refine Ev.bind (s_Zone R Z _ i (by omega) (rd_T29 Z (i : Int)) hR hZ) ?_
    rw [zn, inc i (by omega)]
    have ih' := ih (i + 1) (by omega)
    rw [show ∀ a b c e f g : Bool, ((a && (b && (c && (e && f)))) && g) = ((a && (b && (c && e))) && (f && g)) from by decide]
    cases (decide (65 ≤ (rd_T29 Z (i : Int)).f0 ∧ (rd_T29 Z (i : Int)).f0 ≤ 90) && (decide (-900 ≤ (rd_T29 Z (i : Int)).f1 ∧ (rd_T29 Z (i : Int)).f1 ≤ 900) && ((decide (i = 0) || decide ((rd_T29 Z ((i : Int) - 1)).f0 < (rd_T29 Z (i : Int)).f0)) && (decide ((rd_T29 Z (i : Int)).f2 = 0) || hasR R (rd_T29 Z (i : Int)).f2))))
    · simp only [Bool.false_eq_true, if_false, Bool.false_and]
      exact Ev.now _
    · simp only [if_true, Bool.true_and, if_pos (show 0 ≤ ((i + 1 : Nat) : Int) by omega), if_pos (show ((i + 1 : Nat) : Int) ≤ (Z.length : Int) by omega), Int.toNat_natCast]
      exact ih'
theorem s_ru (R : List S59) (Z : List S29) (L : List S47) (hR : R.length ≤ 1048576) (hZ : Z.length ≤ 1048576) (hL : L.length ≤ 1048576) : ∀ (d i : Nat), i + d = R.length →
    Ev (fun k => spec_SourceOk.l0 k (i : Int) R Z L R) (ru R d i && (zn R Z Z.length 0 && lk Z L L.length 0)) := by
  intro d
  induction d with
  | zero =>
    intro i h
    refine Ev.step (fun k => by rw [spec_SourceOk.l0]) ?_
    simp only [if_neg (show ¬ (i : Int) < (R.length : Int) by omega), ru, Bool.true_and]
    have := s_zn R Z L hR hZ hL Z.length 0 (by omega)
    rw [List.take_zero] at this
    exact this
  | succ d ih =>
    intro i h
    refine Ev.step (fun k => by rw [spec_SourceOk.l0]) ?_
    simp only [if_pos (show (i : Int) < (R.length : Int) by omega), if_pos (show 0 ≤ (i : Int) by omega), s_ruOk, Option.bind_some]
    rw [ru, inc i (by omega)]
    have ih' := ih (i + 1) (by omega)
    cases ruOk (rd_T59 R (i : Int))
    · simp only [Bool.false_eq_true, if_false, Bool.false_and]
      exact Ev.now _
    · simp only [if_true, Bool.true_and]
      exact ih'
theorem s_SourceOk (R : List S59) (Z : List S29) (L : List S47) (hR : R.length ≤ 1048576) (hZ : Z.length ≤ 1048576) (hL : L.length ≤ 1048576) : Ev (fun k => spec_SourceOk.f k R Z L) (sOk R Z L) := by
  unfold spec_SourceOk.f
  have no : sOk R Z L = false → Ev (fun k => spec_SourceOk.j0 k true R Z L) (sOk R Z L) := by
    intro h
    rw [h]
    refine Ev.step (fun k => by rw [spec_SourceOk.j0]) ?_
    simp only [if_true]
    exact Ev.now _
  by_cases h1 : (R.length : Int) > 20
  · simp only [if_pos h1]
    refine no ?_
    unfold sOk
    rw [decide_eq_false (show ¬ (R.length : Int) ≤ 20 by omega)]
    simp only [Bool.and_false]
  · simp only [if_neg h1]
    by_cases h2 : (Z.length : Int) > 26
    · simp only [if_pos h2]
      refine no ?_
      unfold sOk
      cases h : zn R Z Z.length 0
      · simp only [Bool.false_and, Bool.and_false]
      · have := zn_len h
        omega
    · simp only [if_neg h2]
      by_cases h3 : (L.length : Int) > 26
      · rw [decide_eq_true h3]
        refine no ?_
        unfold sOk
        cases h : lk Z L L.length 0
        · simp only [Bool.false_and, Bool.and_false]
        · have := lk_len h
          omega
      · rw [decide_eq_false h3]
        refine Ev.step (fun k => by rw [spec_SourceOk.j0]) ?_
        simp only [Bool.false_eq_true, if_false]
        have := s_ru R Z L hR hZ hL R.length 0 (by omega)
        unfold sOk
        rw [decide_eq_true (show (R.length : Int) ≤ 20 by omega), Bool.and_true]
        exact this

theorem i_zoneOk (z : S29) : impl_zoneOk.f z.f0 z.f1 z.f2 = some (decide (65 ≤ z.f0 ∧ z.f0 ≤ 90) && (decide (-900 ≤ z.f1 ∧ z.f1 ≤ 900) && (decide (z.f2 = 0) || decide (97 ≤ z.f2 ∧ z.f2 ≤ 122)))) := by
  unfold impl_zoneOk.f impl_isGreat.f impl_isSmall.f
  simp only [i_within, Option.bind_some]
  generalize decide (65 ≤ z.f0 ∧ z.f0 ≤ 90) = b1
  generalize decide (-900 ≤ z.f1 ∧ z.f1 ≤ 900) = b2
  generalize decide (97 ≤ z.f2 ∧ z.f2 ≤ 122) = b3
  by_cases h3 : z.f2 = 0
  · simp only [h3, if_true, decide_true]
    cases b1 <;> cases b2 <;> rfl
  · simp only [h3, if_false, decide_false]
    cases b1 <;> cases b2 <;> rfl
theorem i_lk (R : List S59) (Z : List S29) (L : List S47) (hL : L.length ≤ 1048576) : ∀ (d i : Nat), i + d = L.length →
    Ev (fun k => impl_SourceOk.l2 k L (L.length : Int) (i : Int) R Z L) (lk Z L d i && decide ((R.length : Int) ≤ 20)) := by
  intro d
  induction d with
  | zero =>
    intro i h
    refine Ev.step (fun k => by rw [impl_SourceOk.l2]) ?_
    simp only [if_neg (show ¬ (i : Int) < (L.length : Int) by omega), lk, Bool.true_and]
    exact Ev.now _
  | succ d ih =>
    intro i h
    refine Ev.step (fun k => by rw [impl_SourceOk.l2]) ?_
    unfold impl_isGreat.f impl_zoneAt.f
    simp only [if_pos (show (i : Int) < (L.length : Int) by omega), if_pos (show 0 ≤ (i : Int) by omega), i_within, Option.bind_some]
    rw [lk, inc i (by omega)]
    have ih' := ih (i + 1) (by omega)
    have a1 := atZ Z (rd_T47 L (i : Int)).f1 0
    have a0 := atZ Z (rd_T47 L (i : Int)).f0 0
    generalize impl_zoneAt.at_ Z (rd_T47 L (i : Int)).f1 0 = n1 at a1
    generalize impl_zoneAt.at_ Z (rd_T47 L (i : Int)).f0 0 = n0 at a0
    have tail : Ev (fun k => if n1 < 0 then some false else if n0 ≥ 0 then some false else impl_SourceOk.l2 k L (L.length : Int) ((i + 1 : Nat) : Int) R Z L) ((hasZ Z (rd_T47 L (i : Int)).f1 && (!hasZ Z (rd_T47 L (i : Int)).f0 && lk Z L d (i + 1))) && decide ((R.length : Int) ≤ 20)) := by
      cases h1 : hasZ Z (rd_T47 L (i : Int)).f1
      · rw [h1] at a1
        have : n1 < 0 := by
          have : ¬ 0 ≤ n1 := fun h => by simpa using a1.1 h
          omega
        simp only [if_pos this, Bool.false_and]
        exact Ev.now _
      · have : ¬ n1 < 0 := by have := a1.2 h1; omega
        simp only [if_neg this, Bool.true_and]
        cases h0 : hasZ Z (rd_T47 L (i : Int)).f0
        · rw [h0] at a0
          have : ¬ n0 ≥ 0 := fun h => by simpa using a0.1 h
          simp only [if_neg this, Bool.not_false, Bool.true_and]
          exact ih'
        · have : n0 ≥ 0 := a0.2 h0
          simp only [if_pos this, Bool.not_true, Bool.false_and]
          exact Ev.now _
    by_cases h1 : 65 ≤ (rd_T47 L (i : Int)).f0 ∧ (rd_T47 L (i : Int)).f0 ≤ 90
    · simp only [decide_eq_true h1, if_true, Bool.true_and]
      by_cases h0 : i = 0
      · subst h0
        simp only [if_neg (show ¬ ((0 : Nat) : Int) > 0 by omega), decide_true, Bool.true_or, Bool.true_and]
        exact tail
      · rw [w64 ((i : Int) - 1) (by omega) (by omega)]
        simp only [if_pos (show (i : Int) > 0 by omega), if_pos (show 0 ≤ (i : Int) - 1 by omega), if_pos (show (i : Int) - 1 < (L.length : Int) by omega), decide_eq_false h0, Bool.false_or]
        by_cases h2 : (rd_T47 L ((i : Int) - 1)).f0 < (rd_T47 L (i : Int)).f0
        · simp only [if_neg (show ¬ (rd_T47 L ((i : Int) - 1)).f0 ≥ (rd_T47 L (i : Int)).f0 by omega), decide_eq_true h2, Bool.true_and]
          exact tail
        · simp only [if_pos (show (rd_T47 L ((i : Int) - 1)).f0 ≥ (rd_T47 L (i : Int)).f0 by omega), decide_eq_false h2, Bool.false_and]
          exact Ev.now _
    · simp only [decide_eq_false h1, Bool.false_eq_true, if_false, Bool.false_and]
      exact Ev.now _
theorem i_zn (R : List S59) (Z : List S29) (L : List S47) (hs : ∀ a, hasR R a = true → 97 ≤ a ∧ a ≤ 122) (hZ : Z.length ≤ 1048576) (hL : L.length ≤ 1048576) : ∀ (d i : Nat), i + d = Z.length →
    Ev (fun k => impl_SourceOk.l1 k Z (Z.length : Int) (i : Int) R Z L) (zn R Z d i && (lk Z L L.length 0 && decide ((R.length : Int) ≤ 20))) := by
  intro d
  induction d with
  | zero =>
    intro i h
    refine Ev.step (fun k => by rw [impl_SourceOk.l1]) ?_
    simp only [if_neg (show ¬ (i : Int) < (Z.length : Int) by omega), zn, Bool.true_and]
    exact i_lk R Z L hL L.length 0 (by omega)
  | succ d ih =>
    intro i h
    refine Ev.step (fun k => by rw [impl_SourceOk.l1]) ?_
    simp only [if_pos (show (i : Int) < (Z.length : Int) by omega), if_pos (show 0 ≤ (i : Int) by omega), i_zoneOk, i_hasR, Option.bind_some]
    rw [zn, inc i (by omega)]
    have ih' := ih (i + 1) (by omega)
    have hs' := hs (rd_T29 Z (i : Int)).f2
    have tail : Ev (fun k => if (rd_T29 Z (i : Int)).f2 = 0 then impl_SourceOk.l1 k Z (Z.length : Int) ((i + 1 : Nat) : Int) R Z L else if hasR R (rd_T29 Z (i : Int)).f2 = true then impl_SourceOk.l1 k Z (Z.length : Int) ((i + 1 : Nat) : Int) R Z L else some false)
        (((decide ((rd_T29 Z (i : Int)).f2 = 0) || hasR R (rd_T29 Z (i : Int)).f2) && zn R Z d (i + 1)) && (lk Z L L.length 0 && decide ((R.length : Int) ≤ 20))) := by
      by_cases h3 : (rd_T29 Z (i : Int)).f2 = 0
      · simp only [if_pos h3, decide_eq_true h3, Bool.true_or, Bool.true_and]
        exact ih'
      · simp only [if_neg h3, decide_eq_false h3, Bool.false_or]
        cases hasR R (rd_T29 Z (i : Int)).f2
        · simp only [Bool.false_eq_true, if_false, Bool.false_and]
          exact Ev.now _
        · simp only [if_true, Bool.true_and]
          exact ih'
    by_cases h1 : 65 ≤ (rd_T29 Z (i : Int)).f0 ∧ (rd_T29 Z (i : Int)).f0 ≤ 90
    · simp only [decide_eq_true h1, Bool.true_and]
      by_cases h2 : -900 ≤ (rd_T29 Z (i : Int)).f1 ∧ (rd_T29 Z (i : Int)).f1 ≤ 900
      · simp only [decide_eq_true h2, Bool.true_and]
        by_cases h3 : (rd_T29 Z (i : Int)).f2 = 0 ∨ (97 ≤ (rd_T29 Z (i : Int)).f2 ∧ (rd_T29 Z (i : Int)).f2 ≤ 122)
        · have e : (decide ((rd_T29 Z (i : Int)).f2 = 0) || decide (97 ≤ (rd_T29 Z (i : Int)).f2 ∧ (rd_T29 Z (i : Int)).f2 ≤ 122)) = true := by
            rw [Bool.or_eq_true, decide_eq_true_eq, decide_eq_true_eq]
            exact h3
          simp only [e, if_true]
          by_cases h0 : i = 0
          · subst h0
            simp only [if_neg (show ¬ ((0 : Nat) : Int) > 0 by omega), decide_true, Bool.true_or, Bool.true_and]
            exact tail
          · rw [w64 ((i : Int) - 1) (by omega) (by omega)]
            simp only [if_pos (show (i : Int) > 0 by omega), if_pos (show 0 ≤ (i : Int) - 1 by omega), if_pos (show (i : Int) - 1 < (Z.length : Int) by omega), decide_eq_false h0, Bool.false_or]
            by_cases h4 : (rd_T29 Z ((i : Int) - 1)).f0 < (rd_T29 Z (i : Int)).f0
            · simp only [if_neg (show ¬ (rd_T29 Z ((i : Int) - 1)).f0 ≥ (rd_T29 Z (i : Int)).f0 by omega), decide_eq_true h4, Bool.true_and]
              exact tail
            · simp only [if_pos (show (rd_T29 Z ((i : Int) - 1)).f0 ≥ (rd_T29 Z (i : Int)).f0 by omega), decide_eq_false h4, Bool.false_and]
              exact Ev.now _
        · have e : (decide ((rd_T29 Z (i : Int)).f2 = 0) || decide (97 ≤ (rd_T29 Z (i : Int)).f2 ∧ (rd_T29 Z (i : Int)).f2 ≤ 122)) = false := by
            rw [Bool.or_eq_false_iff, decide_eq_false_iff_not, decide_eq_false_iff_not]
            exact ⟨fun h => h3 (.inl h), fun h => h3 (.inr h)⟩
          have e2 : (decide ((rd_T29 Z (i : Int)).f2 = 0) || hasR R (rd_T29 Z (i : Int)).f2) = false := by
            rw [Bool.or_eq_false_iff, decide_eq_false_iff_not]
            refine ⟨fun h => h3 (.inl h), ?_⟩
            cases hh : hasR R (rd_T29 Z (i : Int)).f2
            · rfl
            · exact absurd (.inr (hs' hh)) h3
          simp only [e, e2, Bool.false_eq_true, if_false, Bool.false_and, Bool.and_false]
          exact Ev.now _
      · simp only [decide_eq_false h2, Bool.false_eq_true, if_false, Bool.false_and]
        exact Ev.now _
    · simp only [decide_eq_false h1, Bool.false_eq_true, if_false, Bool.false_and]
      exact Ev.now _
theorem i_ru (R : List S59) (Z : List S29) (L : List S47) (hR : R.length ≤ 1048576) (hZ : Z.length ≤ 1048576) (hL : L.length ≤ 1048576) : ∀ (d i : Nat), i + d = R.length →
    (ru R R.length 0 = ru R d i) → Ev (fun k => impl_SourceOk.l0 k R (R.length : Int) (i : Int) R Z L) (ru R d i && (zn R Z Z.length 0 && (lk Z L L.length 0 && decide ((R.length : Int) ≤ 20)))) := by
  intro d
  induction d with
  | zero =>
    intro i h hs
    refine Ev.step (fun k => by rw [impl_SourceOk.l0]) ?_
    simp only [if_neg (show ¬ (i : Int) < (R.length : Int) by omega), ru, Bool.true_and]
    exact i_zn R Z L (fun a ha => ru_small R (hs.trans rfl) a ha) hZ hL Z.length 0 (by omega)
  | succ d ih =>
    intro i h hs
    refine Ev.step (fun k => by rw [impl_SourceOk.l0]) ?_
    simp only [if_pos (show (i : Int) < (R.length : Int) by omega), if_pos (show 0 ≤ (i : Int) by omega)]
    refine Ev.bind (i_ruOk _) ?_
    rw [ru] at hs ⊢
    rw [inc i (by omega)]
    cases hh : ruOk (rd_T59 R (i : Int))
    · simp only [Bool.false_eq_true, if_false, Bool.false_and]
      exact Ev.now _
    · rw [hh, Bool.true_and] at hs
      simp only [if_true, Bool.true_and]
      exact ih (i + 1) (by omega) hs
theorem i_SourceOk (R : List S59) (Z : List S29) (L : List S47) (hR : R.length ≤ 1048576) (hZ : Z.length ≤ 1048576) (hL : L.length ≤ 1048576) : Ev (fun k => impl_SourceOk.f k R Z L) (sOk R Z L) := by
  unfold impl_SourceOk.f sOk
  exact i_ru R Z L hR hZ hL R.length 0 (by omega) rfl

theorem at_dropZ (Z : List S29) (a : Int) (i : Nat) (h : i < Z.length) : impl_zoneAt.at_ (Z.drop i) a i = if (rd_T29 Z (i : Int)).f0 = a then (i : Int) else impl_zoneAt.at_ (Z.drop (i + 1)) a (i + 1) := by
  rw [List.drop_eq_getElem_cons h]
  have e : rd_T29 Z (i : Int) = Z[i] := by
    unfold rd_T29
    rw [List.getD_eq_getElem?_getD, Int.toNat_natCast, List.getElem?_eq_getElem h]
    rfl
  rw [e, show impl_zoneAt.at_ (Z[i] :: Z.drop (i + 1)) a i = (if (Z[i].f0 == a) = true then (i : Int) else impl_zoneAt.at_ (Z.drop (i + 1)) a (i + 1)) from rfl]
  by_cases h : Z[i].f0 = a
  · rw [if_pos h, if_pos (beq_iff_eq.mpr h)]
  · rw [if_neg h, if_neg (fun g => h (beq_iff_eq.mp g))]
theorem at_lt (Z : List S29) (a : Int) : ∀ i : Nat, impl_zoneAt.at_ Z a i < (i : Int) + Z.length := by
  induction Z with
  | nil => intro i; simp only [impl_zoneAt.at_, List.length_nil]; omega
  | cons z Z ih =>
    intro i
    have := ih (i + 1)
    unfold impl_zoneAt.at_
    rw [List.length_cons]
    split <;> omega
def zr (Z : List S29) (n : Int) : Int × Int × Int × Bool := if n < 0 then (0, 0, 0, false) else ((rd_T29 Z n).f0, (rd_T29 Z n).f1, (rd_T29 Z n).f2, true)
/-- What a name leads to. -/
def lnk : List S47 → Int → Int
  | [], a => a
  | l :: L, a => if l.f0 = a then l.f1 else lnk L a
theorem lnk_drop (L : List S47) (a : Int) (i : Nat) (h : i < L.length) : lnk (L.drop i) a = if (rd_T47 L (i : Int)).f0 = a then (rd_T47 L (i : Int)).f1 else lnk (L.drop (i + 1)) a := by
  rw [List.drop_eq_getElem_cons h]
  have e : rd_T47 L (i : Int) = L[i] := by
    unfold rd_T47
    rw [List.getD_eq_getElem?_getD, Int.toNat_natCast, List.getElem?_eq_getElem h]
    rfl
  rw [e]
  rfl
theorem s_zl (R : List S59) (Z : List S29) (L : List S47) (a : Int) (hZ : Z.length ≤ 1048576) : Ev (fun k => spec_ZoneOf.j1 k a R Z L) (zr Z (impl_zoneAt.at_ Z a 0)) := by
  refine Ev.step (fun k => by rw [spec_ZoneOf.j1]) ?_
  have key := up_ind Z.length (fun i => Ev (fun k => spec_ZoneOf.l1 k a (i : Int) R Z L) (zr Z (impl_zoneAt.at_ (Z.drop i) a i)))
    (by
      refine Ev.step (fun k => by rw [spec_ZoneOf.l1]) ?_
      simp only [Int.lt_irrefl, if_false, List.drop_length]
      exact Ev.now _)
    (by
      intro i hi ih
      refine Ev.step (fun k => by rw [spec_ZoneOf.l1]) ?_
      simp only [if_pos (show (i : Int) < (Z.length : Int) by omega), if_pos (show 0 ≤ (i : Int) by omega)]
      rw [inc i (by omega), at_dropZ Z a i hi]
      by_cases h : (rd_T29 Z (i : Int)).f0 = a
      · simp only [if_pos h]
        unfold zr
        rw [if_neg (show ¬ (i : Int) < 0 by omega)]
        exact Ev.now _
      · simp only [if_neg h]
        exact ih)
  exact key 0 (by omega)
theorem s_ZoneOf (R : List S59) (Z : List S29) (L : List S47) (a : Int) (hR : R.length ≤ 1048576) (hZ : Z.length ≤ 1048576) (hL : L.length ≤ 1048576) :
    Ev (fun k => spec_ZoneOf.f k R Z L a) (if sOk R Z L = true then zr Z (impl_zoneAt.at_ Z (lnk L a) 0) else (0, 0, 0, false)) := by
  unfold spec_ZoneOf.f
  refine Ev.bind (s_SourceOk R Z L hR hZ hL) ?_
  by_cases h : sOk R Z L = true
  · simp only [if_pos h]
    have key := up_ind L.length (fun i => Ev (fun k => spec_ZoneOf.l0 k a (i : Int) R Z L) (zr Z (impl_zoneAt.at_ Z (lnk (L.drop i) a) 0)))
      (by
        refine Ev.step (fun k => by rw [spec_ZoneOf.l0]) ?_
        simp only [Int.lt_irrefl, if_false, List.drop_length]
        exact s_zl R Z L a hZ)
      (by
        intro i hi ih
        refine Ev.step (fun k => by rw [spec_ZoneOf.l0]) ?_
        simp only [if_pos (show (i : Int) < (L.length : Int) by omega), if_pos (show 0 ≤ (i : Int) by omega)]
        rw [inc i (by omega), lnk_drop L a i hi]
        by_cases h : (rd_T47 L (i : Int)).f0 = a
        · simp only [if_pos h]
          exact s_zl R Z L _ hZ
        · simp only [if_neg h]
          exact ih)
    exact key 0 (by omega)
  · simp only [if_neg h]
    exact Ev.now _
theorem i_ZoneOf (R : List S59) (Z : List S29) (L : List S47) (a : Int) (hR : R.length ≤ 1048576) (hZ : Z.length ≤ 1048576) (hL : L.length ≤ 1048576) :
    Ev (fun k => impl_ZoneOf.f k R Z L a) (if sOk R Z L = true then zr Z (impl_zoneAt.at_ Z (lnk L a) 0) else (0, 0, 0, false)) := by
  unfold impl_ZoneOf.f
  refine Ev.bind (i_SourceOk R Z L hR hZ hL) ?_
  have tail : ∀ b : Int, (if impl_zoneAt.at_ Z b 0 < 0 then (some (0, 0, 0, false)) else (if 0 ≤ impl_zoneAt.at_ Z b 0 then (if impl_zoneAt.at_ Z b 0 < (Z.length : Int) then (some ((rd_T29 Z (impl_zoneAt.at_ Z b 0)).f0, (rd_T29 Z (impl_zoneAt.at_ Z b 0)).f1, (rd_T29 Z (impl_zoneAt.at_ Z b 0)).f2, true)) else (none)) else (none))) = some (zr Z (impl_zoneAt.at_ Z b 0)) := by
    intro b
    have hlt := at_lt Z b 0
    unfold zr
    by_cases h : impl_zoneAt.at_ Z b 0 < 0
    · rw [if_pos h, if_pos h]
    · rw [if_neg h, if_neg h, if_pos (by omega), if_pos (by omega)]
  by_cases h : sOk R Z L = true
  · simp only [if_pos h]
    have key := up_ind L.length (fun i => Ev (fun k => impl_ZoneOf.l0 k a L (L.length : Int) (i : Int) R Z L) (zr Z (impl_zoneAt.at_ Z (lnk (L.drop i) a) 0)))
      (by
        refine Ev.step (fun k => by rw [impl_ZoneOf.l0]) ?_
        unfold impl_zoneAt.f
        simp only [Int.lt_irrefl, if_false, List.drop_length, Option.bind_some, tail]
        exact Ev.now _)
      (by
        intro i hi ih
        refine Ev.step (fun k => by rw [impl_ZoneOf.l0]) ?_
        unfold impl_zoneAt.f
        simp only [if_pos (show (i : Int) < (L.length : Int) by omega), if_pos (show 0 ≤ (i : Int) by omega), Option.bind_some, tail]
        rw [inc i (by omega), lnk_drop L a i hi]
        by_cases h : (rd_T47 L (i : Int)).f0 = a
        · simp only [if_pos h]
          exact Ev.now _
        · simp only [if_neg h]
          exact ih)
    exact key 0 (by omega)
  · simp only [if_neg h]
    exact Ev.now _

theorem FnExactZoneOf : ∀ (l0_0 : (List S68)) (l0_1 : (List S70)) (l0_2 : (List S72)) (a1 : Int), (l0_0.length ≤ 9223372036854775807 ∧ ∀ x ∈ l0_0, ((Lit.int .i64 x.f0).wf = true ∧ (Lit.int .i64 x.f1).wf = true ∧ (Lit.int .i64 x.f2).wf = true ∧ (Lit.int .i64 x.f3).wf = true ∧ ((Lit.int .i64 x.f4.f0).wf = true ∧ (Lit.int .i64 x.f4.f1).wf = true ∧ (Lit.int .i64 x.f4.f2).wf = true) ∧ (Lit.int .i64 x.f5).wf = true ∧ (Lit.int .i64 x.f6).wf = true)) → (l0_1.length ≤ 9223372036854775807 ∧ ∀ x ∈ l0_1, ((Lit.int .i64 x.f0).wf = true ∧ (Lit.int .i64 x.f1).wf = true ∧ (Lit.int .i64 x.f2).wf = true)) → (l0_2.length ≤ 9223372036854775807 ∧ ∀ x ∈ l0_2, ((Lit.int .i64 x.f0).wf = true ∧ (Lit.int .i64 x.f1).wf = true)) → (Lit.int .i64 a1).wf = true → ∃ k, laws_FnExactZoneOf.f k l0_0 l0_1 l0_2 a1 = some true := by
  intro R Z L a h1 h2 h3 _
  refine Ev.rounds ?_
  unfold laws_FnExactZoneOf.f
  obtain ⟨r, e, hr⟩ := sz_source R Z L h1.1 h2.1 h3.1
  rw [e]
  simp only [Option.bind_some]
  by_cases h : r < 0
  · simp only [if_pos h]; exact Ev.now _
  · obtain ⟨g1, g2, g3⟩ := hr h
    simp only [if_neg h]
    have m1 : (R.map cvR).length ≤ 1048576 := by rw [List.length_map]; exact g1
    have m2 : (Z.map cvZ).length ≤ 1048576 := by rw [List.length_map]; exact g2
    have m3 : (L.map cvL).length ≤ 1048576 := by rw [List.length_map]; exact g3
    have tr := to_source R Z L g1 g2 g3
    refine Ev.bind tr (Ev.bind (s_ZoneOf _ _ _ a m1 m2 m3) (Ev.bind tr (Ev.bind (i_ZoneOf _ _ _ a m1 m2 m3) ?_)))
    generalize (if sOk (R.map cvR) (Z.map cvZ) (L.map cvL) = true then zr (Z.map cvZ) (impl_zoneAt.at_ (Z.map cvZ) (lnk (L.map cvL) a) 0) else (0, 0, 0, false)) = x
    unfold laws_eqZone.f
    simp only [if_true, Option.bind_some, bne_self_eq_false]
    refine Ev.step (fun k => by rw [laws_FnExactZoneOf.j0]) ?_
    simp only [Bool.false_eq_true, if_false]
    refine Ev.bind tr (Ev.bind (eq_source _ _ _ m1 m2 m3) ?_)
    simp only [if_true]
    exact Ev.now _

end Go.Proofs.Ytffchioimceemaa.Pure
