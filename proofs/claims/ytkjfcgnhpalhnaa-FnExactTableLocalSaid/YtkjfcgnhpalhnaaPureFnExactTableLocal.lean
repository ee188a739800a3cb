/- The law FnExactTableLocal answers true for every argument. No condition. -/
import Derived.Test.YtkjfcgnhpalhnaaPFnExactTableLocalx7
namespace Go.Proofs.Ytkjfcgnhpalhnaa.Pure
open Go.RowKit Go.Proofs.Ytkjfcgnhpalhnaa.PFnExactTableLocal Go.Proofs.YtkjfcgnhpalhnaaW.PrintWords Go.Proofs.YtkjfcgnhpalhnaaW.PrintLast
set_option linter.unusedVariables false
set_option linter.unusedSimpArgs false

theorem w64 (n : Int) (h0 : -9223372036854775808 ≤ n) (h1 : n ≤ 9223372036854775807) : wrap64 n = n := by unfold wrap64; omega
theorem tmn {a : Int} (b : Int) (h : 0 ≤ a) : Int.tmod a b = a % b := Int.tmod_eq_emod_of_nonneg h
theorem wfi {x : Int} (h : (Lit.int .i64 x).wf = true) : -9223372036854775808 ≤ x ∧ x ≤ 9223372036854775807 := by
  simp [Lit.wf, IntKind.min, IntKind.max, IntKind.signed, IntKind.bits] at h
  omega
theorem wf8 {x : Int} (h : (Lit.int .u8 x).wf = true) : 0 ≤ x ∧ x ≤ 255 := by
  simp [Lit.wf, IntKind.min, IntKind.max, IntKind.signed, IntKind.bits] at h
  omega
theorem evc {α : Type} {g : Nat → Option α} {r : α} (h : ∀ k, g k = some r) : Ev g r := ⟨0, fun k _ => h k⟩
theorem getD_mem {α : Type} (l : List α) (n : Nat) (z : α) (h : n < l.length) : l.getD n z ∈ l := by
  rw [List.getD_eq_getElem?_getD, List.getElem?_eq_getElem h]
  exact List.getElem_mem h
theorem ex_step {α : Type} {g f : Nat → Option α} (h : ∀ k, g (k + 1) = f k) (e : ∃ r, Ev f r) : ∃ r, Ev g r := by
  obtain ⟨r, e⟩ := e
  exact ⟨r, Ev.step h e⟩
theorem ex_bind {α β : Type} {g : Nat → Option α} {f : Nat → α → Option β} {a : α} (h : Ev g a) (e : ∃ r, Ev (fun n => f n a) r) : ∃ r, Ev (fun n => (g n).bind (f n)) r := by
  obtain ⟨r, e⟩ := e
  exact ⟨r, Ev.bind h e⟩

theorem up_ind (n : Nat) (P : Nat → Prop) (he : P n) (hs : ∀ i, i < n → P (i + 1) → P i) (i : Nat) (h : i ≤ n) : P i := by
  have key : ∀ (d i : Nat), i + d = n → P i := by
    intro d
    induction d with
    | zero => intro i h; obtain rfl : i = n := by omega
              exact he
    | succ d ih => intro i h; exact hs i (by omega) (ih (i + 1) (by omega))
  exact key (n - i) i (by omega)
theorem eq_fill {β : Type} (y : Nat → β) (n : Nat) (ys : List β) (hl : ys.length = n) (h : ∀ j, j < n → ys[j]? = some (y j)) : ys = (List.range n).map y := by
  apply List.ext_getElem?
  intro j
  by_cases hj : j < n
  · rw [h j hj]; simp [hj]
  · rw [List.getElem?_eq_none (by omega), List.getElem?_eq_none (by simp; omega)]
theorem map_rd {α β : Type} (l : List α) (z : α) (f : α → β) : (List.range l.length).map (fun i => f (l.getD i z)) = l.map f := by
  apply List.ext_getElem?
  intro j
  by_cases hj : j < l.length
  · simp [hj, List.getD]
  · rw [List.getElem?_eq_none (by simp; omega), List.getElem?_eq_none (by simp; omega)]
theorem set_fill {β : Type} (y : Nat → β) (i : Nat) (ys : List β) (h : ∀ j, j < i → ys[j]? = some (y j)) (hi : i < ys.length) : ∀ j, j < i + 1 → (ys.set i (y i))[j]? = some (y j) := by
  intro j hj
  by_cases e : j = i
  · subst e; rw [List.getElem?_set_self hi]
  · rw [List.getElem?_set_ne (by omega)]; exact h j (by omega)
theorem inc (i : Nat) (h : i < 1000000000000000) : wrap64 ((i : Int) + 1) = ((i + 1 : Nat) : Int) := by rw [w64 _ (by omega) (by omega)]; omega

def Lp (y : Int) : Prop := y % 4 = 0 ∧ (¬ y % 100 = 0 ∨ y % 400 = 0)
instance (y : Int) : Decidable (Lp y) := by unfold Lp; exact inferInstance
def ylen (y : Int) : Int := if Lp y then 366 else 365
def beg (y : Int) : Int := 365 * (y - 1970) + (y - 1969) / 4 - (y - 1901) / 100 + (y - 1601) / 400
def mlen (y m : Int) : Int := if m = 2 then (if Lp y then 29 else 28) else if m = 4 then 30 else if m = 6 then 30 else if m = 9 then 30 else if m = 11 then 30 else 31
def cum (y m : Int) : Int := (367 * m - 362) / 12 - (if m ≤ 2 then 0 else if Lp y then 1 else 2)
def ML (y m : Int) : Int := if 1900 ≤ y ∧ y ≤ 2200 ∧ 1 ≤ m ∧ m ≤ 12 then mlen y m else 0
theorem beg_succ (y : Int) : beg (y + 1) = beg y + ylen y := by
  unfold beg ylen
  by_cases h : Lp y
  · rw [if_pos h]; unfold Lp at h; omega
  · rw [if_neg h]; unfold Lp at h; omega
theorem ylen_bd (y : Int) : 365 ≤ ylen y ∧ ylen y ≤ 366 := by unfold ylen; split <;> omega
theorem mlen_bd (y m : Int) : 28 ≤ mlen y m ∧ mlen y m ≤ 31 := by unfold mlen; repeat (first | omega | split)
theorem cum_succ (y m : Int) (h1 : 1 ≤ m) (h2 : m ≤ 12) : cum y (m + 1) = cum y m + mlen y m := by
  have : m = 1 ∨ m = 2 ∨ m = 3 ∨ m = 4 ∨ m = 5 ∨ m = 6 ∨ m = 7 ∨ m = 8 ∨ m = 9 ∨ m = 10 ∨ m = 11 ∨ m = 12 := by omega
  unfold cum mlen
  rcases this with rfl | rfl | rfl | rfl | rfl | rfl | rfl | rfl | rfl | rfl | rfl | rfl <;> by_cases h : Lp y <;> simp [h]
theorem cum_one (y : Int) : cum y 1 = 0 := by unfold cum; simp
theorem cum_13 (y : Int) : cum y 13 = ylen y := by unfold cum ylen; by_cases h : Lp y <;> simp [h]
theorem cum_mono (y m n : Int) (h1 : 1 ≤ m) (h : m ≤ n) (h2 : n ≤ 13) : cum y m ≤ cum y n := by
  unfold cum; split <;> split <;> (try split) <;> omega
theorem cum_bd (y m : Int) (h1 : 1 ≤ m) (h2 : m ≤ 13) : 0 ≤ cum y m ∧ cum y m ≤ 366 := by
  unfold cum; split <;> (try split) <;> omega
theorem beg_bd (y : Int) (h1 : 1900 ≤ y) (h2 : y ≤ 2201) : -25567 ≤ beg y ∧ beg y ≤ 84371 := by unfold beg; omega
theorem beg_mono (y z : Int) (h : y ≤ z) : beg y ≤ beg z := by unfold beg; omega
theorem beg_1970 : beg 1970 = 0 := by decide
theorem beg_1900 : beg 1900 = -25567 := by decide
theorem beg_2201 : beg 2201 = 84371 := by decide
theorem ML_in {y m : Int} (h1 : 1900 ≤ y) (h2 : y ≤ 2200) (h3 : 1 ≤ m) (h4 : m ≤ 12) : ML y m = mlen y m := by unfold ML; rw [if_pos ⟨h1, h2, h3, h4⟩]
theorem ML_pos {y m : Int} (h : 0 < ML y m) : 1900 ≤ y ∧ y ≤ 2200 ∧ 1 ≤ m ∧ m ≤ 12 := by
  unfold ML at h; split at h
  · assumption
  · omega
theorem ML_bd (y m : Int) : 0 ≤ ML y m ∧ ML y m ≤ 31 := by
  have := mlen_bd y m
  unfold ML; split <;> omega
/-- The year of a day. -/
theorem year_of (day : Int) (h1 : -25567 ≤ day) (h2 : day < 84371) : ∃ y, 1900 ≤ y ∧ y ≤ 2200 ∧ beg y ≤ day ∧ day < beg (y + 1) := by
  have key : ∀ (d : Nat) (y : Int), y + d = 2201 → 1900 ≤ y → beg y ≤ day → ∃ z, 1900 ≤ z ∧ z ≤ 2200 ∧ beg z ≤ day ∧ day < beg (z + 1) := by
    intro d
    induction d with
    | zero => intro y hy h3 h4; have : y = 2201 := by omega
              subst this; rw [beg_2201] at h4; omega
    | succ d ih =>
      intro y hy h3 h4
      by_cases h : day < beg (y + 1)
      · exact ⟨y, h3, by omega, h4, h⟩
      · exact ih (y + 1) (by omega) (by omega) (by omega)
  exact key 301 1900 (by omega) (by omega) (by rw [beg_1900]; exact h1)
theorem month_of (y left : Int) (h1 : 0 ≤ left) (h2 : left < ylen y) : ∃ m, 1 ≤ m ∧ m ≤ 12 ∧ cum y m ≤ left ∧ left < cum y m + mlen y m := by
  have key : ∀ (d : Nat) (m : Int), m + d = 13 → 1 ≤ m → cum y m ≤ left → ∃ z, 1 ≤ z ∧ z ≤ 12 ∧ cum y z ≤ left ∧ left < cum y z + mlen y z := by
    intro d
    induction d with
    | zero => intro m hm h3 h4; have : m = 13 := by omega
              subst this; rw [cum_13] at h4; omega
    | succ d ih =>
      intro m hm h3 h4
      by_cases h : left < cum y m + mlen y m
      · exact ⟨m, h3, by omega, h4, h⟩
      · exact ih (m + 1) (by omega) (by omega) (by rw [cum_succ y m h3 (by omega)]; omega)
  exact key 12 1 (by omega) (by omega) (by rw [cum_one]; exact h1)
def num (y m d : Int) : Int := beg y + cum y m + d - 1
def Vld (y m d : Int) : Prop := 1900 ≤ y ∧ y ≤ 2200 ∧ 1 ≤ m ∧ m ≤ 12 ∧ 1 ≤ d ∧ d ≤ mlen y m
theorem date_of (day : Int) (h1 : -25567 ≤ day) (h2 : day < 84371) : ∃ y m d, Vld y m d ∧ num y m d = day := by
  obtain ⟨y, hy1, hy2, hb, hb2⟩ := year_of day h1 h2
  rw [beg_succ] at hb2
  obtain ⟨m, hm1, hm2, hc, hc2⟩ := month_of y (day - beg y) (by omega) (by omega)
  exact ⟨y, m, day - beg y - cum y m + 1, ⟨hy1, hy2, hm1, hm2, by omega, by omega⟩, by unfold num; omega⟩
theorem num_year {y m d : Int} (h : Vld y m d) : beg y ≤ num y m d ∧ num y m d < beg (y + 1) := by
  obtain ⟨h1, h2, h3, h4, h5, h6⟩ := h
  have := cum_bd y m h3 (by omega)
  have a := cum_mono y (m + 1) 13 (by omega) (by omega) (by omega)
  rw [cum_succ y m h3 h4, cum_13] at a
  rw [beg_succ]; unfold num; omega
theorem num_inj {y m d y' m' d' : Int} (h : Vld y m d) (h' : Vld y' m' d') (e : num y m d = num y' m' d') : y = y' ∧ m = m' ∧ d = d' := by
  have a := num_year h
  have b := num_year h'
  have hy : y = y' := by
    rcases Int.lt_trichotomy y y' with c | c | c
    · have := beg_mono (y + 1) y' (by omega); omega
    · exact c
    · have := beg_mono (y' + 1) y (by omega); omega
  subst hy
  obtain ⟨h1, h2, h3, h4, h5, h6⟩ := h
  obtain ⟨g1, g2, g3, g4, g5, g6⟩ := h'
  unfold num at e
  have hm : m = m' := by
    rcases Int.lt_trichotomy m m' with c | c | c
    · have := cum_mono y (m + 1) m' (by omega) (by omega) (by omega); rw [cum_succ y m h3 h4] at this; omega
    · exact c
    · have := cum_mono y (m' + 1) m (by omega) (by omega) (by omega); rw [cum_succ y m' g3 g4] at this; omega
  subst hm
  exact ⟨rfl, rfl, by omega⟩
theorem num_bd {y m d : Int} (h : Vld y m d) : -25567 ≤ num y m d ∧ num y m d < 84371 := by
  have a := num_year h
  have b := beg_bd y h.1 (by have := h.2.1; omega)
  have c := beg_mono (y + 1) 2201 (by have := h.2.1; omega)
  rw [beg_2201] at c; omega

theorem i_within (n a b : Int) : impl_within.f n a b = some (decide (a ≤ n ∧ n ≤ b)) := by
  unfold impl_within.f
  by_cases h : n ≥ a
  · rw [if_pos h]; simp [show a ≤ n from h]
  · rw [if_neg h]; simp [show ¬ a ≤ n from h]

theorem i_isLeap (y : Int) (h : 0 ≤ y) : impl_isLeap.f y = some (decide (Lp y)) := by
  unfold impl_isLeap.f
  simp only [tmn _ h]
  unfold Lp
  by_cases h4 : y % 4 = 0
  · by_cases h100 : y % 100 = 0
    · rw [if_pos h4, if_pos h100]
      by_cases h400 : y % 400 = 0 <;> simp [h4, h100, h400]
    · rw [if_pos h4, if_neg h100]; simp [h4, h100]
  · rw [if_neg h4]
    have h400 : ¬ y % 400 = 0 := by omega
    simp [h4, h400]
theorem i_isYear (y : Int) : impl_isYear.f y = some (decide (1900 ≤ y ∧ y ≤ 2200)) := by
  unfold impl_isYear.f; rw [i_within]; rfl
theorem i_MonthLong (y m : Int) : Ev (fun k => impl_MonthLong.f k y m) (ML y m) := by
  unfold impl_MonthLong.f
  rw [i_isYear]
  simp only [Option.bind_some]
  by_cases h : 1900 ≤ y ∧ y ≤ 2200
  · rw [i_within]
    simp only [decide_eq_true h, if_true, Option.bind_some]
    by_cases hm : 1 ≤ m ∧ m ≤ 12
    · refine Ev.step (fun k => by rw [impl_MonthLong.j0]) ?_
      rw [ML_in h.1 h.2 hm.1 hm.2]
      simp only [decide_eq_true hm, Bool.not_true, Bool.false_eq_true, if_false]
      obtain ⟨h1, h2⟩ := hm
      have : m = 1 ∨ m = 2 ∨ m = 3 ∨ m = 4 ∨ m = 5 ∨ m = 6 ∨ m = 7 ∨ m = 8 ∨ m = 9 ∨ m = 10 ∨ m = 11 ∨ m = 12 := by omega
      rw [i_isLeap y (by omega)]
      unfold mlen
      rcases this with rfl | rfl | rfl | rfl | rfl | rfl | rfl | rfl | rfl | rfl | rfl | rfl
      · exact evc fun _ => by simp [wrap64, rd]
      · by_cases hl : Lp y
        · exact evc fun _ => by simp [hl]
        · exact evc fun _ => by simp [hl, wrap64, rd]
      all_goals exact evc fun _ => by simp [wrap64, rd]
    · refine Ev.step (fun k => by rw [impl_MonthLong.j0]) ?_
      have e : ML y m = 0 := by unfold ML; rw [if_neg (by omega)]
      rw [e]
      simp only [decide_eq_false hm, Bool.not_false, if_true]
      exact Ev.now _
  · simp only [decide_eq_false h, Bool.false_eq_true, if_false]
    refine Ev.step (fun k => by rw [impl_MonthLong.j0]) ?_
    have e : ML y m = 0 := by unfold ML; rw [if_neg (by omega)]
    rw [e]
    simp only [if_true]
    exact Ev.now _

theorem i_yearLong (y : Int) (h : 0 ≤ y) : impl_yearLong.f y = some (ylen y) := by
  unfold impl_yearLong.f; rw [i_isLeap y h]; unfold ylen
  by_cases hl : Lp y <;> simp [hl]
theorem i_begins1 : ∀ (d : Nat) (n acc : Int), n + d = 1970 → 1900 ≤ n → -1000000 ≤ acc - 366 * (1970 - n) → acc ≤ 1000000 → Ev (fun k => impl_yearBegins.l1 k acc n) (acc + beg n) := by
  intro d
  induction d with
  | zero =>
    intro n acc h1 h2 h3 h4
    obtain rfl : n = 1970 := by omega
    refine Ev.step (fun k => by rw [impl_yearBegins.l1]) ?_
    rw [beg_1970]; simp only [Int.lt_irrefl, if_false, Int.add_zero]; exact Ev.now _
  | succ d ih =>
    intro n acc h1 h2 h3 h4
    refine Ev.step (fun k => by rw [impl_yearBegins.l1]) ?_
    rw [i_yearLong n (by omega)]
    have hb := ylen_bd n
    have hs := beg_succ n
    simp only [if_pos (show n < 1970 by omega), Option.bind_some]
    rw [w64 (acc - ylen n) (by omega) (by omega), w64 (n + 1) (by omega) (by omega)]
    have := ih (n + 1) (acc - ylen n) (by omega) (by omega) (by omega) (by omega)
    rwa [show acc - ylen n + beg (n + 1) = acc + beg n by omega] at this
theorem i_begins0 : ∀ (d : Nat) (y n : Int), n + d = y → 1970 ≤ n → y ≤ 2201 → Ev (fun k => impl_yearBegins.l0 k y (beg n) n) (beg y) := by
  intro d
  induction d with
  | zero =>
    intro y n h1 h2 h3
    obtain rfl : n = y := by omega
    refine Ev.step (fun k => by rw [impl_yearBegins.l0]) ?_
    simp only [Int.lt_irrefl, if_false]
    refine Ev.step (fun k => by rw [impl_yearBegins.l1]) ?_
    simp only [if_neg (show ¬ n < 1970 by omega)]; exact Ev.now _
  | succ d ih =>
    intro y n h1 h2 h3
    refine Ev.step (fun k => by rw [impl_yearBegins.l0]) ?_
    rw [i_yearLong n (by omega)]
    have hb := beg_bd n (by omega) (by omega)
    have hq := ylen_bd n
    simp only [if_pos (show n < y by omega), Option.bind_some]
    rw [w64 (beg n + ylen n) (by omega) (by omega), w64 (n + 1) (by omega) (by omega), ← beg_succ]
    exact ih y (n + 1) (by omega) (by omega) h3
theorem i_yearBegins (y : Int) (h1 : 1900 ≤ y) (h2 : y ≤ 2201) : Ev (fun k => impl_yearBegins.f k y) (beg y) := by
  unfold impl_yearBegins.f
  by_cases h : 1970 ≤ y
  · have := i_begins0 (y - 1970).toNat y 1970 (by omega) (by omega) h2
    rwa [beg_1970] at this
  · refine Ev.step (fun k => by rw [impl_yearBegins.l0]) ?_
    simp only [if_neg (show ¬ (1970 : Int) < y by omega)]
    have := i_begins1 (1970 - y).toNat y 0 (by omega) (by omega) (by omega) (by omega)
    rwa [Int.zero_add] at this

theorem s_In (n a b : Int) : spec_l1In.f n a b = some (decide (a ≤ n ∧ n ≤ b)) := by
  unfold spec_l1In.f
  by_cases h : n ≥ a
  · rw [if_pos h]; simp [show a ≤ n from h]
  · rw [if_neg h]; simp [show ¬ a ≤ n from h]

theorem s_Leap (y : Int) (h : 0 ≤ y) : spec_l11Leap.f y = some (decide (Lp y)) := by
  unfold spec_l11Leap.f
  simp only [tmn _ h]
  unfold Lp
  by_cases h4 : y % 4 = 0
  · by_cases h100 : y % 100 = 0
    · rw [if_pos h4, if_pos h100]
      by_cases h400 : y % 400 = 0 <;> simp [h4, h100, h400]
    · rw [if_pos h4, if_neg h100]; simp [h4, h100]
  · rw [if_neg h4]
    simp [h4]
theorem s_Long (y m : Int) (h : 0 ≤ y) : spec_l11Long.f y m = some (mlen y m) := by
  unfold spec_l11Long.f mlen
  rw [s_Leap y h]
  simp only [Option.bind_some]
  by_cases h2 : m = 2
  · rw [if_pos h2, if_pos h2]; by_cases hl : Lp y <;> simp [hl]
  · rw [if_neg h2, if_neg h2]
    repeat (first | rfl | split)

theorem s_begin1 : ∀ (d : Nat) (y n : Int), y + d = n + 1 → 1900 ≤ y → n ≤ 2200 → Ev (fun k => spec_l11Begin.l1 k y (beg (n + 1)) n) (beg y) := by
  intro d
  induction d with
  | zero =>
    intro y n h1 h2 h3
    obtain rfl : n = y - 1 := by omega
    refine Ev.step (fun k => by rw [spec_l11Begin.l1]) ?_
    simp only [if_neg (show ¬ y - 1 ≥ y by omega)]
    rw [show y - 1 + 1 = y by omega]
    exact Ev.now _
  | succ d ih =>
    intro y n h1 h2 h3
    refine Ev.step (fun k => by rw [spec_l11Begin.l1]) ?_
    simp only [if_pos (show n ≥ y by omega)]
    rw [s_Leap n (by omega)]
    have hb := beg_bd n (by omega) (by omega)
    have hs := beg_succ n
    have hq := ylen_bd n
    have i := ih y (n - 1) (by omega) h2 (by omega)
    rw [show n - 1 + 1 = n by omega] at i
    simp only [Option.bind_some]
    rw [w64 (beg (n + 1) - 365) (by omega) (by omega), w64 (beg (n + 1) - 365 - 1) (by omega) (by omega), w64 (n - 1) (by omega) (by omega)]
    unfold ylen at hs
    by_cases hl : Lp n
    · rw [if_pos hl] at hs
      simp only [decide_eq_true hl, if_true]
      rwa [show beg (n + 1) - 365 - 1 = beg n by omega]
    · rw [if_neg hl] at hs
      simp only [decide_eq_false hl, Bool.false_eq_true, if_false]
      rwa [show beg (n + 1) - 365 = beg n by omega]
theorem s_begin0 : ∀ (d : Nat) (y n : Int), n + d = y → 1970 ≤ n → y ≤ 2201 → Ev (fun k => spec_l11Begin.l0 k y (beg n) n) (beg y) := by
  intro d
  induction d with
  | zero =>
    intro y n h1 h2 h3
    obtain rfl : n = y := by omega
    refine Ev.step (fun k => by rw [spec_l11Begin.l0]) ?_
    simp only [Int.lt_irrefl, if_false]
    refine Ev.step (fun k => by rw [spec_l11Begin.l1]) ?_
    simp only [if_neg (show ¬ (1969 : Int) ≥ n by omega)]
    exact Ev.now _
  | succ d ih =>
    intro y n h1 h2 h3
    refine Ev.step (fun k => by rw [spec_l11Begin.l0]) ?_
    rw [s_Leap n (by omega)]
    have hb := beg_bd n (by omega) (by omega)
    have hs := beg_succ n
    simp only [if_pos (show n < y by omega), Option.bind_some]
    have i := ih y (n + 1) (by omega) (by omega) h3
    rw [w64 (beg n + 365) (by omega) (by omega), w64 (beg n + 365 + 1) (by omega) (by omega), w64 (n + 1) (by omega) (by omega)]
    unfold ylen at hs
    by_cases hl : Lp n
    · rw [if_pos hl] at hs
      simp only [decide_eq_true hl, if_true]
      rwa [show beg n + 365 + 1 = beg (n + 1) by omega]
    · rw [if_neg hl] at hs
      simp only [decide_eq_false hl, Bool.false_eq_true, if_false]
      rwa [show beg n + 365 = beg (n + 1) by omega]
theorem s_Begin (y : Int) (h1 : 1900 ≤ y) (h2 : y ≤ 2201) : Ev (fun k => spec_l11Begin.f k y) (beg y) := by
  unfold spec_l11Begin.f
  by_cases h : 1970 ≤ y
  · have := s_begin0 (y - 1970).toNat y 1970 (by omega) (by omega) h2
    rwa [beg_1970] at this
  · refine Ev.step (fun k => by rw [spec_l11Begin.l0]) ?_
    simp only [if_neg (show ¬ (1970 : Int) < y by omega)]
    have := s_begin1 (1970 - y).toNat y 1969 (by omega) (by omega) (by omega)
    rwa [show (1969 : Int) + 1 = 1970 by omega, beg_1970] at this

theorem i_dateM (y m dd : Int) (v : Vld y m dd) : ∀ (d : Nat) (n : Int), n + d = m → 1 ≤ n → Ev (fun k => impl_DateOf.l1 k (cum y m - cum y n + dd - 1) y n) (y, m, dd, true) := by
  obtain ⟨hy1, hy2, hm1, hm2, hd1, hd2⟩ := v
  intro d
  have hbm := mlen_bd y m
  induction d with
  | zero =>
    intro n h1 h2
    obtain rfl : n = m := by omega
    refine Ev.step (fun k => by rw [impl_DateOf.l1]) ?_
    refine Ev.bind (i_MonthLong y n) ?_
    rw [ML_in hy1 hy2 hm1 hm2]
    rw [show cum y n - cum y n + dd - 1 = dd - 1 by omega]
    simp only [if_neg (show ¬ dd - 1 ≥ mlen y n by omega)]
    rw [w64 (dd - 1 + 1) (by omega) (by omega), show dd - 1 + 1 = dd by omega]
    exact Ev.now _
  | succ d ih =>
    intro n h1 h2
    refine Ev.step (fun k => by rw [impl_DateOf.l1]) ?_
    refine Ev.bind (i_MonthLong y n) ?_
    rw [ML_in hy1 hy2 h2 (by omega)]
    have hs := cum_succ y n h2 (by omega)
    have hmo := cum_mono y (n + 1) m (by omega) (by omega) (by omega)
    have hb1 := cum_bd y m hm1 (by omega)
    have hb2 := cum_bd y n h2 (by omega)
    have hb := mlen_bd y n
    simp only [if_pos (show cum y m - cum y n + dd - 1 ≥ mlen y n by omega)]
    refine Ev.bind (i_MonthLong y n) ?_
    rw [ML_in hy1 hy2 h2 (by omega)]
    rw [w64 (cum y m - cum y n + dd - 1 - mlen y n) (by omega) (by omega), w64 (n + 1) (by omega) (by omega)]
    have := ih (n + 1) (by omega) (by omega)
    rwa [show cum y m - cum y (n + 1) + dd - 1 = cum y m - cum y n + dd - 1 - mlen y n by omega] at this
theorem i_dateY (y m dd : Int) (v : Vld y m dd) : ∀ (d : Nat) (n : Int), n + d = y → 1900 ≤ n → Ev (fun k => impl_DateOf.l0 k (num y m dd - beg n) n) (y, m, dd, true) := by
  have hn := num_year v
  have hv := v
  obtain ⟨hy1, hy2, hm1, hm2, hd1, hd2⟩ := v
  intro d
  induction d with
  | zero =>
    intro n h1 h2
    obtain rfl : n = y := by omega
    refine Ev.step (fun k => by rw [impl_DateOf.l0]) ?_
    rw [i_yearLong n (by omega)]
    have hs := beg_succ n
    simp only [Option.bind_some, if_neg (show ¬ num n m dd - beg n ≥ ylen n by omega)]
    have := i_dateM n m dd hv (m - 1).toNat 1 (by omega) (by omega)
    rw [cum_one] at this
    rwa [show num n m dd - beg n = cum n m - 0 + dd - 1 by unfold num; omega]
  | succ d ih =>
    intro n h1 h2
    refine Ev.step (fun k => by rw [impl_DateOf.l0]) ?_
    rw [i_yearLong n (by omega)]
    have hs := beg_succ n
    have hmo := beg_mono (n + 1) y (by omega)
    have hb1 := num_bd hv
    have hb2 := beg_bd n h2 (by omega)
    have hq := ylen_bd n
    simp only [Option.bind_some, if_pos (show num y m dd - beg n ≥ ylen n by omega)]
    rw [w64 (num y m dd - beg n - ylen n) (by omega) (by omega), w64 (n + 1) (by omega) (by omega)]
    have := ih (n + 1) (by omega) (by omega)
    rwa [show num y m dd - beg (n + 1) = num y m dd - beg n - ylen n by omega] at this
theorem i_DateOf (y m dd : Int) (v : Vld y m dd) : Ev (fun k => impl_DateOf.f k (num y m dd)) (y, m, dd, true) := by
  unfold impl_DateOf.f
  have hb := num_bd v
  refine Ev.bind (i_yearBegins 1900 (by omega) (by omega)) (Ev.bind (i_yearBegins 2201 (by omega) (by omega)) ?_)
  rw [i_within]
  rw [beg_1900, beg_2201]
  simp only [Option.bind_some, decide_eq_true (show (-25567 : Int) ≤ num y m dd ∧ num y m dd ≤ wrap64 (84371 - 1) by unfold wrap64; omega), if_true]
  refine Ev.bind (i_yearBegins 1900 (by omega) (by omega)) ?_
  rw [w64 (num y m dd - beg 1900) (by rw [beg_1900]; omega) (by rw [beg_1900]; omega)]
  exact i_dateY y m dd v (y - 1900).toNat 1900 (by have := v.1; omega) (by omega)
theorem i_DateOf_no (day : Int) (h : day < -25567 ∨ 84371 ≤ day) : Ev (fun k => impl_DateOf.f k day) (0, 0, 0, false) := by
  unfold impl_DateOf.f
  refine Ev.bind (i_yearBegins 1900 (by omega) (by omega)) (Ev.bind (i_yearBegins 2201 (by omega) (by omega)) ?_)
  rw [i_within]
  rw [beg_1900, beg_2201]
  simp only [Option.bind_some, decide_eq_false (show ¬ ((-25567 : Int) ≤ day ∧ day ≤ wrap64 (84371 - 1)) by unfold wrap64; omega), Bool.false_eq_true, if_false]
  exact Ev.now _

theorem s_dateM (y m dd : Int) (v : Vld y m dd) : ∀ (d : Nat) (n : Int), n + d = m → 1 ≤ n → Ev (fun k => spec_DateOf.l1 k y (cum y m - cum y n + dd - 1) n) (y, m, dd, true) := by
  obtain ⟨hy1, hy2, hm1, hm2, hd1, hd2⟩ := v
  intro d
  have hbm := mlen_bd y m
  induction d with
  | zero =>
    intro n h1 h2
    obtain rfl : n = m := by omega
    refine Ev.step (fun k => by rw [spec_DateOf.l1]) ?_
    rw [s_Long y n (by omega)]
    rw [show cum y n - cum y n + dd - 1 = dd - 1 by omega]
    simp only [Option.bind_some, if_neg (show ¬ dd - 1 ≥ mlen y n by omega)]
    rw [w64 (dd - 1 + 1) (by omega) (by omega), show dd - 1 + 1 = dd by omega]
    exact Ev.now _
  | succ d ih =>
    intro n h1 h2
    refine Ev.step (fun k => by rw [spec_DateOf.l1]) ?_
    rw [s_Long y n (by omega)]
    have hs := cum_succ y n h2 (by omega)
    have hmo := cum_mono y (n + 1) m (by omega) (by omega) (by omega)
    have hb1 := cum_bd y m hm1 (by omega)
    have hb2 := cum_bd y n h2 (by omega)
    have hb := mlen_bd y n
    simp only [Option.bind_some, if_pos (show cum y m - cum y n + dd - 1 ≥ mlen y n by omega)]
    rw [w64 (cum y m - cum y n + dd - 1 - mlen y n) (by omega) (by omega), w64 (n + 1) (by omega) (by omega)]
    have := ih (n + 1) (by omega) (by omega)
    rwa [show cum y m - cum y (n + 1) + dd - 1 = cum y m - cum y n + dd - 1 - mlen y n by omega] at this
theorem s_dateY (y m dd : Int) (v : Vld y m dd) : ∀ (d : Nat) (n : Int), n + d = y → 1900 ≤ n → Ev (fun k => spec_DateOf.l0 k (num y m dd) n) (y, m, dd, true) := by
  have hn := num_year v
  have hv := v
  obtain ⟨hy1, hy2, hm1, hm2, hd1, hd2⟩ := v
  intro d
  induction d with
  | zero =>
    intro n h1 h2
    obtain rfl : n = y := by omega
    refine Ev.step (fun k => by rw [spec_DateOf.l0]) ?_
    rw [w64 (n + 1) (by omega) (by omega)]
    refine Ev.bind (s_Begin (n + 1) (by omega) (by omega)) ?_
    simp only [if_neg (show ¬ num n m dd ≥ beg (n + 1) by omega)]
    refine Ev.bind (s_Begin n (by omega) (by omega)) ?_
    have hs := beg_succ n
    have hq := ylen_bd n
    have := s_dateM n m dd hv (m - 1).toNat 1 (by omega) (by omega)
    rw [cum_one] at this
    rw [w64 (num n m dd - beg n) (by omega) (by omega)]
    rwa [show num n m dd - beg n = cum n m - 0 + dd - 1 by unfold num; omega]
  | succ d ih =>
    intro n h1 h2
    refine Ev.step (fun k => by rw [spec_DateOf.l0]) ?_
    rw [w64 (n + 1) (by omega) (by omega)]
    refine Ev.bind (s_Begin (n + 1) (by omega) (by omega)) ?_
    have hmo := beg_mono (n + 1) y (by omega)
    simp only [if_pos (show num y m dd ≥ beg (n + 1) by omega)]
    exact ih (n + 1) (by omega) (by omega)
theorem s_DateOf (y m dd : Int) (v : Vld y m dd) : Ev (fun k => spec_DateOf.f k (num y m dd)) (y, m, dd, true) := by
  unfold spec_DateOf.f
  have hb := num_bd v
  refine Ev.bind (s_Begin 1900 (by omega) (by omega)) ?_
  rw [beg_1900]
  simp only [if_neg (show ¬ num y m dd < -25567 by omega)]
  refine Ev.bind (s_Begin 2201 (by omega) (by omega)) ?_
  rw [beg_2201]
  refine Ev.step (fun k => by rw [spec_DateOf.j0]) ?_
  simp only [decide_eq_false (show ¬ num y m dd ≥ 84371 by omega), Bool.false_eq_true, if_false]
  exact s_dateY y m dd v (y - 1900).toNat 1900 (by have := v.1; omega) (by omega)
theorem s_DateOf_no (day : Int) (h : day < -25567 ∨ 84371 ≤ day) : Ev (fun k => spec_DateOf.f k day) (0, 0, 0, false) := by
  unfold spec_DateOf.f
  refine Ev.bind (s_Begin 1900 (by omega) (by omega)) ?_
  rw [beg_1900]
  by_cases hl : day < -25567
  · simp only [if_pos hl]
    refine Ev.step (fun k => by rw [spec_DateOf.j0]) ?_
    simp only [if_true]
    exact Ev.now _
  · simp only [if_neg hl]
    refine Ev.bind (s_Begin 2201 (by omega) (by omega)) ?_
    rw [beg_2201]
    refine Ev.step (fun k => by rw [spec_DateOf.j0]) ?_
    simp only [decide_eq_true (show day ≥ 84371 by omega), if_true]
    exact Ev.now _

theorem date_same (day : Int) : ∃ r, Ev (fun k => impl_DateOf.f k day) r ∧ Ev (fun k => spec_DateOf.f k day) r := by
  by_cases h : -25567 ≤ day ∧ day < 84371
  · obtain ⟨y, m, d, v, rfl⟩ := date_of day h.1 h.2
    exact ⟨_, i_DateOf y m d v, s_DateOf y m d v⟩
  · exact ⟨_, i_DateOf_no day (by omega), s_DateOf_no day (by omega)⟩

def cvS (x : S119) : S88 := ⟨x.f0, x.f1⟩
theorem to_shifts (l : List S119) (hl : l.length ≤ 1048576) : Ev (fun k => laws_toShiftS.f k l) (l.map cvS) := by
  unfold laws_toShiftS.f
  simp only [if_pos (show 0 ≤ (l.length : Int) by omega), if_pos (show ((l.length : Int) : Int).toNat ≤ 17592186044416 by omega)]
  have key := up_ind l.length (fun i => ∀ ys : List S88, ys.length = l.length → (∀ j, j < i → ys[j]? = some (cvS (l.getD j z119))) → Ev (fun k => laws_toShiftS.l0 k l ys (i : Int)) (l.map cvS))
    (by
      intro ys hy h
      refine Ev.step (fun k => by rw [laws_toShiftS.l0]) ?_
      simp only [Int.lt_irrefl, if_false]
      rw [eq_fill (fun j => cvS (l.getD j z119)) l.length ys hy h, map_rd]
      exact Ev.now _)
    (by
      intro i hi ih ys hy h
      refine Ev.step (fun k => by rw [laws_toShiftS.l0]) ?_
      unfold laws_toShift.f
      simp only [Option.bind_some, if_pos (show (i : Int) < (l.length : Int) by omega), if_pos (show 0 ≤ (i : Int) by omega), if_pos (show (i : Int) < (ys.length : Int) by omega)]
      rw [inc i (by omega)]
      exact ih _ (by rw [List.length_set]; exact hy) (set_fill (fun j => cvS (l.getD j z119)) i ys h (by omega)))
  have := key 0 (by omega) (List.replicate ((l.length : Int) : Int).toNat z88) (by simp) (fun j hj => by omega)
  exact this
theorem to_table (f : Int) (l : List S119) (hl : l.length ≤ 1048576) : Ev (fun k => laws_toTable.f k f l) (f, l.map cvS) := by
  unfold laws_toTable.f
  exact Ev.bind (to_shifts l hl) (Ev.now _)
theorem eq_shifts (l : List S88) (hl : l.length ≤ 1048576) : Ev (fun k => laws_eqShiftS.f k l l) true := by
  unfold laws_eqShiftS.f
  simp only [if_true]
  have key := up_ind l.length (fun i => Ev (fun k => laws_eqShiftS.l0 k l l (i : Int)) true)
    (by
      refine Ev.step (fun k => by rw [laws_eqShiftS.l0]) ?_
      simp only [Int.lt_irrefl, if_false]
      exact Ev.now _)
    (by
      intro i hi ih
      refine Ev.step (fun k => by rw [laws_eqShiftS.l0]) ?_
      unfold laws_eqShift.f
      simp only [if_pos (show (i : Int) < (l.length : Int) by omega), if_pos (show 0 ≤ (i : Int) by omega), if_true, Option.bind_some]
      rw [inc i (by omega)]
      exact ih)
  exact key 0 (by omega)
theorem eq_table (f : Int) (l : List S88) (hl : l.length ≤ 1048576) : Ev (fun k => laws_eqTable.f k f l f l) true := by
  unfold laws_eqTable.f
  simp only [if_true]
  refine Ev.bind (eq_shifts l hl) ?_
  simp only [if_true]
  exact Ev.now _
/-- What each shift must be: from i on, Off ahead being off. -/
def tk (l : List S88) : Nat → Int → Nat → Bool
  | 0, _, _ => true
  | d + 1, off, i =>
    decide (-1000000000 ≤ (rd_T88 l (i : Int)).f0 ∧ (rd_T88 l (i : Int)).f0 ≤ 1000000000) && (decide (i = 0) || decide ((rd_T88 l ((i : Int) - 1)).f0 < (rd_T88 l (i : Int)).f0)) &&
    decide (-2000 ≤ (rd_T88 l (i : Int)).f1 ∧ (rd_T88 l (i : Int)).f1 ≤ 2000) && decide (¬ (rd_T88 l (i : Int)).f1 = off) && tk l d (rd_T88 l (i : Int)).f1 (i + 1)
def tOk (f : Int) (l : List S88) : Bool := decide (-2000 ≤ f ∧ f ≤ 2000) && decide ((l.length : Int) ≤ 300) && tk l l.length f 0
theorem s_tokl (f : Int) (l : List S88) (hl : l.length ≤ 1048576) : ∀ (d : Nat) (off : Int) (i : Nat), i + d = l.length → Ev (fun k => spec_TableOk.l0 k off (i : Int) f l) (tk l d off i) := by
  intro d
  induction d with
  | zero =>
    intro off i h
    refine Ev.step (fun k => by rw [spec_TableOk.l0]) ?_
    simp only [if_neg (show ¬ (i : Int) < (l.length : Int) by omega)]
    exact Ev.now _
  | succ d ih =>
    intro off i h
    have ih' := ih (rd_T88 l (i : Int)).f1 (i + 1) (by omega)
    refine Ev.step (fun k => by rw [spec_TableOk.l0]) ?_
    rw [s_In, s_In, inc i (by omega)]
    simp only [Option.bind_some, if_pos (show (i : Int) < (l.length : Int) by omega), if_pos (show 0 ≤ (i : Int) by omega), tk]
    by_cases h1 : -1000000000 ≤ (rd_T88 l (i : Int)).f0 ∧ (rd_T88 l (i : Int)).f0 ≤ 1000000000
    · simp only [decide_eq_true h1, if_true, Bool.true_and]
      have tail : Ev (fun k => if decide (-2000 ≤ (rd_T88 l (i : Int)).f1 ∧ (rd_T88 l (i : Int)).f1 ≤ 2000) = true then (if (rd_T88 l (i : Int)).f1 = off then some false else spec_TableOk.l0 k (rd_T88 l (i : Int)).f1 ((i + 1 : Nat) : Int) f l) else some false) (decide (-2000 ≤ (rd_T88 l (i : Int)).f1 ∧ (rd_T88 l (i : Int)).f1 ≤ 2000) && decide (¬ (rd_T88 l (i : Int)).f1 = off) && tk l d (rd_T88 l (i : Int)).f1 (i + 1)) := by
        by_cases h2 : -2000 ≤ (rd_T88 l (i : Int)).f1 ∧ (rd_T88 l (i : Int)).f1 ≤ 2000
        · simp only [decide_eq_true h2, if_true, Bool.true_and]
          by_cases h3 : (rd_T88 l (i : Int)).f1 = off
          · simp only [if_pos h3, decide_eq_false (show ¬ ¬ (rd_T88 l (i : Int)).f1 = off from fun h => h h3), Bool.false_and]
            exact Ev.now _
          · simp only [if_neg h3, decide_eq_true h3, Bool.true_and]
            exact ih'
        · simp only [decide_eq_false h2, Bool.false_eq_true, if_false, Bool.false_and]
          exact Ev.now _
      by_cases h0 : i = 0
      · simp only [if_neg (show ¬ (i : Int) > 0 by omega), decide_eq_true h0, Bool.true_or, Bool.true_and]
        exact tail
      · rw [w64 ((i : Int) - 1) (by omega) (by omega)]
        simp only [if_pos (show (i : Int) > 0 by omega), if_pos (show 0 ≤ (i : Int) - 1 by omega), if_pos (show (i : Int) - 1 < (l.length : Int) by omega), decide_eq_false h0, Bool.false_or]
        by_cases h4 : (rd_T88 l ((i : Int) - 1)).f0 ≥ (rd_T88 l (i : Int)).f0
        · simp only [if_pos h4, decide_eq_false (show ¬ (rd_T88 l ((i : Int) - 1)).f0 < (rd_T88 l (i : Int)).f0 by omega), Bool.false_and]
          exact Ev.now _
        · simp only [if_neg h4, decide_eq_true (show (rd_T88 l ((i : Int) - 1)).f0 < (rd_T88 l (i : Int)).f0 by omega), Bool.true_and]
          exact tail
    · simp only [decide_eq_false h1, Bool.false_eq_true, if_false, Bool.false_and]
      exact Ev.now _
theorem s_TableOk (f : Int) (l : List S88) (hl : l.length ≤ 1048576) : Ev (fun k => spec_TableOk.f k f l) (tOk f l) := by
  unfold spec_TableOk.f tOk
  rw [s_In]
  simp only [Option.bind_some]
  have no : ∀ b : Bool, b = true → Ev (fun k => spec_TableOk.j0 k b f l) false := by
    intro b hb
    refine Ev.step (fun k => by rw [spec_TableOk.j0]) ?_
    simp only [hb, if_true]
    exact Ev.now _
  by_cases h1 : -2000 ≤ f ∧ f ≤ 2000
  · simp only [decide_eq_true h1, if_true, Bool.true_and]
    by_cases h2 : (l.length : Int) > 300
    · simp only [decide_eq_false (show ¬ (l.length : Int) ≤ 300 by omega), Bool.false_and]
      exact no _ (decide_eq_true h2)
    · simp only [decide_eq_true (show (l.length : Int) ≤ 300 by omega), Bool.true_and, decide_eq_false h2]
      refine Ev.step (fun k => by rw [spec_TableOk.j0]) ?_
      simp only [Bool.false_eq_true, if_false]
      exact s_tokl f l hl l.length f 0 (by omega)
  · simp only [decide_eq_false h1, Bool.false_eq_true, if_false, Bool.false_and]
    exact no true rfl
theorem i_isMinute (n : Int) : impl_isMinute.f n = some (decide (-1000000000 ≤ n ∧ n ≤ 1000000000)) := by unfold impl_isMinute.f; rw [i_within]; rfl
theorem i_isOff (n : Int) : impl_isOff.f n = some (decide (-2000 ≤ n ∧ n ≤ 2000)) := by unfold impl_isOff.f; rw [i_within]; rfl
theorem i_tokl (f : Int) (l : List S88) (hl : l.length ≤ 1048576) : ∀ (d : Nat) (off : Int) (i : Nat), i + d = l.length → Ev (fun k => impl_TableOk.l0 k off l (l.length : Int) (i : Int) f l) (tk l d off i && (decide (-2000 ≤ f ∧ f ≤ 2000) && decide ((l.length : Int) ≤ 300))) := by
  intro d
  induction d with
  | zero =>
    intro off i h
    refine Ev.step (fun k => by rw [impl_TableOk.l0]) ?_
    rw [i_isOff f]
    simp only [if_neg (show ¬ (i : Int) < (l.length : Int) by omega), Option.bind_some, tk, Bool.true_and]
    by_cases h1 : -2000 ≤ f ∧ f ≤ 2000
    · simp only [decide_eq_true h1, if_true, Bool.true_and]; exact Ev.now _
    · simp only [decide_eq_false h1, Bool.false_eq_true, if_false, Bool.false_and]; exact Ev.now _
  | succ d ih =>
    intro off i h
    have ih' := ih (rd_T88 l (i : Int)).f1 (i + 1) (by omega)
    refine Ev.step (fun k => by rw [impl_TableOk.l0]) ?_
    rw [i_isMinute, i_isOff, inc i (by omega)]
    simp only [Option.bind_some, if_pos (show (i : Int) < (l.length : Int) by omega), if_pos (show 0 ≤ (i : Int) by omega), tk]
    by_cases h1 : -1000000000 ≤ (rd_T88 l (i : Int)).f0 ∧ (rd_T88 l (i : Int)).f0 ≤ 1000000000
    · simp only [decide_eq_true h1, if_true, Bool.true_and]
      have tail : Ev (fun k => if decide (-2000 ≤ (rd_T88 l (i : Int)).f1 ∧ (rd_T88 l (i : Int)).f1 ≤ 2000) = true then (if (rd_T88 l (i : Int)).f1 = off then some false else impl_TableOk.l0 k (rd_T88 l (i : Int)).f1 l (l.length : Int) ((i + 1 : Nat) : Int) f l) else some false) (decide (-2000 ≤ (rd_T88 l (i : Int)).f1 ∧ (rd_T88 l (i : Int)).f1 ≤ 2000) && decide (¬ (rd_T88 l (i : Int)).f1 = off) && tk l d (rd_T88 l (i : Int)).f1 (i + 1) && (decide (-2000 ≤ f ∧ f ≤ 2000) && decide ((l.length : Int) ≤ 300))) := by
        by_cases h2 : -2000 ≤ (rd_T88 l (i : Int)).f1 ∧ (rd_T88 l (i : Int)).f1 ≤ 2000
        · simp only [decide_eq_true h2, if_true, Bool.true_and]
          by_cases h3 : (rd_T88 l (i : Int)).f1 = off
          · simp only [if_pos h3, decide_eq_false (show ¬ ¬ (rd_T88 l (i : Int)).f1 = off from fun h => h h3), Bool.false_and]
            exact Ev.now _
          · simp only [if_neg h3, decide_eq_true h3, Bool.true_and]
            exact ih'
        · simp only [decide_eq_false h2, Bool.false_eq_true, if_false, Bool.false_and]
          exact Ev.now _
      by_cases h0 : i = 0
      · simp only [if_neg (show ¬ (i : Int) > 0 by omega), decide_eq_true h0, Bool.true_or, Bool.true_and]
        exact tail
      · rw [w64 ((i : Int) - 1) (by omega) (by omega)]
        simp only [if_pos (show (i : Int) > 0 by omega), if_pos (show 0 ≤ (i : Int) - 1 by omega), if_pos (show (i : Int) - 1 < (l.length : Int) by omega), decide_eq_false h0, Bool.false_or]
        by_cases h4 : (rd_T88 l ((i : Int) - 1)).f0 ≥ (rd_T88 l (i : Int)).f0
        · simp only [if_pos h4, decide_eq_false (show ¬ (rd_T88 l ((i : Int) - 1)).f0 < (rd_T88 l (i : Int)).f0 by omega), Bool.false_and]
          exact Ev.now _
        · simp only [if_neg h4, decide_eq_true (show (rd_T88 l ((i : Int) - 1)).f0 < (rd_T88 l (i : Int)).f0 by omega), Bool.true_and]
          exact tail
    · simp only [decide_eq_false h1, Bool.false_eq_true, if_false, Bool.false_and]
      exact Ev.now _
theorem i_TableOk (f : Int) (l : List S88) (hl : l.length ≤ 1048576) : Ev (fun k => impl_TableOk.f k f l) (tOk f l) := by
  unfold impl_TableOk.f
  have := i_tokl f l hl l.length f 0 (by omega)
  have e : tOk f l = (tk l l.length f 0 && (decide (-2000 ≤ f ∧ f ≤ 2000) && decide ((l.length : Int) ≤ 300))) := by unfold tOk; rw [Bool.and_comm]
  rw [e]
  exact this
theorem sz_table (f : Int) (l : List S119) (h : l.length ≤ 9223372036854775807) : laws_szTable.f f l 1048576 = some (if (l.length : Int) ≤ 1048576 then 1048576 - (l.length : Int) else -1) := by
  unfold laws_szTable.f laws_szShiftS.f
  rw [w64 _ (by omega) (by omega)]
  by_cases hl : (l.length : Int) ≤ 1048576
  · rw [if_pos hl, if_neg (by omega)]
    simp only [Option.bind_some]
    rw [if_neg (by omega)]
  · rw [if_neg hl, if_pos (by omega)]
    simp

/-- The last Off that is not behind the minute, from i on. -/
def ta (l : List S88) (m : Int) : Nat → Int → Nat → Int
  | 0, off, _ => off
  | d + 1, off, i => ta l m d (if (rd_T88 l (i : Int)).f0 ≤ m then (rd_T88 l (i : Int)).f1 else off) (i + 1)
theorem s_atl (f m : Int) (l : List S88) (hl : l.length ≤ 1048576) : ∀ (d : Nat) (off : Int) (i : Nat), i + d = l.length → Ev (fun k => spec_l13At.l0 k m off (i : Int) f l) (ta l m d off i) := by
  intro d
  induction d with
  | zero =>
    intro off i h
    refine Ev.step (fun k => by rw [spec_l13At.l0]) ?_
    simp only [if_neg (show ¬ (i : Int) < (l.length : Int) by omega)]
    exact Ev.now _
  | succ d ih =>
    intro off i h
    refine Ev.step (fun k => by rw [spec_l13At.l0]) ?_
    rw [inc i (by omega)]
    simp only [if_pos (show (i : Int) < (l.length : Int) by omega), if_pos (show 0 ≤ (i : Int) by omega), ta]
    by_cases h1 : (rd_T88 l (i : Int)).f0 ≤ m
    · simp only [if_pos h1]; exact ih _ (i + 1) (by omega)
    · simp only [if_neg h1]; exact ih _ (i + 1) (by omega)
def tabAt (f : Int) (l : List S88) (m : Int) : Int := if tOk f l = true then ta l m l.length f 0 else 0
theorem i_atl (m : Int) (l : List S88) (hl : l.length ≤ 1048576) : ∀ (d : Nat) (off : Int) (i : Nat), i + d = l.length → Ev (fun k => impl_TableAt.l0 k m off l (l.length : Int) (i : Int)) (ta l m d off i) := by
  intro d
  induction d with
  | zero =>
    intro off i h
    refine Ev.step (fun k => by rw [impl_TableAt.l0]) ?_
    simp only [if_neg (show ¬ (i : Int) < (l.length : Int) by omega)]
    exact Ev.now _
  | succ d ih =>
    intro off i h
    refine Ev.step (fun k => by rw [impl_TableAt.l0]) ?_
    rw [inc i (by omega)]
    simp only [if_pos (show (i : Int) < (l.length : Int) by omega), if_pos (show 0 ≤ (i : Int) by omega), ta]
    by_cases h1 : (rd_T88 l (i : Int)).f0 ≤ m
    · simp only [if_pos h1]; exact ih _ (i + 1) (by omega)
    · simp only [if_neg h1]; exact ih _ (i + 1) (by omega)
theorem i_TableAt (f m : Int) (l : List S88) (hl : l.length ≤ 1048576) : Ev (fun k => impl_TableAt.f k f l m) (tabAt f l m) := by
  unfold impl_TableAt.f tabAt
  refine Ev.bind (i_TableOk f l hl) ?_
  by_cases h : tOk f l = true
  · simp only [h, if_true]
    exact i_atl m l hl l.length f 0 (by omega)
  · simp only [h]
    exact Ev.now _

theorem local_same (f m : Int) (l : List S88) (hl : l.length ≤ 1048576) : ∃ r, Ev (fun k => impl_TableLocal.f k f l m) r ∧ Ev (fun k => spec_TableLocal.f k f l m) r := by
  unfold impl_TableLocal.f spec_TableLocal.f
  have ino : ∀ b : Bool, b = true → Ev (fun k => impl_TableLocal.j0 k m b f l) (0, 0, 0, 0, false) := by
    intro b hb
    refine Ev.step (fun k => by rw [impl_TableLocal.j0]) ?_
    simp only [hb, if_true]; exact Ev.now _
  have sno : ∀ b : Bool, b = true → Ev (fun k => spec_TableLocal.j0 k m b f l) (0, 0, 0, 0, false) := by
    intro b hb
    refine Ev.step (fun k => by rw [spec_TableLocal.j0]) ?_
    simp only [hb, if_true]; exact Ev.now _
  by_cases h : tOk f l = true
  · by_cases hm : -1000000000 ≤ m ∧ m ≤ 1000000000
    · have ea : tabAt f l m = ta l m l.length f 0 := by unfold tabAt; rw [if_pos h]
      have ia := i_TableAt f m l hl
      have sa : Ev (fun k => spec_l13At.f k f l m) (ta l m l.length f 0) := by unfold spec_l13At.f; exact s_atl f m l hl l.length f 0 (by omega)
      rw [ea] at ia
      revert ia sa
      generalize ta l m l.length f 0 = t
      intro ia sa
      obtain ⟨⟨y, mo, d, ok⟩, ei, es⟩ := date_same (wrap64 (Int.tdiv (wrap64 ((wrap64 (m + t)) - (Int.tmod (wrap64 ((Int.tmod (wrap64 (m + t)) 1440) + 1440)) 1440))) 1440))
      refine ⟨if ok = true then (y, mo, d, Int.tmod (wrap64 ((Int.tmod (wrap64 (m + t)) 1440) + 1440)) 1440, true) else (0, 0, 0, 0, false), Ev.bind (i_TableOk f l hl) ?_, Ev.bind (s_TableOk f l hl) ?_⟩
      · rw [i_isMinute]
        simp only [if_pos h, Option.bind_some, decide_eq_true hm, Bool.not_true]
        refine Ev.step (fun k => by rw [impl_TableLocal.j0]) ?_
        simp only [Bool.false_eq_true, if_false]
        refine Ev.bind ia (Ev.bind ei ?_)
        cases ok <;> simp only [Bool.false_eq_true, if_false, if_true] <;> exact Ev.now _
      · rw [s_In]
        simp only [if_pos h, Option.bind_some, decide_eq_true hm, Bool.not_true]
        refine Ev.step (fun k => by rw [spec_TableLocal.j0]) ?_
        simp only [Bool.false_eq_true, if_false]
        refine Ev.bind sa (Ev.bind es ?_)
        cases ok <;> simp only [Bool.false_eq_true, if_false, if_true] <;> exact Ev.now _
    · refine ⟨(0, 0, 0, 0, false), Ev.bind (i_TableOk f l hl) ?_, Ev.bind (s_TableOk f l hl) ?_⟩
      · rw [i_isMinute]
        simp only [if_pos h, Option.bind_some, decide_eq_false hm, Bool.not_false]
        exact ino true rfl
      · rw [s_In]
        simp only [if_pos h, Option.bind_some, decide_eq_false hm, Bool.not_false]
        exact sno true rfl
  · refine ⟨(0, 0, 0, 0, false), Ev.bind (i_TableOk f l hl) ?_, Ev.bind (s_TableOk f l hl) ?_⟩
    · simp only [if_neg h]
      exact ino true rfl
    · simp only [if_neg h]
      exact sno true rfl
theorem FnExactTableLocal : ∀ (a0_0 : Int) (l0_1 : (List S119)) (a1 : Int), (Lit.int .i64 a0_0).wf = true → (l0_1.length ≤ 9223372036854775807 ∧ ∀ x ∈ l0_1, ((Lit.int .i64 x.f0).wf = true ∧ (Lit.int .i64 x.f1).wf = true)) → (Lit.int .i64 a1).wf = true → ∃ k, laws_FnExactTableLocal.f k a0_0 l0_1 a1 = some true := by
  intro f l m _ hg _
  refine Ev.rounds ?_
  unfold laws_FnExactTableLocal.f
  rw [sz_table f l hg.1]
  simp only [Option.bind_some]
  by_cases hl : (l.length : Int) ≤ 1048576
  · rw [if_pos hl]
    simp only [if_neg (show ¬ 1048576 - (l.length : Int) < 0 by omega)]
    have hm : (l.map cvS).length ≤ 1048576 := by rw [List.length_map]; omega
    obtain ⟨⟨y, mo, d, q, ok⟩, ei, es⟩ := local_same f m (l.map cvS) hm
    refine Ev.bind (to_table f l (by omega)) (Ev.bind es (Ev.bind (to_table f l (by omega)) (Ev.bind ei ?_)))
    simp only [if_true, bne_self_eq_false]
    refine Ev.step (fun k => by rw [laws_FnExactTableLocal.j0]) ?_
    simp only [Bool.false_eq_true, if_false]
    refine Ev.bind (to_table f l (by omega)) (Ev.bind (eq_table f _ hm) ?_)
    simp only [if_true]
    exact Ev.now _
  · rw [if_neg hl]
    simp only [if_pos (show (-1 : Int) < 0 by omega)]
    exact Ev.now _

end Go.Proofs.Ytkjfcgnhpalhnaa.Pure
