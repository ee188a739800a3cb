/- The law FnExactOnDay answers true for every year, month and On (whole numbers of 64 bits). No condition. -/
import Derived.Test.YtklhjaimnhoijaaPFnExactOnDayx3
namespace Go.Proofs.Ytklhjaimnhoijaa.Pure
open Go.RowKit Go.Proofs.Ytklhjaimnhoijaa.PFnExactOnDay Go.Proofs.YtklhjaimnhoijaaW.PrintWords Go.Proofs.YtklhjaimnhoijaaW.PrintLast
set_option linter.unusedVariables false
set_option linter.unusedSimpArgs false

theorem w64 (n : Int) (h0 : -9223372036854775808 ≤ n) (h1 : n ≤ 9223372036854775807) : wrap64 n = n := by unfold wrap64; omega
theorem tmn {a : Int} (b : Int) (h : 0 ≤ a) : Int.tmod a b = a % b := Int.tmod_eq_emod_of_nonneg h
theorem wfi {x : Int} (h : (Lit.int .i64 x).wf = true) : -9223372036854775808 ≤ x ∧ x ≤ 9223372036854775807 := by
  simp [Lit.wf, IntKind.min, IntKind.max, IntKind.signed, IntKind.bits] at h
  omega
theorem wf8 {x : Int} (h : (Lit.int .u8 x).wf = true) : 0 ≤ x ∧ x ≤ 255 := by
  simp [Lit.wf, IntKind.min, IntKind.max, IntKind.signed, IntKind.bits] at h
  omega
theorem evc {α : Type} {g : Nat → Option α} {r : α} (h : ∀ k, g k = some r) : Ev g r := ⟨0, fun k _ => h k⟩

def Lp (y : Int) : Prop := y % 4 = 0 ∧ (¬ y % 100 = 0 ∨ y % 400 = 0)
instance (y : Int) : Decidable (Lp y) := by unfold Lp; exact inferInstance
def ylen (y : Int) : Int := if Lp y then 366 else 365
def beg (y : Int) : Int := 365 * (y - 1970) + (y - 1969) / 4 - (y - 1901) / 100 + (y - 1601) / 400
def mlen (y m : Int) : Int := if m = 2 then (if Lp y then 29 else 28) else if m = 4 then 30 else if m = 6 then 30 else if m = 9 then 30 else if m = 11 then 30 else 31
def cum (y m : Int) : Int := (367 * m - 362) / 12 - (if m ≤ 2 then 0 else if Lp y then 1 else 2)
def ML (y m : Int) : Int := if 1900 ≤ y ∧ y ≤ 2200 ∧ 1 ≤ m ∧ m ≤ 12 then mlen y m else 0
theorem beg_succ (y : Int) : beg (y + 1) = beg y + ylen y := by
  unfold beg ylen
  by_cases h : Lp y
  · rw [if_pos h]; unfold Lp at h; omega
  · rw [if_neg h]; unfold Lp at h; omega
theorem ylen_bd (y : Int) : 365 ≤ ylen y ∧ ylen y ≤ 366 := by unfold ylen; split <;> omega
theorem mlen_bd (y m : Int) : 28 ≤ mlen y m ∧ mlen y m ≤ 31 := by unfold mlen; repeat (first | omega | split)
theorem cum_succ (y m : Int) (h1 : 1 ≤ m) (h2 : m ≤ 12) : cum y (m + 1) = cum y m + mlen y m := by
  have : m = 1 ∨ m = 2 ∨ m = 3 ∨ m = 4 ∨ m = 5 ∨ m = 6 ∨ m = 7 ∨ m = 8 ∨ m = 9 ∨ m = 10 ∨ m = 11 ∨ m = 12 := by omega
  unfold cum mlen
  rcases this with rfl | rfl | rfl | rfl | rfl | rfl | rfl | rfl | rfl | rfl | rfl | rfl <;> by_cases h : Lp y <;> simp [h]
theorem cum_one (y : Int) : cum y 1 = 0 := by unfold cum; simp
theorem cum_13 (y : Int) : cum y 13 = ylen y := by unfold cum ylen; by_cases h : Lp y <;> simp [h]
theorem cum_mono (y m n : Int) (h1 : 1 ≤ m) (h : m ≤ n) (h2 : n ≤ 13) : cum y m ≤ cum y n := by
  unfold cum; split <;> split <;> (try split) <;> omega
theorem cum_bd (y m : Int) (h1 : 1 ≤ m) (h2 : m ≤ 13) : 0 ≤ cum y m ∧ cum y m ≤ 366 := by
  unfold cum; split <;> (try split) <;> omega
theorem beg_bd (y : Int) (h1 : 1900 ≤ y) (h2 : y ≤ 2201) : -25567 ≤ beg y ∧ beg y ≤ 84371 := by unfold beg; omega
theorem beg_mono (y z : Int) (h : y ≤ z) : beg y ≤ beg z := by unfold beg; omega
theorem beg_1970 : beg 1970 = 0 := by decide
theorem beg_1900 : beg 1900 = -25567 := by decide
theorem beg_2201 : beg 2201 = 84371 := by decide
theorem ML_in {y m : Int} (h1 : 1900 ≤ y) (h2 : y ≤ 2200) (h3 : 1 ≤ m) (h4 : m ≤ 12) : ML y m = mlen y m := by unfold ML; rw [if_pos ⟨h1, h2, h3, h4⟩]
theorem ML_pos {y m : Int} (h : 0 < ML y m) : 1900 ≤ y ∧ y ≤ 2200 ∧ 1 ≤ m ∧ m ≤ 12 := by
  unfold ML at h; split at h
  · assumption
  · omega
theorem ML_bd (y m : Int) : 0 ≤ ML y m ∧ ML y m ≤ 31 := by
  have := mlen_bd y m
  unfold ML; split <;> omega
/-- The year of a day. -/
theorem year_of (day : Int) (h1 : -25567 ≤ day) (h2 : day < 84371) : ∃ y, 1900 ≤ y ∧ y ≤ 2200 ∧ beg y ≤ day ∧ day < beg (y + 1) := by
  have key : ∀ (d : Nat) (y : Int), y + d = 2201 → 1900 ≤ y → beg y ≤ day → ∃ z, 1900 ≤ z ∧ z ≤ 2200 ∧ beg z ≤ day ∧ day < beg (z + 1) := by
    intro d
    induction d with
    | zero => intro y hy h3 h4; have : y = 2201 := by omega
              subst this; rw [beg_2201] at h4; omega
    | succ d ih =>
      intro y hy h3 h4
      by_cases h : day < beg (y + 1)
      · exact ⟨y, h3, by omega, h4, h⟩
      · exact ih (y + 1) (by omega) (by omega) (by omega)
  exact key 301 1900 (by omega) (by omega) (by rw [beg_1900]; exact h1)
theorem month_of (y left : Int) (h1 : 0 ≤ left) (h2 : left < ylen y) : ∃ m, 1 ≤ m ∧ m ≤ 12 ∧ cum y m ≤ left ∧ left < cum y m + mlen y m := by
  have key : ∀ (d : Nat) (m : Int), m + d = 13 → 1 ≤ m → cum y m ≤ left → ∃ z, 1 ≤ z ∧ z ≤ 12 ∧ cum y z ≤ left ∧ left < cum y z + mlen y z := by
    intro d
    induction d with
    | zero => intro m hm h3 h4; have : m = 13 := by omega
              subst this; rw [cum_13] at h4; omega
    | succ d ih =>
      intro m hm h3 h4
      by_cases h : left < cum y m + mlen y m
      · exact ⟨m, h3, by omega, h4, h⟩
      · exact ih (m + 1) (by omega) (by omega) (by rw [cum_succ y m h3 (by omega)]; omega)
  exact key 12 1 (by omega) (by omega) (by rw [cum_one]; exact h1)
def num (y m d : Int) : Int := beg y + cum y m + d - 1
def Vld (y m d : Int) : Prop := 1900 ≤ y ∧ y ≤ 2200 ∧ 1 ≤ m ∧ m ≤ 12 ∧ 1 ≤ d ∧ d ≤ mlen y m
theorem date_of (day : Int) (h1 : -25567 ≤ day) (h2 : day < 84371) : ∃ y m d, Vld y m d ∧ num y m d = day := by
  obtain ⟨y, hy1, hy2, hb, hb2⟩ := year_of day h1 h2
  rw [beg_succ] at hb2
  obtain ⟨m, hm1, hm2, hc, hc2⟩ := month_of y (day - beg y) (by omega) (by omega)
  exact ⟨y, m, day - beg y - cum y m + 1, ⟨hy1, hy2, hm1, hm2, by omega, by omega⟩, by unfold num; omega⟩
theorem num_year {y m d : Int} (h : Vld y m d) : beg y ≤ num y m d ∧ num y m d < beg (y + 1) := by
  obtain ⟨h1, h2, h3, h4, h5, h6⟩ := h
  have := cum_bd y m h3 (by omega)
  have a := cum_mono y (m + 1) 13 (by omega) (by omega) (by omega)
  rw [cum_succ y m h3 h4, cum_13] at a
  rw [beg_succ]; unfold num; omega
theorem num_inj {y m d y' m' d' : Int} (h : Vld y m d) (h' : Vld y' m' d') (e : num y m d = num y' m' d') : y = y' ∧ m = m' ∧ d = d' := by
  have a := num_year h
  have b := num_year h'
  have hy : y = y' := by
    rcases Int.lt_trichotomy y y' with c | c | c
    · have := beg_mono (y + 1) y' (by omega); omega
    · exact c
    · have := beg_mono (y' + 1) y (by omega); omega
  subst hy
  obtain ⟨h1, h2, h3, h4, h5, h6⟩ := h
  obtain ⟨g1, g2, g3, g4, g5, g6⟩ := h'
  unfold num at e
  have hm : m = m' := by
    rcases Int.lt_trichotomy m m' with c | c | c
    · have := cum_mono y (m + 1) m' (by omega) (by omega) (by omega); rw [cum_succ y m h3 h4] at this; omega
    · exact c
    · have := cum_mono y (m' + 1) m (by omega) (by omega) (by omega); rw [cum_succ y m' g3 g4] at this; omega
  subst hm
  exact ⟨rfl, rfl, by omega⟩
theorem num_bd {y m d : Int} (h : Vld y m d) : -25567 ≤ num y m d ∧ num y m d < 84371 := by
  have a := num_year h
  have b := beg_bd y h.1 (by have := h.2.1; omega)
  have c := beg_mono (y + 1) 2201 (by have := h.2.1; omega)
  rw [beg_2201] at c; omega

theorem i_within (n a b : Int) : impl_within.f n a b = some (decide (a ≤ n ∧ n ≤ b)) := by
  unfold impl_within.f
  by_cases h : n ≥ a
  · rw [if_pos h]; simp [show a ≤ n from h]
  · rw [if_neg h]; simp [show ¬ a ≤ n from h]

theorem i_isLeap (y : Int) (h : 0 ≤ y) : impl_isLeap.f y = some (decide (Lp y)) := by
  unfold impl_isLeap.f
  simp only [tmn _ h]
  unfold Lp
  by_cases h4 : y % 4 = 0
  · by_cases h100 : y % 100 = 0
    · rw [if_pos h4, if_pos h100]
      by_cases h400 : y % 400 = 0 <;> simp [h4, h100, h400]
    · rw [if_pos h4, if_neg h100]; simp [h4, h100]
  · rw [if_neg h4]
    have h400 : ¬ y % 400 = 0 := by omega
    simp [h4, h400]
theorem i_isYear (y : Int) : impl_isYear.f y = some (decide (1900 ≤ y ∧ y ≤ 2200)) := by
  unfold impl_isYear.f; rw [i_within]; rfl
theorem i_MonthLong (y m : Int) : Ev (fun k => impl_MonthLong.f k y m) (ML y m) := by
  unfold impl_MonthLong.f
  rw [i_isYear]
  simp only [Option.bind_some]
  by_cases h : 1900 ≤ y ∧ y ≤ 2200
  · rw [i_within]
    simp only [decide_eq_true h, if_true, Option.bind_some]
    by_cases hm : 1 ≤ m ∧ m ≤ 12
    · refine Ev.step (fun k => by rw [impl_MonthLong.j0]) ?_
      rw [ML_in h.1 h.2 hm.1 hm.2]
      simp only [decide_eq_true hm, Bool.not_true, Bool.false_eq_true, if_false]
      obtain ⟨h1, h2⟩ := hm
      have : m = 1 ∨ m = 2 ∨ m = 3 ∨ m = 4 ∨ m = 5 ∨ m = 6 ∨ m = 7 ∨ m = 8 ∨ m = 9 ∨ m = 10 ∨ m = 11 ∨ m = 12 := by omega
      rw [i_isLeap y (by omega)]
      unfold mlen
      rcases this with rfl | rfl | rfl | rfl | rfl | rfl | rfl | rfl | rfl | rfl | rfl | rfl
      · exact evc fun _ => by simp [wrap64, rd]
      · by_cases hl : Lp y
        · exact evc fun _ => by simp [hl]
        · exact evc fun _ => by simp [hl, wrap64, rd]
      all_goals exact evc fun _ => by simp [wrap64, rd]
    · refine Ev.step (fun k => by rw [impl_MonthLong.j0]) ?_
      have e : ML y m = 0 := by unfold ML; rw [if_neg (by omega)]
      rw [e]
      simp only [decide_eq_false hm, Bool.not_false, if_true]
      exact Ev.now _
  · simp only [decide_eq_false h, Bool.false_eq_true, if_false]
    refine Ev.step (fun k => by rw [impl_MonthLong.j0]) ?_
    have e : ML y m = 0 := by unfold ML; rw [if_neg (by omega)]
    rw [e]
    simp only [if_true]
    exact Ev.now _

theorem i_yearLong (y : Int) (h : 0 ≤ y) : impl_yearLong.f y = some (ylen y) := by
  unfold impl_yearLong.f; rw [i_isLeap y h]; unfold ylen
  by_cases hl : Lp y <;> simp [hl]
theorem i_begins1 : ∀ (d : Nat) (n acc : Int), n + d = 1970 → 1900 ≤ n → -1000000 ≤ acc - 366 * (1970 - n) → acc ≤ 1000000 → Ev (fun k => impl_yearBegins.l1 k acc n) (acc + beg n) := by
  intro d
  induction d with
  | zero =>
    intro n acc h1 h2 h3 h4
    obtain rfl : n = 1970 := by omega
    refine Ev.step (fun k => by rw [impl_yearBegins.l1]) ?_
    rw [beg_1970]; simp only [Int.lt_irrefl, if_false, Int.add_zero]; exact Ev.now _
  | succ d ih =>
    intro n acc h1 h2 h3 h4
    refine Ev.step (fun k => by rw [impl_yearBegins.l1]) ?_
    rw [i_yearLong n (by omega)]
    have hb := ylen_bd n
    have hs := beg_succ n
    simp only [if_pos (show n < 1970 by omega), Option.bind_some]
    rw [w64 (acc - ylen n) (by omega) (by omega), w64 (n + 1) (by omega) (by omega)]
    have := ih (n + 1) (acc - ylen n) (by omega) (by omega) (by omega) (by omega)
    rwa [show acc - ylen n + beg (n + 1) = acc + beg n by omega] at this
theorem i_begins0 : ∀ (d : Nat) (y n : Int), n + d = y → 1970 ≤ n → y ≤ 2201 → Ev (fun k => impl_yearBegins.l0 k y (beg n) n) (beg y) := by
  intro d
  induction d with
  | zero =>
    intro y n h1 h2 h3
    obtain rfl : n = y := by omega
    refine Ev.step (fun k => by rw [impl_yearBegins.l0]) ?_
    simp only [Int.lt_irrefl, if_false]
    refine Ev.step (fun k => by rw [impl_yearBegins.l1]) ?_
    simp only [if_neg (show ¬ n < 1970 by omega)]; exact Ev.now _
  | succ d ih =>
    intro y n h1 h2 h3
    refine Ev.step (fun k => by rw [impl_yearBegins.l0]) ?_
    rw [i_yearLong n (by omega)]
    have hb := beg_bd n (by omega) (by omega)
    have hq := ylen_bd n
    simp only [if_pos (show n < y by omega), Option.bind_some]
    rw [w64 (beg n + ylen n) (by omega) (by omega), w64 (n + 1) (by omega) (by omega), ← beg_succ]
    exact ih y (n + 1) (by omega) (by omega) h3
theorem i_yearBegins (y : Int) (h1 : 1900 ≤ y) (h2 : y ≤ 2201) : Ev (fun k => impl_yearBegins.f k y) (beg y) := by
  unfold impl_yearBegins.f
  by_cases h : 1970 ≤ y
  · have := i_begins0 (y - 1970).toNat y 1970 (by omega) (by omega) h2
    rwa [beg_1970] at this
  · refine Ev.step (fun k => by rw [impl_yearBegins.l0]) ?_
    simp only [if_neg (show ¬ (1970 : Int) < y by omega)]
    have := i_begins1 (1970 - y).toNat y 0 (by omega) (by omega) (by omega) (by omega)
    rwa [Int.zero_add] at this

theorem i_dayl (y m : Int) (hy1 : 1900 ≤ y) (hy2 : y ≤ 2200) (hm : m ≤ 12) : ∀ (d : Nat) (n acc : Int), n + d = m → 1 ≤ n → -1000000 ≤ acc → acc ≤ 1000000 - 31 * (m - n) → Ev (fun k => impl_DayOf.l0 k y m acc n) (acc + cum y m - cum y n, true) := by
  intro d
  induction d with
  | zero =>
    intro n acc h1 h2 h3 h4
    obtain rfl : n = m := by omega
    refine Ev.step (fun k => by rw [impl_DayOf.l0]) ?_
    simp only [Int.lt_irrefl, if_false]
    rw [show acc + cum y n - cum y n = acc by omega]
    exact Ev.now _
  | succ d ih =>
    intro n acc h1 h2 h3 h4
    refine Ev.step (fun k => by rw [impl_DayOf.l0]) ?_
    simp only [if_pos (show n < m by omega)]
    refine Ev.bind (i_MonthLong y n) ?_
    rw [ML_in hy1 hy2 h2 (by omega)]
    have hb := mlen_bd y n
    have hs := cum_succ y n h2 (by omega)
    rw [w64 (acc + mlen y n) (by omega) (by omega), w64 (n + 1) (by omega) (by omega)]
    have := ih (n + 1) (acc + mlen y n) (by omega) (by omega) (by omega) (by omega)
    rwa [show acc + mlen y n + cum y m - cum y (n + 1) = acc + cum y m - cum y n by omega] at this
def dayOf (y m d : Int) : Int × Bool := if 1 ≤ d ∧ d ≤ ML y m then (num y m d, true) else (0, false)
theorem i_DayOf (y m d : Int) : Ev (fun k => impl_DayOf.f k y m d) (dayOf y m d) := by
  unfold impl_DayOf.f
  refine Ev.bind (i_MonthLong y m) ?_
  rw [i_within]
  simp only [Option.bind_some]
  unfold dayOf
  by_cases h : 1 ≤ d ∧ d ≤ ML y m
  · simp only [decide_eq_true h, if_true, if_pos h]
    obtain ⟨g1, g2, g3, g4⟩ := ML_pos (show 0 < ML y m by omega)
    refine Ev.bind (i_yearBegins y g1 (by omega)) ?_
    have hb := beg_bd y g1 (by omega)
    have hm := ML_bd y m
    rw [w64 (beg y + d) (by omega) (by omega), w64 (beg y + d - 1) (by omega) (by omega)]
    have := i_dayl y m g1 g2 g4 (m - 1).toNat 1 (beg y + d - 1) (by omega) (by omega) (by omega) (by omega)
    rw [cum_one] at this
    unfold num
    rwa [show beg y + d - 1 + cum y m - 0 = beg y + cum y m + d - 1 by omega] at this
  · simp only [decide_eq_false h, Bool.false_eq_true, if_false, if_neg h]
    exact Ev.now _

theorem s_In (n a b : Int) : spec_l1In.f n a b = some (decide (a ≤ n ∧ n ≤ b)) := by
  unfold spec_l1In.f
  by_cases h : n ≥ a
  · rw [if_pos h]; simp [show a ≤ n from h]
  · rw [if_neg h]; simp [show ¬ a ≤ n from h]

theorem s_Leap (y : Int) (h : 0 ≤ y) : spec_l11Leap.f y = some (decide (Lp y)) := by
  unfold spec_l11Leap.f
  simp only [tmn _ h]
  unfold Lp
  by_cases h4 : y % 4 = 0
  · by_cases h100 : y % 100 = 0
    · rw [if_pos h4, if_pos h100]
      by_cases h400 : y % 400 = 0 <;> simp [h4, h100, h400]
    · rw [if_pos h4, if_neg h100]; simp [h4, h100]
  · rw [if_neg h4]
    simp [h4]
theorem s_Long (y m : Int) (h : 0 ≤ y) : spec_l11Long.f y m = some (mlen y m) := by
  unfold spec_l11Long.f mlen
  rw [s_Leap y h]
  simp only [Option.bind_some]
  by_cases h2 : m = 2
  · rw [if_pos h2, if_pos h2]; by_cases hl : Lp y <;> simp [hl]
  · rw [if_neg h2, if_neg h2]
    repeat (first | rfl | split)

theorem s_Month (y m : Int) : spec_MonthLong.f y m = some (ML y m) := by
  unfold spec_MonthLong.f spec_l11Year.f ML
  rw [s_In, s_In]
  simp only [Option.bind_some]
  by_cases h : 1900 ≤ y ∧ y ≤ 2200
  · simp only [decide_eq_true h, if_true]
    by_cases hm : 1 ≤ m ∧ m ≤ 12
    · rw [s_Long y m (by omega)]
      simp only [decide_eq_true hm, if_true, Option.bind_some]
      rw [if_pos ⟨h.1, h.2, hm.1, hm.2⟩]
    · simp only [decide_eq_false hm, Bool.false_eq_true, if_false]
      rw [if_neg (by omega)]
  · simp only [decide_eq_false h, Bool.false_eq_true, if_false]
    rw [if_neg (by omega)]

theorem s_begin1 : ∀ (d : Nat) (y n : Int), y + d = n + 1 → 1900 ≤ y → n ≤ 2200 → Ev (fun k => spec_l11Begin.l1 k y (beg (n + 1)) n) (beg y) := by
  intro d
  induction d with
  | zero =>
    intro y n h1 h2 h3
    obtain rfl : n = y - 1 := by omega
    refine Ev.step (fun k => by rw [spec_l11Begin.l1]) ?_
    simp only [if_neg (show ¬ y - 1 ≥ y by omega)]
    rw [show y - 1 + 1 = y by omega]
    exact Ev.now _
  | succ d ih =>
    intro y n h1 h2 h3
    refine Ev.step (fun k => by rw [spec_l11Begin.l1]) ?_
    simp only [if_pos (show n ≥ y by omega)]
    rw [s_Leap n (by omega)]
    have hb := beg_bd n (by omega) (by omega)
    have hs := beg_succ n
    have hq := ylen_bd n
    have i := ih y (n - 1) (by omega) h2 (by omega)
    rw [show n - 1 + 1 = n by omega] at i
    simp only [Option.bind_some]
    rw [w64 (beg (n + 1) - 365) (by omega) (by omega), w64 (beg (n + 1) - 365 - 1) (by omega) (by omega), w64 (n - 1) (by omega) (by omega)]
    unfold ylen at hs
    by_cases hl : Lp n
    · rw [if_pos hl] at hs
      simp only [decide_eq_true hl, if_true]
      rwa [show beg (n + 1) - 365 - 1 = beg n by omega]
    · rw [if_neg hl] at hs
      simp only [decide_eq_false hl, Bool.false_eq_true, if_false]
      rwa [show beg (n + 1) - 365 = beg n by omega]
theorem s_begin0 : ∀ (d : Nat) (y n : Int), n + d = y → 1970 ≤ n → y ≤ 2201 → Ev (fun k => spec_l11Begin.l0 k y (beg n) n) (beg y) := by
  intro d
  induction d with
  | zero =>
    intro y n h1 h2 h3
    obtain rfl : n = y := by omega
    refine Ev.step (fun k => by rw [spec_l11Begin.l0]) ?_
    simp only [Int.lt_irrefl, if_false]
    refine Ev.step (fun k => by rw [spec_l11Begin.l1]) ?_
    simp only [if_neg (show ¬ (1969 : Int) ≥ n by omega)]
    exact Ev.now _
  | succ d ih =>
    intro y n h1 h2 h3
    refine Ev.step (fun k => by rw [spec_l11Begin.l0]) ?_
    rw [s_Leap n (by omega)]
    have hb := beg_bd n (by omega) (by omega)
    have hs := beg_succ n
    simp only [if_pos (show n < y by omega), Option.bind_some]
    have i := ih y (n + 1) (by omega) (by omega) h3
    rw [w64 (beg n + 365) (by omega) (by omega), w64 (beg n + 365 + 1) (by omega) (by omega), w64 (n + 1) (by omega) (by omega)]
    unfold ylen at hs
    by_cases hl : Lp n
    · rw [if_pos hl] at hs
      simp only [decide_eq_true hl, if_true]
      rwa [show beg n + 365 + 1 = beg (n + 1) by omega]
    · rw [if_neg hl] at hs
      simp only [decide_eq_false hl, Bool.false_eq_true, if_false]
      rwa [show beg n + 365 = beg (n + 1) by omega]
theorem s_Begin (y : Int) (h1 : 1900 ≤ y) (h2 : y ≤ 2201) : Ev (fun k => spec_l11Begin.f k y) (beg y) := by
  unfold spec_l11Begin.f
  by_cases h : 1970 ≤ y
  · have := s_begin0 (y - 1970).toNat y 1970 (by omega) (by omega) h2
    rwa [beg_1970] at this
  · refine Ev.step (fun k => by rw [spec_l11Begin.l0]) ?_
    simp only [if_neg (show ¬ (1970 : Int) < y by omega)]
    have := s_begin1 (1970 - y).toNat y 1969 (by omega) (by omega) (by omega)
    rwa [show (1969 : Int) + 1 = 1970 by omega, beg_1970] at this

theorem s_dayl (y m dd : Int) (hy1 : 1900 ≤ y) (hy2 : y ≤ 2200) (hm : m ≤ 12) (hd1 : 0 ≤ dd) (hd2 : dd ≤ 31) : ∀ (d : Nat) (n acc : Int), n + d = m → 1 ≤ n → -1000000 ≤ acc → acc ≤ 1000000 - 31 * (m - n) → Ev (fun k => spec_DayOf.l0 k y m dd acc n) (acc + cum y m - cum y n + dd - 1, true) := by
  intro d
  induction d with
  | zero =>
    intro n acc h1 h2 h3 h4
    obtain rfl : n = m := by omega
    refine Ev.step (fun k => by rw [spec_DayOf.l0]) ?_
    simp only [Int.lt_irrefl, if_false]
    rw [w64 (acc + dd) (by omega) (by omega), w64 (acc + dd - 1) (by omega) (by omega)]
    rw [show acc + cum y n - cum y n = acc by omega]
    exact Ev.now _
  | succ d ih =>
    intro n acc h1 h2 h3 h4
    refine Ev.step (fun k => by rw [spec_DayOf.l0]) ?_
    simp only [if_pos (show n < m by omega)]
    rw [s_Long y n (by omega)]
    simp only [Option.bind_some]
    have hb := mlen_bd y n
    have hs := cum_succ y n h2 (by omega)
    rw [w64 (acc + mlen y n) (by omega) (by omega), w64 (n + 1) (by omega) (by omega)]
    have := ih (n + 1) (acc + mlen y n) (by omega) (by omega) (by omega) (by omega)
    rwa [show acc + mlen y n + cum y m - cum y (n + 1) = acc + cum y m - cum y n by omega] at this
theorem s_DayOf (y m d : Int) : Ev (fun k => spec_DayOf.f k y m d) (dayOf y m d) := by
  unfold spec_DayOf.f
  rw [s_Month]
  simp only [Option.bind_some]
  rw [s_In]
  simp only [Option.bind_some]
  unfold dayOf
  by_cases h : 1 ≤ d ∧ d ≤ ML y m
  · simp only [decide_eq_true h, if_true, if_pos h]
    obtain ⟨g1, g2, g3, g4⟩ := ML_pos (show 0 < ML y m by omega)
    refine Ev.bind (s_Begin y g1 (by omega)) ?_
    have hb := beg_bd y g1 (by omega)
    have hm := ML_bd y m
    have := s_dayl y m d g1 g2 g4 (by omega) (by omega) (m - 1).toNat 1 (beg y) (by omega) (by omega) (by omega) (by omega)
    rw [cum_one] at this
    unfold num
    rwa [show beg y + cum y m - 0 + d - 1 = beg y + cum y m + d - 1 by omega] at this
  · simp only [decide_eq_false h, Bool.false_eq_true, if_false, if_neg h]
    exact Ev.now _

theorem tm7 (a : Int) : Int.tmod a 7 = if 0 ≤ a then a % 7 else -((-a) % 7) := by
  split
  · rename_i h; exact tmn 7 h
  · rename_i h
    have e : Int.tmod (-(-a)) 7 = -(Int.tmod (-a) 7) := Int.neg_tmod ..
    rw [Int.neg_neg] at e
    rw [e, tmn 7 (by omega)]
def wk (a : Int) : Int := (a + 4) % 7
theorem wk_bd (a : Int) : 0 ≤ wk a ∧ wk a ≤ 6 := by unfold wk; omega
theorem i_WeekOf (a : Int) : impl_WeekOf.f a = some (wk a) := by
  unfold impl_WeekOf.f wk
  have h := tm7 a
  have hb : -7 < Int.tmod a 7 ∧ Int.tmod a 7 < 7 := by split at h <;> omega
  rw [w64 (Int.tmod a 7 + 7) (by omega) (by omega), w64 (Int.tmod a 7 + 7 + 4) (by omega) (by omega), tmn 7 (show 0 ≤ Int.tmod a 7 + 7 + 4 by omega)]
  split at h <;> simp only [Option.some.injEq] <;> omega
theorem s_WeekOf (a : Int) : spec_WeekOf.f a = some (wk a) := by
  unfold spec_WeekOf.f wk
  have h := tm7 a
  have hb : -7 < Int.tmod a 7 ∧ Int.tmod a 7 < 7 := by split at h <;> omega
  rw [w64 (Int.tmod a 7 + 7) (by omega) (by omega), tmn 7 (show 0 ≤ Int.tmod a 7 + 7 by omega), w64 ((Int.tmod a 7 + 7) % 7 + 4) (by omega) (by omega), tmn 7 (show 0 ≤ (Int.tmod a 7 + 7) % 7 + 4 by omega)]
  split at h <;> simp only [Option.some.injEq] <;> omega

def OnP (k d w : Int) : Prop := (k = 1 ∧ 1 ≤ d ∧ d ≤ 31 ∧ w = 0) ∨ (k = 2 ∧ d = 0 ∧ 0 ≤ w ∧ w ≤ 6) ∨ (k = 3 ∧ 1 ≤ d ∧ d ≤ 31 ∧ 0 ≤ w ∧ w ≤ 6)
instance (k d w : Int) : Decidable (OnP k d w) := by unfold OnP; exact inferInstance
theorem i_OnOk (k d w : Int) : impl_OnOk.f k d w = some (decide (OnP k d w)) := by
  unfold impl_OnOk.f OnP
  rw [i_within, i_within]
  simp only [Option.bind_some]
  by_cases h1 : k = 1
  · subst h1; by_cases h : 1 ≤ d ∧ d ≤ 31 <;> by_cases hw : w = 0 <;> simp [h, hw]
  · rw [if_neg h1]
    by_cases h2 : k = 2
    · subst h2; by_cases h : d = 0 <;> by_cases hw : 0 ≤ w ∧ w ≤ 6 <;> simp [h, hw]
    · rw [if_neg h2]
      by_cases h3 : k = 3
      · subst h3; by_cases h : 1 ≤ d ∧ d ≤ 31 <;> by_cases hw : 0 ≤ w ∧ w ≤ 6 <;> simp [h, hw]
      · simp [h1, h2, h3]
theorem s_OnOk (k d w : Int) : spec_OnOk.f k d w = some (decide (OnP k d w)) := by
  unfold spec_OnOk.f OnP
  rw [s_In, s_In]
  simp only [Option.bind_some]
  by_cases h1 : k = 1
  · subst h1; by_cases h : 1 ≤ d ∧ d ≤ 31 <;> by_cases hw : w = 0 <;> simp [h, hw]
  · rw [if_neg h1]
    by_cases h2 : k = 2
    · subst h2; by_cases h : d = 0 <;> by_cases hw : 0 ≤ w ∧ w ≤ 6 <;> simp [h, hw]
    · rw [if_neg h2]
      by_cases h3 : k = 3
      · subst h3; by_cases h : 1 ≤ d ∧ d ≤ 31 <;> by_cases hw : 0 ≤ w ∧ w ≤ 6 <;> simp [h, hw]
      · simp [h1, h2, h3]

/-- The day that a rule names: what both tell. -/
def onDay (y m k d w : Int) : Int × Bool :=
  if OnP k d w ∧ ML y m ≠ 0 ∧ d ≤ ML y m then
    if k = 2 then (num y m (ML y m) - (wk (num y m (ML y m)) - w) % 7, true)
    else if k = 1 then (num y m d, true)
    else if num y m d + (w - wk (num y m d)) % 7 > num y m (ML y m) then (0, false) else (num y m d + (w - wk (num y m d)) % 7, true)
  else (0, false)
theorem vld_of {y m d : Int} (h1 : 1 ≤ d) (h2 : d ≤ ML y m) : Vld y m d := by
  obtain ⟨a, b, c, e⟩ := ML_pos (show 0 < ML y m by omega)
  rw [ML_in a b c e] at h2
  exact ⟨a, b, c, e, h1, h2⟩
theorem dayOf_in {y m d : Int} (h1 : 1 ≤ d) (h2 : d ≤ ML y m) : dayOf y m d = (num y m d, true) := by unfold dayOf; rw [if_pos ⟨h1, h2⟩]
theorem i_OnDay (y m k d w : Int) : Ev (fun q => impl_OnDay.f q y m k d w) (onDay y m k d w) := by
  unfold impl_OnDay.f
  refine Ev.bind (i_MonthLong y m) ?_
  rw [i_OnOk]
  simp only [Option.bind_some]
  have hM := ML_bd y m
  have no : ∀ b : Bool, b = true → onDay y m k d w = (0, false) → Ev (fun n => impl_OnDay.j0 n y m (ML y m) b k d w) (onDay y m k d w) := by
    intro b hb e
    rw [e]
    refine Ev.step (fun q => by rw [impl_OnDay.j0]) ?_
    simp only [hb, if_true]
    exact Ev.now _
  by_cases hok : OnP k d w
  · simp only [decide_eq_true hok, if_true]
    by_cases h0 : ML y m = 0
    · simp only [if_pos h0]
      exact no true rfl (by unfold onDay; rw [if_neg (fun h => h.2.1 h0)])
    · simp only [if_neg h0]
      by_cases hd : d > ML y m
      · exact no _ (decide_eq_true hd) (by unfold onDay; rw [if_neg (fun h => by have := h.2.2; omega)])
      · refine Ev.step (fun q => by rw [impl_OnDay.j0]) ?_
        simp only [decide_eq_false hd, Bool.false_eq_true, if_false]
        unfold onDay
        rw [if_pos ⟨hok, h0, by omega⟩]
        refine Ev.bind (i_DayOf y m (ML y m)) ?_
        rw [dayOf_in (show 1 ≤ ML y m by omega) (Int.le_refl _)]
        have hl := num_bd (vld_of (show 1 ≤ ML y m by omega) (Int.le_refl _))
        have hw6 : 0 ≤ w ∧ w ≤ 6 := by unfold OnP at hok; omega
        by_cases h2 : k = 2
        · simp only [if_pos h2]
          rw [i_WeekOf]
          simp only [Option.bind_some]
          have hb := wk_bd (num y m (ML y m))
          rw [w64 (wk (num y m (ML y m)) - w) (by omega) (by omega), w64 (wk (num y m (ML y m)) - w + 7) (by omega) (by omega), tmn 7 (by omega)]
          rw [show (wk (num y m (ML y m)) - w + 7) % 7 = (wk (num y m (ML y m)) - w) % 7 by omega, w64 _ (by omega) (by omega)]
          exact Ev.now _
        · simp only [if_neg h2]
          have hd1 : 1 ≤ d := by unfold OnP at hok; omega
          refine Ev.bind (i_DayOf y m d) ?_
          rw [dayOf_in hd1 (by omega)]
          have hn := num_bd (vld_of hd1 (show d ≤ ML y m by omega))
          have hle : num y m d ≤ num y m (ML y m) := by unfold num; omega
          by_cases h3 : k = 3
          · simp only [if_pos h3, if_neg (show ¬ k = 1 by omega)]
            rw [i_WeekOf]
            simp only [Option.bind_some]
            have hb := wk_bd (num y m d)
            rw [w64 (w - wk (num y m d)) (by omega) (by omega), w64 (w - wk (num y m d) + 7) (by omega) (by omega), tmn 7 (by omega)]
            rw [show (w - wk (num y m d) + 7) % 7 = (w - wk (num y m d)) % 7 by omega, w64 _ (by omega) (by omega)]
            by_cases hg : num y m d + (w - wk (num y m d)) % 7 > num y m (ML y m)
            · simp only [if_pos hg]; exact Ev.now _
            · simp only [if_neg hg]; exact Ev.now _
          · have h1 : k = 1 := by unfold OnP at hok; omega
            simp only [if_neg h3, if_pos h1, if_neg (show ¬ num y m d > num y m (ML y m) by omega)]
            exact Ev.now _
  · simp only [decide_eq_false hok, Bool.false_eq_true, if_false]
    exact no true rfl (by unfold onDay; rw [if_neg (fun h => hok h.1)])
theorem s_down (k d w : Int) (hw : 0 ≤ w ∧ w ≤ 6) : ∀ (q : Nat) (a : Int), ((wk a - w) % 7).toNat = q → -1000000 ≤ a - q → a ≤ 1000000 → Ev (fun n => spec_OnDay.l0 n a k d w) (a - (wk a - w) % 7, true) := by
  intro q
  induction q with
  | zero =>
    intro a h1 h2 h3
    have hb := wk_bd a
    refine Ev.step (fun q => by rw [spec_OnDay.l0]) ?_
    rw [s_WeekOf]
    simp only [Option.bind_some, if_pos (show wk a = w by omega)]
    rw [show a - (wk a - w) % 7 = a by omega]
    exact Ev.now _
  | succ q ih =>
    intro a h1 h2 h3
    have hb := wk_bd a
    refine Ev.step (fun q => by rw [spec_OnDay.l0]) ?_
    rw [s_WeekOf]
    simp only [Option.bind_some, if_neg (show ¬ wk a = w by omega)]
    rw [w64 (a - 1) (by omega) (by omega)]
    have e : (wk (a - 1) - w) % 7 = (wk a - w) % 7 - 1 := by unfold wk at *; omega
    have := ih (a - 1) (by omega) (by omega) (by omega)
    rwa [show a - 1 - (wk (a - 1) - w) % 7 = a - (wk a - w) % 7 by omega] at this
theorem s_up (k d w last : Int) (hw : 0 ≤ w ∧ w ≤ 6) : ∀ (q : Nat) (a : Int), ((w - wk a) % 7).toNat = q → -1000000 ≤ a → a + q ≤ 1000000 → Ev (fun n => spec_OnDay.l1 n a last k d w) (if a + (w - wk a) % 7 > last then (0, false) else (a + (w - wk a) % 7, true)) := by
  intro q
  induction q with
  | zero =>
    intro a h1 h2 h3
    have hb := wk_bd a
    refine Ev.step (fun q => by rw [spec_OnDay.l1]) ?_
    rw [s_WeekOf]
    simp only [Option.bind_some, if_pos (show wk a = w by omega)]
    rw [show a + (w - wk a) % 7 = a by omega]
    by_cases h : a > last
    · simp only [if_pos h]; exact Ev.now _
    · simp only [if_neg h]; exact Ev.now _
  | succ q ih =>
    intro a h1 h2 h3
    have hb := wk_bd a
    refine Ev.step (fun q => by rw [spec_OnDay.l1]) ?_
    rw [s_WeekOf]
    simp only [Option.bind_some, if_neg (show ¬ wk a = w by omega)]
    rw [w64 (a + 1) (by omega) (by omega)]
    have e : (w - wk (a + 1)) % 7 = (w - wk a) % 7 - 1 := by unfold wk at *; omega
    have := ih (a + 1) (by omega) (by omega) (by omega)
    rwa [show a + 1 + (w - wk (a + 1)) % 7 = a + (w - wk a) % 7 by omega] at this
theorem s_OnDay (y m k d w : Int) : Ev (fun q => spec_OnDay.f q y m k d w) (onDay y m k d w) := by
  unfold spec_OnDay.f
  rw [s_OnOk]
  simp only [Option.bind_some]
  have hM := ML_bd y m
  have no : ∀ b : Bool, b = true → onDay y m k d w = (0, false) → Ev (fun n => spec_OnDay.j0 n y m b k d w) (onDay y m k d w) := by
    intro b hb e
    rw [e]
    refine Ev.step (fun q => by rw [spec_OnDay.j0]) ?_
    simp only [hb, if_true]
    exact Ev.now _
  by_cases hok : OnP k d w
  · simp only [decide_eq_true hok, if_true]
    rw [s_Month]
    simp only [Option.bind_some]
    by_cases h0 : ML y m = 0
    · exact no _ (by simp [h0]) (by unfold onDay; rw [if_neg (fun h => h.2.1 h0)])
    · refine Ev.step (fun q => by rw [spec_OnDay.j0]) ?_
      simp only [show (ML y m == 0) = false by simp [h0], Bool.false_eq_true, if_false]
      have hl := num_bd (vld_of (show 1 ≤ ML y m by omega) (Int.le_refl _))
      have hw6 : 0 ≤ w ∧ w ≤ 6 := by unfold OnP at hok; omega
      by_cases h2 : k = 2
      · simp only [if_pos h2]
        rw [s_Month]
        simp only [Option.bind_some]
        refine Ev.bind (s_DayOf y m (ML y m)) ?_
        rw [dayOf_in (show 1 ≤ ML y m by omega) (Int.le_refl _)]
        have hd : d ≤ ML y m := by unfold OnP at hok; omega
        unfold onDay
        rw [if_pos ⟨hok, h0, hd⟩, if_pos h2]
        exact s_down k d w hw6 _ _ rfl (by omega) (by omega)
      · simp only [if_neg h2]
        have hd1 : 1 ≤ d := by unfold OnP at hok; omega
        refine Ev.bind (s_DayOf y m d) ?_
        by_cases hd : d ≤ ML y m
        · rw [dayOf_in hd1 hd]
          have hn := num_bd (vld_of hd1 hd)
          simp only [if_true]
          refine Ev.step (fun q => by rw [spec_OnDay.j2]) ?_
          unfold onDay
          rw [if_pos ⟨hok, h0, hd⟩, if_neg h2]
          by_cases h1 : k = 1
          · simp only [show (k == 1) = true by simp [h1], if_true, if_pos h1]
            exact Ev.now _
          · simp only [show (k == 1) = false by simp [h1], Bool.false_eq_true, if_false, if_neg h1]
            rw [s_Month]
            simp only [Option.bind_some]
            refine Ev.bind (s_DayOf y m (ML y m)) ?_
            rw [dayOf_in (show 1 ≤ ML y m by omega) (Int.le_refl _)]
            exact s_up k d w _ hw6 _ _ rfl (by omega) (by omega)
        · have e : dayOf y m d = (0, false) := by unfold dayOf; rw [if_neg (fun h => hd h.2)]
          rw [e]
          simp only [Bool.false_eq_true, if_false]
          refine Ev.step (fun q => by rw [spec_OnDay.j2]) ?_
          simp only [if_true]
          have e2 : onDay y m k d w = (0, false) := by unfold onDay; rw [if_neg (fun h => hd h.2.2)]
          rw [e2]
          exact Ev.now _
  · simp only [decide_eq_false hok, Bool.false_eq_true, if_false]
    exact no true rfl (by unfold onDay; rw [if_neg (fun h => hok h.1)])

theorem FnExactOnDay : ∀ (a0 : Int) (a1 : Int) (a2_0 : Int) (a2_1 : Int) (a2_2 : Int), (Lit.int .i64 a0).wf = true → (Lit.int .i64 a1).wf = true → (Lit.int .i64 a2_0).wf = true → (Lit.int .i64 a2_1).wf = true → (Lit.int .i64 a2_2).wf = true → ∃ k, laws_FnExactOnDay.f k a0 a1 a2_0 a2_1 a2_2 = some true := by
  intro y m k d w _ _ _ _ _
  refine Ev.rounds ?_
  unfold laws_FnExactOnDay.f laws_toOn.f
  simp only [Option.bind_some]
  refine Ev.bind (s_OnDay y m k d w) (Ev.bind (i_OnDay y m k d w) ?_)
  simp only [if_true, bne_self_eq_false, Bool.false_eq_true, if_false]
  exact Ev.now _

end Go.Proofs.Ytklhjaimnhoijaa.Pure
