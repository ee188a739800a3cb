/- The law FnDays answers true for every slice of bytes. No condition. -/
import Derived.Test.YtklhjaimnhoijaaQFnDaysx4
namespace Go.Proofs.Ytklhjaimnhoijaa.Pure
open Go.RowKit Go.Proofs.Ytklhjaimnhoijaa.QFnDays Go.Proofs.YtklhjaimnhoijaaW.PrintWords Go.Proofs.YtklhjaimnhoijaaW.PrintLast
set_option linter.unusedVariables false
set_option linter.unusedSimpArgs false

theorem w64 (n : Int) (h0 : -9223372036854775808 ≤ n) (h1 : n ≤ 9223372036854775807) : wrap64 n = n := by unfold wrap64; omega
theorem tmn {a : Int} (b : Int) (h : 0 ≤ a) : Int.tmod a b = a % b := Int.tmod_eq_emod_of_nonneg h
theorem wfi {x : Int} (h : (Lit.int .i64 x).wf = true) : -9223372036854775808 ≤ x ∧ x ≤ 9223372036854775807 := by
  simp [Lit.wf, IntKind.min, IntKind.max, IntKind.signed, IntKind.bits] at h
  omega
theorem wf8 {x : Int} (h : (Lit.int .u8 x).wf = true) : 0 ≤ x ∧ x ≤ 255 := by
  simp [Lit.wf, IntKind.min, IntKind.max, IntKind.signed, IntKind.bits] at h
  omega
theorem evc {α : Type} {g : Nat → Option α} {r : α} (h : ∀ k, g k = some r) : Ev g r := ⟨0, fun k _ => h k⟩
theorem getD_mem {α : Type} (l : List α) (n : Nat) (z : α) (h : n < l.length) : l.getD n z ∈ l := by
  rw [List.getD_eq_getElem?_getD, List.getElem?_eq_getElem h]
  exact List.getElem_mem h
theorem ex_step {α : Type} {g f : Nat → Option α} (h : ∀ k, g (k + 1) = f k) (e : ∃ r, Ev f r) : ∃ r, Ev g r := by
  obtain ⟨r, e⟩ := e
  exact ⟨r, Ev.step h e⟩
theorem ex_bind {α β : Type} {g : Nat → Option α} {f : Nat → α → Option β} {a : α} (h : Ev g a) (e : ∃ r, Ev (fun n => f n a) r) : ∃ r, Ev (fun n => (g n).bind (f n)) r := by
  obtain ⟨r, e⟩ := e
  exact ⟨r, Ev.bind h e⟩

def Lp (y : Int) : Prop := y % 4 = 0 ∧ (¬ y % 100 = 0 ∨ y % 400 = 0)
instance (y : Int) : Decidable (Lp y) := by unfold Lp; exact inferInstance
def ylen (y : Int) : Int := if Lp y then 366 else 365
def beg (y : Int) : Int := 365 * (y - 1970) + (y - 1969) / 4 - (y - 1901) / 100 + (y - 1601) / 400
def mlen (y m : Int) : Int := if m = 2 then (if Lp y then 29 else 28) else if m = 4 then 30 else if m = 6 then 30 else if m = 9 then 30 else if m = 11 then 30 else 31
def cum (y m : Int) : Int := (367 * m - 362) / 12 - (if m ≤ 2 then 0 else if Lp y then 1 else 2)
def ML (y m : Int) : Int := if 1900 ≤ y ∧ y ≤ 2200 ∧ 1 ≤ m ∧ m ≤ 12 then mlen y m else 0
theorem beg_succ (y : Int) : beg (y + 1) = beg y + ylen y := by
  unfold beg ylen
  by_cases h : Lp y
  · rw [if_pos h]; unfold Lp at h; omega
  · rw [if_neg h]; unfold Lp at h; omega
theorem ylen_bd (y : Int) : 365 ≤ ylen y ∧ ylen y ≤ 366 := by unfold ylen; split <;> omega
theorem mlen_bd (y m : Int) : 28 ≤ mlen y m ∧ mlen y m ≤ 31 := by unfold mlen; repeat (first | omega | split)
theorem cum_succ (y m : Int) (h1 : 1 ≤ m) (h2 : m ≤ 12) : cum y (m + 1) = cum y m + mlen y m := by
  have : m = 1 ∨ m = 2 ∨ m = 3 ∨ m = 4 ∨ m = 5 ∨ m = 6 ∨ m = 7 ∨ m = 8 ∨ m = 9 ∨ m = 10 ∨ m = 11 ∨ m = 12 := by omega
  unfold cum mlen
  rcases this with rfl | rfl | rfl | rfl | rfl | rfl | rfl | rfl | rfl | rfl | rfl | rfl <;> by_cases h : Lp y <;> simp [h]
theorem cum_one (y : Int) : cum y 1 = 0 := by unfold cum; simp
theorem cum_13 (y : Int) : cum y 13 = ylen y := by unfold cum ylen; by_cases h : Lp y <;> simp [h]
theorem cum_mono (y m n : Int) (h1 : 1 ≤ m) (h : m ≤ n) (h2 : n ≤ 13) : cum y m ≤ cum y n := by
  unfold cum; split <;> split <;> (try split) <;> omega
theorem cum_bd (y m : Int) (h1 : 1 ≤ m) (h2 : m ≤ 13) : 0 ≤ cum y m ∧ cum y m ≤ 366 := by
  unfold cum; split <;> (try split) <;> omega
theorem beg_bd (y : Int) (h1 : 1900 ≤ y) (h2 : y ≤ 2201) : -25567 ≤ beg y ∧ beg y ≤ 84371 := by unfold beg; omega
theorem beg_mono (y z : Int) (h : y ≤ z) : beg y ≤ beg z := by unfold beg; omega
theorem beg_1970 : beg 1970 = 0 := by decide
theorem beg_1900 : beg 1900 = -25567 := by decide
theorem beg_2201 : beg 2201 = 84371 := by decide
theorem ML_in {y m : Int} (h1 : 1900 ≤ y) (h2 : y ≤ 2200) (h3 : 1 ≤ m) (h4 : m ≤ 12) : ML y m = mlen y m := by unfold ML; rw [if_pos ⟨h1, h2, h3, h4⟩]
theorem ML_pos {y m : Int} (h : 0 < ML y m) : 1900 ≤ y ∧ y ≤ 2200 ∧ 1 ≤ m ∧ m ≤ 12 := by
  unfold ML at h; split at h
  · assumption
  · omega
theorem ML_bd (y m : Int) : 0 ≤ ML y m ∧ ML y m ≤ 31 := by
  have := mlen_bd y m
  unfold ML; split <;> omega
/-- The year of a day. -/
theorem year_of (day : Int) (h1 : -25567 ≤ day) (h2 : day < 84371) : ∃ y, 1900 ≤ y ∧ y ≤ 2200 ∧ beg y ≤ day ∧ day < beg (y + 1) := by
  have key : ∀ (d : Nat) (y : Int), y + d = 2201 → 1900 ≤ y → beg y ≤ day → ∃ z, 1900 ≤ z ∧ z ≤ 2200 ∧ beg z ≤ day ∧ day < beg (z + 1) := by
    intro d
    induction d with
    | zero => intro y hy h3 h4; have : y = 2201 := by omega
              subst this; rw [beg_2201] at h4; omega
    | succ d ih =>
      intro y hy h3 h4
      by_cases h : day < beg (y + 1)
      · exact ⟨y, h3, by omega, h4, h⟩
      · exact ih (y + 1) (by omega) (by omega) (by omega)
  exact key 301 1900 (by omega) (by omega) (by rw [beg_1900]; exact h1)
theorem month_of (y left : Int) (h1 : 0 ≤ left) (h2 : left < ylen y) : ∃ m, 1 ≤ m ∧ m ≤ 12 ∧ cum y m ≤ left ∧ left < cum y m + mlen y m := by
  have key : ∀ (d : Nat) (m : Int), m + d = 13 → 1 ≤ m → cum y m ≤ left → ∃ z, 1 ≤ z ∧ z ≤ 12 ∧ cum y z ≤ left ∧ left < cum y z + mlen y z := by
    intro d
    induction d with
    | zero => intro m hm h3 h4; have : m = 13 := by omega
              subst this; rw [cum_13] at h4; omega
    | succ d ih =>
      intro m hm h3 h4
      by_cases h : left < cum y m + mlen y m
      · exact ⟨m, h3, by omega, h4, h⟩
      · exact ih (m + 1) (by omega) (by omega) (by rw [cum_succ y m h3 (by omega)]; omega)
  exact key 12 1 (by omega) (by omega) (by rw [cum_one]; exact h1)
def num (y m d : Int) : Int := beg y + cum y m + d - 1
def Vld (y m d : Int) : Prop := 1900 ≤ y ∧ y ≤ 2200 ∧ 1 ≤ m ∧ m ≤ 12 ∧ 1 ≤ d ∧ d ≤ mlen y m
theorem date_of (day : Int) (h1 : -25567 ≤ day) (h2 : day < 84371) : ∃ y m d, Vld y m d ∧ num y m d = day := by
  obtain ⟨y, hy1, hy2, hb, hb2⟩ := year_of day h1 h2
  rw [beg_succ] at hb2
  obtain ⟨m, hm1, hm2, hc, hc2⟩ := month_of y (day - beg y) (by omega) (by omega)
  exact ⟨y, m, day - beg y - cum y m + 1, ⟨hy1, hy2, hm1, hm2, by omega, by omega⟩, by unfold num; omega⟩
theorem num_year {y m d : Int} (h : Vld y m d) : beg y ≤ num y m d ∧ num y m d < beg (y + 1) := by
  obtain ⟨h1, h2, h3, h4, h5, h6⟩ := h
  have := cum_bd y m h3 (by omega)
  have a := cum_mono y (m + 1) 13 (by omega) (by omega) (by omega)
  rw [cum_succ y m h3 h4, cum_13] at a
  rw [beg_succ]; unfold num; omega
theorem num_inj {y m d y' m' d' : Int} (h : Vld y m d) (h' : Vld y' m' d') (e : num y m d = num y' m' d') : y = y' ∧ m = m' ∧ d = d' := by
  have a := num_year h
  have b := num_year h'
  have hy : y = y' := by
    rcases Int.lt_trichotomy y y' with c | c | c
    · have := beg_mono (y + 1) y' (by omega); omega
    · exact c
    · have := beg_mono (y' + 1) y (by omega); omega
  subst hy
  obtain ⟨h1, h2, h3, h4, h5, h6⟩ := h
  obtain ⟨g1, g2, g3, g4, g5, g6⟩ := h'
  unfold num at e
  have hm : m = m' := by
    rcases Int.lt_trichotomy m m' with c | c | c
    · have := cum_mono y (m + 1) m' (by omega) (by omega) (by omega); rw [cum_succ y m h3 h4] at this; omega
    · exact c
    · have := cum_mono y (m' + 1) m (by omega) (by omega) (by omega); rw [cum_succ y m' g3 g4] at this; omega
  subst hm
  exact ⟨rfl, rfl, by omega⟩
theorem num_bd {y m d : Int} (h : Vld y m d) : -25567 ≤ num y m d ∧ num y m d < 84371 := by
  have a := num_year h
  have b := beg_bd y h.1 (by have := h.2.1; omega)
  have c := beg_mono (y + 1) 2201 (by have := h.2.1; omega)
  rw [beg_2201] at c; omega

theorem i_within (n a b : Int) : impl_within.f n a b = some (decide (a ≤ n ∧ n ≤ b)) := by
  unfold impl_within.f
  by_cases h : n ≥ a
  · rw [if_pos h]; simp [show a ≤ n from h]
  · rw [if_neg h]; simp [show ¬ a ≤ n from h]

theorem i_isLeap (y : Int) (h : 0 ≤ y) : impl_isLeap.f y = some (decide (Lp y)) := by
  unfold impl_isLeap.f
  simp only [tmn _ h]
  unfold Lp
  by_cases h4 : y % 4 = 0
  · by_cases h100 : y % 100 = 0
    · rw [if_pos h4, if_pos h100]
      by_cases h400 : y % 400 = 0 <;> simp [h4, h100, h400]
    · rw [if_pos h4, if_neg h100]; simp [h4, h100]
  · rw [if_neg h4]
    have h400 : ¬ y % 400 = 0 := by omega
    simp [h4, h400]
theorem i_isYear (y : Int) : impl_isYear.f y = some (decide (1900 ≤ y ∧ y ≤ 2200)) := by
  unfold impl_isYear.f; rw [i_within]; rfl
theorem i_MonthLong (y m : Int) : Ev (fun k => impl_MonthLong.f k y m) (ML y m) := by
  unfold impl_MonthLong.f
  rw [i_isYear]
  simp only [Option.bind_some]
  by_cases h : 1900 ≤ y ∧ y ≤ 2200
  · rw [i_within]
    simp only [decide_eq_true h, if_true, Option.bind_some]
    by_cases hm : 1 ≤ m ∧ m ≤ 12
    · refine Ev.step (fun k => by rw [impl_MonthLong.j0]) ?_
      rw [ML_in h.1 h.2 hm.1 hm.2]
      simp only [decide_eq_true hm, Bool.not_true, Bool.false_eq_true, if_false]
      obtain ⟨h1, h2⟩ := hm
      have : m = 1 ∨ m = 2 ∨ m = 3 ∨ m = 4 ∨ m = 5 ∨ m = 6 ∨ m = 7 ∨ m = 8 ∨ m = 9 ∨ m = 10 ∨ m = 11 ∨ m = 12 := by omega
      rw [i_isLeap y (by omega)]
      unfold mlen
      rcases this with rfl | rfl | rfl | rfl | rfl | rfl | rfl | rfl | rfl | rfl | rfl | rfl
      · exact evc fun _ => by simp [wrap64, rd]
      · by_cases hl : Lp y
        · exact evc fun _ => by simp [hl]
        · exact evc fun _ => by simp [hl, wrap64, rd]
      all_goals exact evc fun _ => by simp [wrap64, rd]
    · refine Ev.step (fun k => by rw [impl_MonthLong.j0]) ?_
      have e : ML y m = 0 := by unfold ML; rw [if_neg (by omega)]
      rw [e]
      simp only [decide_eq_false hm, Bool.not_false, if_true]
      exact Ev.now _
  · simp only [decide_eq_false h, Bool.false_eq_true, if_false]
    refine Ev.step (fun k => by rw [impl_MonthLong.j0]) ?_
    have e : ML y m = 0 := by unfold ML; rw [if_neg (by omega)]
    rw [e]
    simp only [if_true]
    exact Ev.now _

theorem i_yearLong (y : Int) (h : 0 ≤ y) : impl_yearLong.f y = some (ylen y) := by
  unfold impl_yearLong.f; rw [i_isLeap y h]; unfold ylen
  by_cases hl : Lp y <;> simp [hl]
theorem i_begins1 : ∀ (d : Nat) (n acc : Int), n + d = 1970 → 1900 ≤ n → -1000000 ≤ acc - 366 * (1970 - n) → acc ≤ 1000000 → Ev (fun k => impl_yearBegins.l1 k acc n) (acc + beg n) := by
  intro d
  induction d with
  | zero =>
    intro n acc h1 h2 h3 h4
    obtain rfl : n = 1970 := by omega
    refine Ev.step (fun k => by rw [impl_yearBegins.l1]) ?_
    rw [beg_1970]; simp only [Int.lt_irrefl, if_false, Int.add_zero]; exact Ev.now _
  | succ d ih =>
    intro n acc h1 h2 h3 h4
    refine Ev.step (fun k => by rw [impl_yearBegins.l1]) ?_
    rw [i_yearLong n (by omega)]
    have hb := ylen_bd n
    have hs := beg_succ n
    simp only [if_pos (show n < 1970 by omega), Option.bind_some]
    rw [w64 (acc - ylen n) (by omega) (by omega), w64 (n + 1) (by omega) (by omega)]
    have := ih (n + 1) (acc - ylen n) (by omega) (by omega) (by omega) (by omega)
    rwa [show acc - ylen n + beg (n + 1) = acc + beg n by omega] at this
theorem i_begins0 : ∀ (d : Nat) (y n : Int), n + d = y → 1970 ≤ n → y ≤ 2201 → Ev (fun k => impl_yearBegins.l0 k y (beg n) n) (beg y) := by
  intro d
  induction d with
  | zero =>
    intro y n h1 h2 h3
    obtain rfl : n = y := by omega
    refine Ev.step (fun k => by rw [impl_yearBegins.l0]) ?_
    simp only [Int.lt_irrefl, if_false]
    refine Ev.step (fun k => by rw [impl_yearBegins.l1]) ?_
    simp only [if_neg (show ¬ n < 1970 by omega)]; exact Ev.now _
  | succ d ih =>
    intro y n h1 h2 h3
    refine Ev.step (fun k => by rw [impl_yearBegins.l0]) ?_
    rw [i_yearLong n (by omega)]
    have hb := beg_bd n (by omega) (by omega)
    have hq := ylen_bd n
    simp only [if_pos (show n < y by omega), Option.bind_some]
    rw [w64 (beg n + ylen n) (by omega) (by omega), w64 (n + 1) (by omega) (by omega), ← beg_succ]
    exact ih y (n + 1) (by omega) (by omega) h3
theorem i_yearBegins (y : Int) (h1 : 1900 ≤ y) (h2 : y ≤ 2201) : Ev (fun k => impl_yearBegins.f k y) (beg y) := by
  unfold impl_yearBegins.f
  by_cases h : 1970 ≤ y
  · have := i_begins0 (y - 1970).toNat y 1970 (by omega) (by omega) h2
    rwa [beg_1970] at this
  · refine Ev.step (fun k => by rw [impl_yearBegins.l0]) ?_
    simp only [if_neg (show ¬ (1970 : Int) < y by omega)]
    have := i_begins1 (1970 - y).toNat y 0 (by omega) (by omega) (by omega) (by omega)
    rwa [Int.zero_add] at this

theorem i_dayl (y m : Int) (hy1 : 1900 ≤ y) (hy2 : y ≤ 2200) (hm : m ≤ 12) : ∀ (d : Nat) (n acc : Int), n + d = m → 1 ≤ n → -1000000 ≤ acc → acc ≤ 1000000 - 31 * (m - n) → Ev (fun k => impl_DayOf.l0 k y m acc n) (acc + cum y m - cum y n, true) := by
  intro d
  induction d with
  | zero =>
    intro n acc h1 h2 h3 h4
    obtain rfl : n = m := by omega
    refine Ev.step (fun k => by rw [impl_DayOf.l0]) ?_
    simp only [Int.lt_irrefl, if_false]
    rw [show acc + cum y n - cum y n = acc by omega]
    exact Ev.now _
  | succ d ih =>
    intro n acc h1 h2 h3 h4
    refine Ev.step (fun k => by rw [impl_DayOf.l0]) ?_
    simp only [if_pos (show n < m by omega)]
    refine Ev.bind (i_MonthLong y n) ?_
    rw [ML_in hy1 hy2 h2 (by omega)]
    have hb := mlen_bd y n
    have hs := cum_succ y n h2 (by omega)
    rw [w64 (acc + mlen y n) (by omega) (by omega), w64 (n + 1) (by omega) (by omega)]
    have := ih (n + 1) (acc + mlen y n) (by omega) (by omega) (by omega) (by omega)
    rwa [show acc + mlen y n + cum y m - cum y (n + 1) = acc + cum y m - cum y n by omega] at this
def dayOf (y m d : Int) : Int × Bool := if 1 ≤ d ∧ d ≤ ML y m then (num y m d, true) else (0, false)
theorem i_DayOf (y m d : Int) : Ev (fun k => impl_DayOf.f k y m d) (dayOf y m d) := by
  unfold impl_DayOf.f
  refine Ev.bind (i_MonthLong y m) ?_
  rw [i_within]
  simp only [Option.bind_some]
  unfold dayOf
  by_cases h : 1 ≤ d ∧ d ≤ ML y m
  · simp only [decide_eq_true h, if_true, if_pos h]
    obtain ⟨g1, g2, g3, g4⟩ := ML_pos (show 0 < ML y m by omega)
    refine Ev.bind (i_yearBegins y g1 (by omega)) ?_
    have hb := beg_bd y g1 (by omega)
    have hm := ML_bd y m
    rw [w64 (beg y + d) (by omega) (by omega), w64 (beg y + d - 1) (by omega) (by omega)]
    have := i_dayl y m g1 g2 g4 (m - 1).toNat 1 (beg y + d - 1) (by omega) (by omega) (by omega) (by omega)
    rw [cum_one] at this
    unfold num
    rwa [show beg y + d - 1 + cum y m - 0 = beg y + cum y m + d - 1 by omega] at this
  · simp only [decide_eq_false h, Bool.false_eq_true, if_false, if_neg h]
    exact Ev.now _

theorem s_In (n a b : Int) : spec_l1In.f n a b = some (decide (a ≤ n ∧ n ≤ b)) := by
  unfold spec_l1In.f
  by_cases h : n ≥ a
  · rw [if_pos h]; simp [show a ≤ n from h]
  · rw [if_neg h]; simp [show ¬ a ≤ n from h]

theorem s_Leap (y : Int) (h : 0 ≤ y) : spec_l11Leap.f y = some (decide (Lp y)) := by
  unfold spec_l11Leap.f
  simp only [tmn _ h]
  unfold Lp
  by_cases h4 : y % 4 = 0
  · by_cases h100 : y % 100 = 0
    · rw [if_pos h4, if_pos h100]
      by_cases h400 : y % 400 = 0 <;> simp [h4, h100, h400]
    · rw [if_pos h4, if_neg h100]; simp [h4, h100]
  · rw [if_neg h4]
    simp [h4]
theorem s_Long (y m : Int) (h : 0 ≤ y) : spec_l11Long.f y m = some (mlen y m) := by
  unfold spec_l11Long.f mlen
  rw [s_Leap y h]
  simp only [Option.bind_some]
  by_cases h2 : m = 2
  · rw [if_pos h2, if_pos h2]; by_cases hl : Lp y <;> simp [hl]
  · rw [if_neg h2, if_neg h2]
    repeat (first | rfl | split)

theorem s_Month (y m : Int) : spec_MonthLong.f y m = some (ML y m) := by
  unfold spec_MonthLong.f spec_l11Year.f ML
  rw [s_In, s_In]
  simp only [Option.bind_some]
  by_cases h : 1900 ≤ y ∧ y ≤ 2200
  · simp only [decide_eq_true h, if_true]
    by_cases hm : 1 ≤ m ∧ m ≤ 12
    · rw [s_Long y m (by omega)]
      simp only [decide_eq_true hm, if_true, Option.bind_some]
      rw [if_pos ⟨h.1, h.2, hm.1, hm.2⟩]
    · simp only [decide_eq_false hm, Bool.false_eq_true, if_false]
      rw [if_neg (by omega)]
  · simp only [decide_eq_false h, Bool.false_eq_true, if_false]
    rw [if_neg (by omega)]

theorem s_begin1 : ∀ (d : Nat) (y n : Int), y + d = n + 1 → 1900 ≤ y → n ≤ 2200 → Ev (fun k => spec_l11Begin.l1 k y (beg (n + 1)) n) (beg y) := by
  intro d
  induction d with
  | zero =>
    intro y n h1 h2 h3
    obtain rfl : n = y - 1 := by omega
    refine Ev.step (fun k => by rw [spec_l11Begin.l1]) ?_
    simp only [if_neg (show ¬ y - 1 ≥ y by omega)]
    rw [show y - 1 + 1 = y by omega]
    exact Ev.now _
  | succ d ih =>
    intro y n h1 h2 h3
    refine Ev.step (fun k => by rw [spec_l11Begin.l1]) ?_
    simp only [if_pos (show n ≥ y by omega)]
    rw [s_Leap n (by omega)]
    have hb := beg_bd n (by omega) (by omega)
    have hs := beg_succ n
    have hq := ylen_bd n
    have i := ih y (n - 1) (by omega) h2 (by omega)
    rw [show n - 1 + 1 = n by omega] at i
    simp only [Option.bind_some]
    rw [w64 (beg (n + 1) - 365) (by omega) (by omega), w64 (beg (n + 1) - 365 - 1) (by omega) (by omega), w64 (n - 1) (by omega) (by omega)]
    unfold ylen at hs
    by_cases hl : Lp n
    · rw [if_pos hl] at hs
      simp only [decide_eq_true hl, if_true]
      rwa [show beg (n + 1) - 365 - 1 = beg n by omega]
    · rw [if_neg hl] at hs
      simp only [decide_eq_false hl, Bool.false_eq_true, if_false]
      rwa [show beg (n + 1) - 365 = beg n by omega]
theorem s_begin0 : ∀ (d : Nat) (y n : Int), n + d = y → 1970 ≤ n → y ≤ 2201 → Ev (fun k => spec_l11Begin.l0 k y (beg n) n) (beg y) := by
  intro d
  induction d with
  | zero =>
    intro y n h1 h2 h3
    obtain rfl : n = y := by omega
    refine Ev.step (fun k => by rw [spec_l11Begin.l0]) ?_
    simp only [Int.lt_irrefl, if_false]
    refine Ev.step (fun k => by rw [spec_l11Begin.l1]) ?_
    simp only [if_neg (show ¬ (1969 : Int) ≥ n by omega)]
    exact Ev.now _
  | succ d ih =>
    intro y n h1 h2 h3
    refine Ev.step (fun k => by rw [spec_l11Begin.l0]) ?_
    rw [s_Leap n (by omega)]
    have hb := beg_bd n (by omega) (by omega)
    have hs := beg_succ n
    simp only [if_pos (show n < y by omega), Option.bind_some]
    have i := ih y (n + 1) (by omega) (by omega) h3
    rw [w64 (beg n + 365) (by omega) (by omega), w64 (beg n + 365 + 1) (by omega) (by omega), w64 (n + 1) (by omega) (by omega)]
    unfold ylen at hs
    by_cases hl : Lp n
    · rw [if_pos hl] at hs
      simp only [decide_eq_true hl, if_true]
      rwa [show beg n + 365 + 1 = beg (n + 1) by omega]
    · rw [if_neg hl] at hs
      simp only [decide_eq_false hl, Bool.false_eq_true, if_false]
      rwa [show beg n + 365 = beg (n + 1) by omega]
theorem s_Begin (y : Int) (h1 : 1900 ≤ y) (h2 : y ≤ 2201) : Ev (fun k => spec_l11Begin.f k y) (beg y) := by
  unfold spec_l11Begin.f
  by_cases h : 1970 ≤ y
  · have := s_begin0 (y - 1970).toNat y 1970 (by omega) (by omega) h2
    rwa [beg_1970] at this
  · refine Ev.step (fun k => by rw [spec_l11Begin.l0]) ?_
    simp only [if_neg (show ¬ (1970 : Int) < y by omega)]
    have := s_begin1 (1970 - y).toNat y 1969 (by omega) (by omega) (by omega)
    rwa [show (1969 : Int) + 1 = 1970 by omega, beg_1970] at this

theorem s_dayl (y m dd : Int) (hy1 : 1900 ≤ y) (hy2 : y ≤ 2200) (hm : m ≤ 12) (hd1 : 0 ≤ dd) (hd2 : dd ≤ 31) : ∀ (d : Nat) (n acc : Int), n + d = m → 1 ≤ n → -1000000 ≤ acc → acc ≤ 1000000 - 31 * (m - n) → Ev (fun k => spec_DayOf.l0 k y m dd acc n) (acc + cum y m - cum y n + dd - 1, true) := by
  intro d
  induction d with
  | zero =>
    intro n acc h1 h2 h3 h4
    obtain rfl : n = m := by omega
    refine Ev.step (fun k => by rw [spec_DayOf.l0]) ?_
    simp only [Int.lt_irrefl, if_false]
    rw [w64 (acc + dd) (by omega) (by omega), w64 (acc + dd - 1) (by omega) (by omega)]
    rw [show acc + cum y n - cum y n = acc by omega]
    exact Ev.now _
  | succ d ih =>
    intro n acc h1 h2 h3 h4
    refine Ev.step (fun k => by rw [spec_DayOf.l0]) ?_
    simp only [if_pos (show n < m by omega)]
    rw [s_Long y n (by omega)]
    simp only [Option.bind_some]
    have hb := mlen_bd y n
    have hs := cum_succ y n h2 (by omega)
    rw [w64 (acc + mlen y n) (by omega) (by omega), w64 (n + 1) (by omega) (by omega)]
    have := ih (n + 1) (acc + mlen y n) (by omega) (by omega) (by omega) (by omega)
    rwa [show acc + mlen y n + cum y m - cum y (n + 1) = acc + cum y m - cum y n by omega] at this
theorem s_DayOf (y m d : Int) : Ev (fun k => spec_DayOf.f k y m d) (dayOf y m d) := by
  unfold spec_DayOf.f
  rw [s_Month]
  simp only [Option.bind_some]
  rw [s_In]
  simp only [Option.bind_some]
  unfold dayOf
  by_cases h : 1 ≤ d ∧ d ≤ ML y m
  · simp only [decide_eq_true h, if_true, if_pos h]
    obtain ⟨g1, g2, g3, g4⟩ := ML_pos (show 0 < ML y m by omega)
    refine Ev.bind (s_Begin y g1 (by omega)) ?_
    have hb := beg_bd y g1 (by omega)
    have hm := ML_bd y m
    have := s_dayl y m d g1 g2 g4 (by omega) (by omega) (m - 1).toNat 1 (beg y) (by omega) (by omega) (by omega) (by omega)
    rw [cum_one] at this
    unfold num
    rwa [show beg y + cum y m - 0 + d - 1 = beg y + cum y m + d - 1 by omega] at this
  · simp only [decide_eq_false h, Bool.false_eq_true, if_false, if_neg h]
    exact Ev.now _

theorem tm7 (a : Int) : Int.tmod a 7 = if 0 ≤ a then a % 7 else -((-a) % 7) := by
  split
  · rename_i h; exact tmn 7 h
  · rename_i h
    have e : Int.tmod (-(-a)) 7 = -(Int.tmod (-a) 7) := Int.neg_tmod ..
    rw [Int.neg_neg] at e
    rw [e, tmn 7 (by omega)]
def wk (a : Int) : Int := (a + 4) % 7
theorem wk_bd (a : Int) : 0 ≤ wk a ∧ wk a ≤ 6 := by unfold wk; omega
theorem i_WeekOf (a : Int) : impl_WeekOf.f a = some (wk a) := by
  unfold impl_WeekOf.f wk
  have h := tm7 a
  have hb : -7 < Int.tmod a 7 ∧ Int.tmod a 7 < 7 := by split at h <;> omega
  rw [w64 (Int.tmod a 7 + 7) (by omega) (by omega), w64 (Int.tmod a 7 + 7 + 4) (by omega) (by omega), tmn 7 (show 0 ≤ Int.tmod a 7 + 7 + 4 by omega)]
  split at h <;> simp only [Option.some.injEq] <;> omega

theorem i_dateM (y m dd : Int) (v : Vld y m dd) : ∀ (d : Nat) (n : Int), n + d = m → 1 ≤ n → Ev (fun k => impl_DateOf.l1 k (cum y m - cum y n + dd - 1) y n) (y, m, dd, true) := by
  obtain ⟨hy1, hy2, hm1, hm2, hd1, hd2⟩ := v
  intro d
  have hbm := mlen_bd y m
  induction d with
  | zero =>
    intro n h1 h2
    obtain rfl : n = m := by omega
    refine Ev.step (fun k => by rw [impl_DateOf.l1]) ?_
    refine Ev.bind (i_MonthLong y n) ?_
    rw [ML_in hy1 hy2 hm1 hm2]
    rw [show cum y n - cum y n + dd - 1 = dd - 1 by omega]
    simp only [if_neg (show ¬ dd - 1 ≥ mlen y n by omega)]
    rw [w64 (dd - 1 + 1) (by omega) (by omega), show dd - 1 + 1 = dd by omega]
    exact Ev.now _
  | succ d ih =>
    intro n h1 h2
    refine Ev.step (fun k => by rw [impl_DateOf.l1]) ?_
    refine Ev.bind (i_MonthLong y n) ?_
    rw [ML_in hy1 hy2 h2 (by omega)]
    have hs := cum_succ y n h2 (by omega)
    have hmo := cum_mono y (n + 1) m (by omega) (by omega) (by omega)
    have hb1 := cum_bd y m hm1 (by omega)
    have hb2 := cum_bd y n h2 (by omega)
    have hb := mlen_bd y n
    simp only [if_pos (show cum y m - cum y n + dd - 1 ≥ mlen y n by omega)]
    refine Ev.bind (i_MonthLong y n) ?_
    rw [ML_in hy1 hy2 h2 (by omega)]
    rw [w64 (cum y m - cum y n + dd - 1 - mlen y n) (by omega) (by omega), w64 (n + 1) (by omega) (by omega)]
    have := ih (n + 1) (by omega) (by omega)
    rwa [show cum y m - cum y (n + 1) + dd - 1 = cum y m - cum y n + dd - 1 - mlen y n by omega] at this
theorem i_dateY (y m dd : Int) (v : Vld y m dd) : ∀ (d : Nat) (n : Int), n + d = y → 1900 ≤ n → Ev (fun k => impl_DateOf.l0 k (num y m dd - beg n) n) (y, m, dd, true) := by
  have hn := num_year v
  have hv := v
  obtain ⟨hy1, hy2, hm1, hm2, hd1, hd2⟩ := v
  intro d
  induction d with
  | zero =>
    intro n h1 h2
    obtain rfl : n = y := by omega
    refine Ev.step (fun k => by rw [impl_DateOf.l0]) ?_
    rw [i_yearLong n (by omega)]
    have hs := beg_succ n
    simp only [Option.bind_some, if_neg (show ¬ num n m dd - beg n ≥ ylen n by omega)]
    have := i_dateM n m dd hv (m - 1).toNat 1 (by omega) (by omega)
    rw [cum_one] at this
    rwa [show num n m dd - beg n = cum n m - 0 + dd - 1 by unfold num; omega]
  | succ d ih =>
    intro n h1 h2
    refine Ev.step (fun k => by rw [impl_DateOf.l0]) ?_
    rw [i_yearLong n (by omega)]
    have hs := beg_succ n
    have hmo := beg_mono (n + 1) y (by omega)
    have hb1 := num_bd hv
    have hb2 := beg_bd n h2 (by omega)
    have hq := ylen_bd n
    simp only [Option.bind_some, if_pos (show num y m dd - beg n ≥ ylen n by omega)]
    rw [w64 (num y m dd - beg n - ylen n) (by omega) (by omega), w64 (n + 1) (by omega) (by omega)]
    have := ih (n + 1) (by omega) (by omega)
    rwa [show num y m dd - beg (n + 1) = num y m dd - beg n - ylen n by omega] at this
theorem i_DateOf (y m dd : Int) (v : Vld y m dd) : Ev (fun k => impl_DateOf.f k (num y m dd)) (y, m, dd, true) := by
  unfold impl_DateOf.f
  have hb := num_bd v
  refine Ev.bind (i_yearBegins 1900 (by omega) (by omega)) (Ev.bind (i_yearBegins 2201 (by omega) (by omega)) ?_)
  rw [i_within]
  rw [beg_1900, beg_2201]
  simp only [Option.bind_some, decide_eq_true (show (-25567 : Int) ≤ num y m dd ∧ num y m dd ≤ wrap64 (84371 - 1) by unfold wrap64; omega), if_true]
  refine Ev.bind (i_yearBegins 1900 (by omega) (by omega)) ?_
  rw [w64 (num y m dd - beg 1900) (by rw [beg_1900]; omega) (by rw [beg_1900]; omega)]
  exact i_dateY y m dd v (y - 1900).toNat 1900 (by have := v.1; omega) (by omega)
theorem i_DateOf_no (day : Int) (h : day < -25567 ∨ 84371 ≤ day) : Ev (fun k => impl_DateOf.f k day) (0, 0, 0, false) := by
  unfold impl_DateOf.f
  refine Ev.bind (i_yearBegins 1900 (by omega) (by omega)) (Ev.bind (i_yearBegins 2201 (by omega) (by omega)) ?_)
  rw [i_within]
  rw [beg_1900, beg_2201]
  simp only [Option.bind_some, decide_eq_false (show ¬ ((-25567 : Int) ≤ day ∧ day ≤ wrap64 (84371 - 1)) by unfold wrap64; omega), Bool.false_eq_true, if_false]
  exact Ev.now _

theorem s_dateM (y m dd : Int) (v : Vld y m dd) : ∀ (d : Nat) (n : Int), n + d = m → 1 ≤ n → Ev (fun k => spec_DateOf.l1 k y (cum y m - cum y n + dd - 1) n) (y, m, dd, true) := by
  obtain ⟨hy1, hy2, hm1, hm2, hd1, hd2⟩ := v
  intro d
  have hbm := mlen_bd y m
  induction d with
  | zero =>
    intro n h1 h2
    obtain rfl : n = m := by omega
    refine Ev.step (fun k => by rw [spec_DateOf.l1]) ?_
    rw [s_Long y n (by omega)]
    rw [show cum y n - cum y n + dd - 1 = dd - 1 by omega]
    simp only [Option.bind_some, if_neg (show ¬ dd - 1 ≥ mlen y n by omega)]
    rw [w64 (dd - 1 + 1) (by omega) (by omega), show dd - 1 + 1 = dd by omega]
    exact Ev.now _
  | succ d ih =>
    intro n h1 h2
    refine Ev.step (fun k => by rw [spec_DateOf.l1]) ?_
    rw [s_Long y n (by omega)]
    have hs := cum_succ y n h2 (by omega)
    have hmo := cum_mono y (n + 1) m (by omega) (by omega) (by omega)
    have hb1 := cum_bd y m hm1 (by omega)
    have hb2 := cum_bd y n h2 (by omega)
    have hb := mlen_bd y n
    simp only [Option.bind_some, if_pos (show cum y m - cum y n + dd - 1 ≥ mlen y n by omega)]
    rw [w64 (cum y m - cum y n + dd - 1 - mlen y n) (by omega) (by omega), w64 (n + 1) (by omega) (by omega)]
    have := ih (n + 1) (by omega) (by omega)
    rwa [show cum y m - cum y (n + 1) + dd - 1 = cum y m - cum y n + dd - 1 - mlen y n by omega] at this
theorem s_dateY (y m dd : Int) (v : Vld y m dd) : ∀ (d : Nat) (n : Int), n + d = y → 1900 ≤ n → Ev (fun k => spec_DateOf.l0 k (num y m dd) n) (y, m, dd, true) := by
  have hn := num_year v
  have hv := v
  obtain ⟨hy1, hy2, hm1, hm2, hd1, hd2⟩ := v
  intro d
  induction d with
  | zero =>
    intro n h1 h2
    obtain rfl : n = y := by omega
    refine Ev.step (fun k => by rw [spec_DateOf.l0]) ?_
    rw [w64 (n + 1) (by omega) (by omega)]
    refine Ev.bind (s_Begin (n + 1) (by omega) (by omega)) ?_
    simp only [if_neg (show ¬ num n m dd ≥ beg (n + 1) by omega)]
    refine Ev.bind (s_Begin n (by omega) (by omega)) ?_
    have hs := beg_succ n
    have hq := ylen_bd n
    have := s_dateM n m dd hv (m - 1).toNat 1 (by omega) (by omega)
    rw [cum_one] at this
    rw [w64 (num n m dd - beg n) (by omega) (by omega)]
    rwa [show num n m dd - beg n = cum n m - 0 + dd - 1 by unfold num; omega]
  | succ d ih =>
    intro n h1 h2
    refine Ev.step (fun k => by rw [spec_DateOf.l0]) ?_
    rw [w64 (n + 1) (by omega) (by omega)]
    refine Ev.bind (s_Begin (n + 1) (by omega) (by omega)) ?_
    have hmo := beg_mono (n + 1) y (by omega)
    simp only [if_pos (show num y m dd ≥ beg (n + 1) by omega)]
    exact ih (n + 1) (by omega) (by omega)
theorem s_DateOf (y m dd : Int) (v : Vld y m dd) : Ev (fun k => spec_DateOf.f k (num y m dd)) (y, m, dd, true) := by
  unfold spec_DateOf.f
  have hb := num_bd v
  refine Ev.bind (s_Begin 1900 (by omega) (by omega)) ?_
  rw [beg_1900]
  simp only [if_neg (show ¬ num y m dd < -25567 by omega)]
  refine Ev.bind (s_Begin 2201 (by omega) (by omega)) ?_
  rw [beg_2201]
  refine Ev.step (fun k => by rw [spec_DateOf.j0]) ?_
  simp only [decide_eq_false (show ¬ num y m dd ≥ 84371 by omega), Bool.false_eq_true, if_false]
  exact s_dateY y m dd v (y - 1900).toNat 1900 (by have := v.1; omega) (by omega)
theorem s_DateOf_no (day : Int) (h : day < -25567 ∨ 84371 ≤ day) : Ev (fun k => spec_DateOf.f k day) (0, 0, 0, false) := by
  unfold spec_DateOf.f
  refine Ev.bind (s_Begin 1900 (by omega) (by omega)) ?_
  rw [beg_1900]
  by_cases hl : day < -25567
  · simp only [if_pos hl]
    refine Ev.step (fun k => by rw [spec_DateOf.j0]) ?_
    simp only [if_true]
    exact Ev.now _
  · simp only [if_neg hl]
    refine Ev.bind (s_Begin 2201 (by omega) (by omega)) ?_
    rw [beg_2201]
    refine Ev.step (fun k => by rw [spec_DateOf.j0]) ?_
    simp only [decide_eq_true (show day ≥ 84371 by omega), if_true]
    exact Ev.now _

theorem and_mask (x : Int) (m : Nat) (hm : m < 1152921504606846976) : 0 ≤ Go.bits .and .i64 x (m : Int) ∧ Go.bits .and .i64 x (m : Int) ≤ (m : Int) := by
  have hb : ((BitVec.ofInt 64 x) &&& (BitVec.ofInt 64 (m : Int))).toNat ≤ m := by
    rw [BitVec.toNat_and]
    refine Nat.le_trans Nat.and_le_right ?_
    rw [BitVec.ofInt_natCast, BitVec.toNat_ofNat]
    exact Nat.mod_le _ _
  have e : Go.bits .and .i64 x (m : Int) = (((BitVec.ofInt 64 x) &&& (BitVec.ofInt 64 (m : Int))).toNat : Int) := by
    show IntKind.i64.wrap _ = _
    rw [Go.IntKind.wrap_i64]
    have := hb
    show ((((BitVec.ofInt 64 x) &&& (BitVec.ofInt 64 (m : Int))).toNat : Int) + 9223372036854775808) % 18446744073709551616 - 9223372036854775808 = _
    omega
  rw [e]; omega
/-- A reader of draws over b: its place. -/
def Cur (b : List Int) (i : Int) : Prop := 0 ≤ i ∧ i ≤ (b.length : Int) ∧ b.length ≤ 1048576
theorem d_byte {b : List Int} {i h : Int} (c : Cur b i) : ∃ r i' h', spec_l1Byte.f b i h = some (r, i', h') ∧ 0 ≤ r ∧ r ≤ 255 ∧ Cur b i' := by
  obtain ⟨h0, h1, h2⟩ := c
  unfold spec_l1Byte.f
  by_cases hl : i < (b.length : Int)
  · rw [if_pos hl, if_pos h0]
    have := and_mask (wrap64 ((Go.bits .and .i64 (Go.bits .xor .i64 ((wrap64 ((wrap64 (h * 6364136223846793005)) + 1442695040888963407)) / 8589934592) ((wrap64 ((wrap64 (h * 6364136223846793005)) + 1442695040888963407)) / 35184372088832)) 255) + (wrap64 (rd b i)))) 255 (by omega)
    exact ⟨_, _, _, rfl, this.1, this.2, by rw [w64 (i + 1) (by omega) (by omega)]; exact ⟨by omega, by omega, h2⟩⟩
  · rw [if_neg hl]
    have := and_mask (Go.bits .xor .i64 ((wrap64 ((wrap64 (h * 6364136223846793005)) + 1442695040888963407)) / 8589934592) ((wrap64 ((wrap64 (h * 6364136223846793005)) + 1442695040888963407)) / 35184372088832)) 255 (by omega)
    exact ⟨_, _, _, rfl, this.1, this.2, h0, h1, h2⟩
theorem d_below {b : List Int} {i h : Int} (c : Cur b i) (n : Int) (hn : n ≤ 4294967296) : ∃ r i' h', spec_l1Below.f b i h n = some (r, i', h') ∧ 0 ≤ r ∧ (0 < n → r < n) ∧ (n ≤ 0 → r = 0) ∧ Cur b i' := by
  unfold spec_l1Below.f
  by_cases h0 : n ≤ 0
  · rw [if_pos h0]; exact ⟨0, i, h, rfl, Int.le_refl _, fun h => by omega, fun _ => rfl, c⟩
  · rw [if_neg h0]
    by_cases h1 : n ≤ 256
    · rw [if_pos h1]
      obtain ⟨r, i', h', e, r0, r1, c'⟩ := d_byte (h := h) c
      rw [e]
      simp only [Option.bind_some, if_neg (show ¬ n = 0 by omega)]
      rw [tmn n r0]
      exact ⟨_, _, _, rfl, Int.emod_nonneg _ (by omega), fun _ => Int.emod_lt_of_pos _ (by omega), fun h => absurd h h0, c'⟩
    · rw [if_neg h1]
      obtain ⟨x, i1, g1, e1, x0, x1, c1⟩ := d_byte (h := h) c
      rw [e1]
      simp only [Option.bind_some]
      obtain ⟨y, i2, g2, e2, y0, y1, c2⟩ := d_byte (h := g1) c1
      rw [e2]
      simp only [Option.bind_some]
      obtain ⟨z, i3, g3, e3, z0, z1, c3⟩ := d_byte (h := g2) c2
      rw [e3]
      simp only [Option.bind_some]
      obtain ⟨v, i4, g4, e4, v0, v1, c4⟩ := d_byte (h := g3) c3
      rw [e4]
      simp only [Option.bind_some, if_neg (show ¬ n = 0 by omega)]
      rw [w64 (x * 16777216) (by omega) (by omega), w64 (y * 65536) (by omega) (by omega), w64 (x * 16777216 + y * 65536) (by omega) (by omega), w64 (z * 256) (by omega) (by omega), w64 (x * 16777216 + y * 65536 + z * 256) (by omega) (by omega), w64 (x * 16777216 + y * 65536 + z * 256 + v) (by omega) (by omega), tmn n (by omega)]
      exact ⟨_, _, _, rfl, Int.emod_nonneg _ (by omega), fun _ => Int.emod_lt_of_pos _ (by omega), fun h => absurd h h0, c4⟩
theorem d_new0 (b : List Int) (hb : b.length ≤ 1048576) : ∀ (d : Nat) (i h : Int), i + d = 4000 → 0 ≤ i → ∃ h', Ev (fun k => spec_l1New.l0 k b h i) (b, 0, h') := by
  intro d
  induction d with
  | zero =>
    intro i h h1 h2
    refine ⟨h, Ev.step (fun k => by rw [spec_l1New.l0]) ?_⟩
    by_cases hl : i < (b.length : Int)
    · simp only [if_pos hl, if_neg (show ¬ i < 4000 by omega)]; exact Ev.now _
    · simp only [if_neg hl]; exact Ev.now _
  | succ d ih =>
    intro i h h1 h2
    by_cases hl : i < (b.length : Int)
    · obtain ⟨h', e⟩ := ih (i + 1) (Go.bits .and .i64 (wrap64 ((wrap64 ((wrap64 (h * 131)) + (wrap64 (rd b i)))) + 7)) 1073741823) (by omega) (by omega)
      refine ⟨h', Ev.step (fun k => by rw [spec_l1New.l0]) ?_⟩
      simp only [if_pos hl, if_pos (show i < 4000 by omega), if_pos h2]
      rw [w64 (i + 1) (by omega) (by omega)]
      exact e
    · refine ⟨h, Ev.step (fun k => by rw [spec_l1New.l0]) ?_⟩
      simp only [if_neg hl]; exact Ev.now _
theorem d_new (b : List Int) (hb : b.length ≤ 1048576) : ∃ h, Ev (fun k => spec_l1New.f k b) (b, 0, h) ∧ Cur b 0 := by
  obtain ⟨h, e⟩ := d_new0 b hb 4000 0 (wrap64 (10677 + (b.length : Int))) (by omega) (by omega)
  exact ⟨h, by unfold spec_l1New.f; exact e, by omega, by omega, hb⟩

theorem d_pick {b : List Int} {i h : Int} (c : Cur b i) (l : List Int) (hl : 0 < l.length) (hl2 : l.length ≤ 1000) : ∃ r i' h', spec_l1PickInt.f b i h l = some (r, i', h') ∧ r ∈ l ∧ Cur b i' := by
  unfold spec_l1PickInt.f
  obtain ⟨r, i', h', e, r0, r1, _, c'⟩ := d_below (h := h) c (l.length : Int) (by omega)
  have r1 := r1 (by omega)
  rw [e]
  simp only [Option.bind_some, if_pos r0, if_pos r1]
  refine ⟨_, _, _, rfl, ?_, c'⟩
  unfold rd
  exact getD_mem _ _ _ (by omega)

theorem d_year {b : List Int} {i h : Int} (c : Cur b i) : ∃ r i' h', spec_l11DrawYear.f b i h = some (r, i', h') ∧ Cur b i' := by
  unfold spec_l11DrawYear.f
  obtain ⟨x, i1, g1, e1, _, _, _, c1⟩ := d_below (h := h) c 120 (by omega)
  rw [e1]
  simp only [Option.bind_some]
  obtain ⟨y, i2, g2, e2, _, _, _, c2⟩ := d_below (h := g1) c1 300 (by omega)
  rw [e2]
  simp only [Option.bind_some]
  obtain ⟨z, i3, g3, e3, _, c3⟩ := d_pick (h := g2) c2 [1970, 1969, 1968, 2000, 1900, 2100, 2200, 2199, 1899, 2201, 2024, wrap64 (1950 + x), wrap64 (1900 + y)] (by simp) (by simp)
  rw [e3]
  exact ⟨_, _, _, rfl, c3⟩

theorem d_date (b : List Int) (hb : b.length ≤ 1048576) : ∃ r, Ev (fun k => spec_DrawDateOf.f k b) r := by
  unfold spec_DrawDateOf.f
  obtain ⟨h, e, c⟩ := d_new b hb
  obtain ⟨x, i1, g1, e1, _, _, _, c1⟩ := d_below (h := h) c 6 (by omega)
  by_cases h0 : x = 0
  · obtain ⟨z, i3, g3, e3, _, c3⟩ := d_pick (h := g1) c1 [0, (-1), (-25567), (-25568), 84370, 84371, 84369, 9223372036854775807, (-9223372036854775808)] (by simp) (by simp)
    refine ⟨z, Ev.bind e ?_⟩
    rw [e1]
    simp only [Option.bind_some, if_pos h0]
    rw [e3]
    simp only [Option.bind_some]
    exact Ev.now _
  · by_cases h1 : x = 1
    · obtain ⟨z, i3, g3, e3, _, _, _, c3⟩ := d_below (h := g1) c1 110000 (by omega)
      refine ⟨wrap64 (z - 26000), Ev.bind e ?_⟩
      rw [e1]
      simp only [Option.bind_some, if_neg h0, if_pos h1]
      rw [e3]
      simp only [Option.bind_some]
      exact Ev.now _
    · obtain ⟨y, i2, g2, e2, c2⟩ := d_year (h := g1) c1
      obtain ⟨m, i3, g3, e3, _, _, _, c3⟩ := d_below (h := g2) c2 12 (by omega)
      obtain ⟨d, i4, g4, e4, _, _, _, c4⟩ := d_below (h := g3) c3 28 (by omega)
      obtain ⟨f, i5, g5, e5, _, _, _, c5⟩ := d_below (h := g4) c4 3 (by omega)
      refine ⟨wrap64 ((dayOf y (wrap64 (1 + m)) (wrap64 (1 + d))).1 + f), Ev.bind e ?_⟩
      rw [e1]
      simp only [Option.bind_some, if_neg h0, if_neg h1]
      rw [e2]
      simp only [Option.bind_some]
      rw [e3]
      simp only [Option.bind_some]
      rw [e4]
      simp only [Option.bind_some]
      refine Ev.bind (s_DayOf _ _ _) ?_
      rw [e5]
      simp only [Option.bind_some]
      exact Ev.now _
theorem next_date {y m d : Int} (v : Vld y m d) : (d < mlen y m ∧ Vld y m (d + 1) ∧ num y m (d + 1) = num y m d + 1) ∨ (d = mlen y m ∧ m < 12 ∧ Vld y (m + 1) 1 ∧ num y (m + 1) 1 = num y m d + 1) ∨ (d = mlen y m ∧ m = 12 ∧ y < 2200 ∧ Vld (y + 1) 1 1 ∧ num (y + 1) 1 1 = num y m d + 1) ∨ (d = 31 ∧ m = 12 ∧ y = 2200 ∧ num y m d = 84370) := by
  obtain ⟨h1, h2, h3, h4, h5, h6⟩ := v
  by_cases hd : d < mlen y m
  · exact .inl ⟨hd, ⟨h1, h2, h3, h4, by omega, by omega⟩, by unfold num; omega⟩
  · have hd : d = mlen y m := by omega
    have cs := cum_succ y m h3 h4
    by_cases hm : m < 12
    · have := mlen_bd y (m + 1)
      exact .inr (.inl ⟨hd, hm, ⟨h1, h2, by omega, by omega, by omega, by omega⟩, by unfold num; rw [cs]; omega⟩)
    · obtain rfl : m = 12 := by omega
      rw [show (12 : Int) + 1 = 13 by omega, cum_13] at cs
      by_cases hy : y < 2200
      · have := mlen_bd (y + 1) 1
        refine .inr (.inr (.inl ⟨hd, rfl, hy, ⟨by omega, by omega, by omega, by omega, by omega, by omega⟩, ?_⟩))
        unfold num
        rw [cum_one, beg_succ]
        omega
      · obtain rfl : y = 2200 := by omega
        have e31 : mlen 2200 12 = 31 := by decide
        refine .inr (.inr (.inr ⟨by omega, rfl, rfl, ?_⟩))
        rw [hd, e31]
        decide
theorem days_j (y m d : Int) (v : Vld y m d) : Ev (fun k => laws_FnDays.j0 k (num y m d) y m d false) true := by
  refine Ev.step (fun k => by rw [laws_FnDays.j0]) ?_
  have hn := num_bd v
  have hv := v
  obtain ⟨h1, h2, h3, h4, h5, h6⟩ := v
  have hml := mlen_bd y m
  simp only [Bool.false_eq_true, if_false]
  rw [w64 (num y m d + 1) (by omega) (by omega), w64 (d + 1) (by omega) (by omega), w64 (m + 1) (by omega) (by omega), w64 (y + 1) (by omega) (by omega)]
  rcases next_date hv with ⟨g1, g2, g3⟩ | ⟨g1, g2, g3, g4⟩ | ⟨g1, g2, g3, g4, g5⟩ | ⟨g1, g2, g3, g4⟩
  · rw [← g3]
    refine Ev.bind (i_DateOf y m (d + 1) g2) ?_
    simp only [if_true]
    refine Ev.bind (i_MonthLong y m) ?_
    rw [ML_in h1 h2 h3 h4]
    simp only [if_pos g1]
    exact evc fun _ => by simp
  · rw [← g4]
    refine Ev.bind (i_DateOf y (m + 1) 1 g3) ?_
    simp only [if_true]
    refine Ev.bind (i_MonthLong y m) ?_
    rw [ML_in h1 h2 h3 h4]
    simp only [if_neg (show ¬ d < mlen y m by omega)]
    exact Ev.now _
  · rw [← g5]
    refine Ev.bind (i_DateOf (y + 1) 1 1 g4) ?_
    simp only [if_true]
    refine Ev.bind (i_MonthLong y m) ?_
    rw [ML_in h1 h2 h3 h4]
    simp only [if_neg (show ¬ d < mlen y m by omega), if_neg (show ¬ (1 : Int) = m + 1 by omega), if_pos g2]
    exact evc fun _ => by simp
  · rw [g4]
    refine Ev.bind (i_DateOf_no (84370 + 1) (by omega)) ?_
    simp only [Bool.false_eq_true, if_false, if_pos g2, if_pos g3]
    exact evc fun _ => by simp [g1]
theorem FnDays : laws_FnDays.Pure := by
  intro b hl hl2 hw
  refine Ev.rounds ?_
  unfold laws_FnDays.f laws_big.f
  simp only [Option.bind_some]
  by_cases hb : (b.length : Int) > 1048576
  · simp only [decide_eq_true hb, if_true]; exact Ev.now _
  · simp only [decide_eq_false hb, Bool.false_eq_true, if_false]
    obtain ⟨day, e⟩ := d_date b (by omega)
    refine Ev.bind e ?_
    by_cases h : -25567 ≤ day ∧ day < 84371
    · obtain ⟨y, m, d, v, rfl⟩ := date_of day h.1 h.2
      have hv := v
      obtain ⟨h1, h2, h3, h4, h5, h6⟩ := v
      refine Ev.bind (i_DateOf y m d hv) (Ev.bind (s_DateOf y m d hv) ?_)
      simp only [bne_self_eq_false, Bool.false_eq_true, if_false, if_true]
      refine Ev.bind (i_DayOf y m d) ?_
      have e2 : dayOf y m d = (num y m d, true) := by unfold dayOf; rw [ML_in h1 h2 h3 h4, if_pos ⟨h5, h6⟩]
      rw [e2]
      simp only [if_true]
      refine Ev.bind (i_MonthLong y m) ?_
      rw [ML_in h1 h2 h3 h4]
      simp only [if_neg (show ¬ d > mlen y m by omega)]
      have hn := num_bd hv
      rw [w64 (num y m d + 1) (by omega) (by omega), i_WeekOf, i_WeekOf]
      simp only [Option.bind_some]
      have hk := wk_bd (num y m d)
      rw [w64 (wk (num y m d) + 1) (by omega) (by omega), tmn 7 (by omega)]
      have e3 : wk (num y m d + 1) = (wk (num y m d) + 1) % 7 := by unfold wk; omega
      rw [e3]
      simp only [bne_self_eq_false]
      exact days_j y m d hv
    · refine Ev.bind (i_DateOf_no day (by omega)) (Ev.bind (s_DateOf_no day (by omega)) ?_)
      simp only [bne_self_eq_false, Bool.false_eq_true, if_false, if_true]
      refine Ev.bind (i_MonthLong 0 1) ?_
      rw [show ML 0 1 = 0 by decide, i_WeekOf]
      exact evc fun _ => by decide

end Go.Proofs.Ytklhjaimnhoijaa.Pure
