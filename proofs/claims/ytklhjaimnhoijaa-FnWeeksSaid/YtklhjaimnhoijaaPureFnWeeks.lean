/- The law FnWeeks answers true for every slice of bytes. No condition. -/
import Derived.Test.YtklhjaimnhoijaaQFnWeeksx3
namespace Go.Proofs.Ytklhjaimnhoijaa.Pure
open Go.RowKit Go.Proofs.Ytklhjaimnhoijaa.QFnWeeks Go.Proofs.YtklhjaimnhoijaaW.PrintWords Go.Proofs.YtklhjaimnhoijaaW.PrintLast
set_option linter.unusedVariables false
set_option linter.unusedSimpArgs false

theorem w64 (n : Int) (h0 : -9223372036854775808 ≤ n) (h1 : n ≤ 9223372036854775807) : wrap64 n = n := by unfold wrap64; omega
theorem tmn {a : Int} (b : Int) (h : 0 ≤ a) : Int.tmod a b = a % b := Int.tmod_eq_emod_of_nonneg h
theorem wfi {x : Int} (h : (Lit.int .i64 x).wf = true) : -9223372036854775808 ≤ x ∧ x ≤ 9223372036854775807 := by
  simp [Lit.wf, IntKind.min, IntKind.max, IntKind.signed, IntKind.bits] at h
  omega
theorem wf8 {x : Int} (h : (Lit.int .u8 x).wf = true) : 0 ≤ x ∧ x ≤ 255 := by
  simp [Lit.wf, IntKind.min, IntKind.max, IntKind.signed, IntKind.bits] at h
  omega
theorem evc {α : Type} {g : Nat → Option α} {r : α} (h : ∀ k, g k = some r) : Ev g r := ⟨0, fun k _ => h k⟩
theorem getD_mem {α : Type} (l : List α) (n : Nat) (z : α) (h : n < l.length) : l.getD n z ∈ l := by
  rw [List.getD_eq_getElem?_getD, List.getElem?_eq_getElem h]
  exact List.getElem_mem h
theorem ex_step {α : Type} {g f : Nat → Option α} (h : ∀ k, g (k + 1) = f k) (e : ∃ r, Ev f r) : ∃ r, Ev g r := by
  obtain ⟨r, e⟩ := e
  exact ⟨r, Ev.step h e⟩
theorem ex_bind {α β : Type} {g : Nat → Option α} {f : Nat → α → Option β} {a : α} (h : Ev g a) (e : ∃ r, Ev (fun n => f n a) r) : ∃ r, Ev (fun n => (g n).bind (f n)) r := by
  obtain ⟨r, e⟩ := e
  exact ⟨r, Ev.bind h e⟩

def Lp (y : Int) : Prop := y % 4 = 0 ∧ (¬ y % 100 = 0 ∨ y % 400 = 0)
instance (y : Int) : Decidable (Lp y) := by unfold Lp; exact inferInstance
def ylen (y : Int) : Int := if Lp y then 366 else 365
def beg (y : Int) : Int := 365 * (y - 1970) + (y - 1969) / 4 - (y - 1901) / 100 + (y - 1601) / 400
def mlen (y m : Int) : Int := if m = 2 then (if Lp y then 29 else 28) else if m = 4 then 30 else if m = 6 then 30 else if m = 9 then 30 else if m = 11 then 30 else 31
def cum (y m : Int) : Int := (367 * m - 362) / 12 - (if m ≤ 2 then 0 else if Lp y then 1 else 2)
def ML (y m : Int) : Int := if 1900 ≤ y ∧ y ≤ 2200 ∧ 1 ≤ m ∧ m ≤ 12 then mlen y m else 0
theorem beg_succ (y : Int) : beg (y + 1) = beg y + ylen y := by
  unfold beg ylen
  by_cases h : Lp y
  · rw [if_pos h]; unfold Lp at h; omega
  · rw [if_neg h]; unfold Lp at h; omega
theorem ylen_bd (y : Int) : 365 ≤ ylen y ∧ ylen y ≤ 366 := by unfold ylen; split <;> omega
theorem mlen_bd (y m : Int) : 28 ≤ mlen y m ∧ mlen y m ≤ 31 := by unfold mlen; repeat (first | omega | split)
theorem cum_succ (y m : Int) (h1 : 1 ≤ m) (h2 : m ≤ 12) : cum y (m + 1) = cum y m + mlen y m := by
  have : m = 1 ∨ m = 2 ∨ m = 3 ∨ m = 4 ∨ m = 5 ∨ m = 6 ∨ m = 7 ∨ m = 8 ∨ m = 9 ∨ m = 10 ∨ m = 11 ∨ m = 12 := by omega
  unfold cum mlen
  rcases this with rfl | rfl | rfl | rfl | rfl | rfl | rfl | rfl | rfl | rfl | rfl | rfl <;> by_cases h : Lp y <;> simp [h]
theorem cum_one (y : Int) : cum y 1 = 0 := by unfold cum; simp
theorem cum_13 (y : Int) : cum y 13 = ylen y := by unfold cum ylen; by_cases h : Lp y <;> simp [h]
theorem cum_mono (y m n : Int) (h1 : 1 ≤ m) (h : m ≤ n) (h2 : n ≤ 13) : cum y m ≤ cum y n := by
  unfold cum; split <;> split <;> (try split) <;> omega
theorem cum_bd (y m : Int) (h1 : 1 ≤ m) (h2 : m ≤ 13) : 0 ≤ cum y m ∧ cum y m ≤ 366 := by
  unfold cum; split <;> (try split) <;> omega
theorem beg_bd (y : Int) (h1 : 1900 ≤ y) (h2 : y ≤ 2201) : -25567 ≤ beg y ∧ beg y ≤ 84371 := by unfold beg; omega
theorem beg_mono (y z : Int) (h : y ≤ z) : beg y ≤ beg z := by unfold beg; omega
theorem beg_1970 : beg 1970 = 0 := by decide
theorem beg_1900 : beg 1900 = -25567 := by decide
theorem beg_2201 : beg 2201 = 84371 := by decide
theorem ML_in {y m : Int} (h1 : 1900 ≤ y) (h2 : y ≤ 2200) (h3 : 1 ≤ m) (h4 : m ≤ 12) : ML y m = mlen y m := by unfold ML; rw [if_pos ⟨h1, h2, h3, h4⟩]
theorem ML_pos {y m : Int} (h : 0 < ML y m) : 1900 ≤ y ∧ y ≤ 2200 ∧ 1 ≤ m ∧ m ≤ 12 := by
  unfold ML at h; split at h
  · assumption
  · omega
theorem ML_bd (y m : Int) : 0 ≤ ML y m ∧ ML y m ≤ 31 := by
  have := mlen_bd y m
  unfold ML; split <;> omega
/-- The year of a day. -/
theorem year_of (day : Int) (h1 : -25567 ≤ day) (h2 : day < 84371) : ∃ y, 1900 ≤ y ∧ y ≤ 2200 ∧ beg y ≤ day ∧ day < beg (y + 1) := by
  have key : ∀ (d : Nat) (y : Int), y + d = 2201 → 1900 ≤ y → beg y ≤ day → ∃ z, 1900 ≤ z ∧ z ≤ 2200 ∧ beg z ≤ day ∧ day < beg (z + 1) := by
    intro d
    induction d with
    | zero => intro y hy h3 h4; have : y = 2201 := by omega
              subst this; rw [beg_2201] at h4; omega
    | succ d ih =>
      intro y hy h3 h4
      by_cases h : day < beg (y + 1)
      · exact ⟨y, h3, by omega, h4, h⟩
      · exact ih (y + 1) (by omega) (by omega) (by omega)
  exact key 301 1900 (by omega) (by omega) (by rw [beg_1900]; exact h1)
theorem month_of (y left : Int) (h1 : 0 ≤ left) (h2 : left < ylen y) : ∃ m, 1 ≤ m ∧ m ≤ 12 ∧ cum y m ≤ left ∧ left < cum y m + mlen y m := by
  have key : ∀ (d : Nat) (m : Int), m + d = 13 → 1 ≤ m → cum y m ≤ left → ∃ z, 1 ≤ z ∧ z ≤ 12 ∧ cum y z ≤ left ∧ left < cum y z + mlen y z := by
    intro d
    induction d with
    | zero => intro m hm h3 h4; have : m = 13 := by omega
              subst this; rw [cum_13] at h4; omega
    | succ d ih =>
      intro m hm h3 h4
      by_cases h : left < cum y m + mlen y m
      · exact ⟨m, h3, by omega, h4, h⟩
      · exact ih (m + 1) (by omega) (by omega) (by rw [cum_succ y m h3 (by omega)]; omega)
  exact key 12 1 (by omega) (by omega) (by rw [cum_one]; exact h1)
def num (y m d : Int) : Int := beg y + cum y m + d - 1
def Vld (y m d : Int) : Prop := 1900 ≤ y ∧ y ≤ 2200 ∧ 1 ≤ m ∧ m ≤ 12 ∧ 1 ≤ d ∧ d ≤ mlen y m
theorem date_of (day : Int) (h1 : -25567 ≤ day) (h2 : day < 84371) : ∃ y m d, Vld y m d ∧ num y m d = day := by
  obtain ⟨y, hy1, hy2, hb, hb2⟩ := year_of day h1 h2
  rw [beg_succ] at hb2
  obtain ⟨m, hm1, hm2, hc, hc2⟩ := month_of y (day - beg y) (by omega) (by omega)
  exact ⟨y, m, day - beg y - cum y m + 1, ⟨hy1, hy2, hm1, hm2, by omega, by omega⟩, by unfold num; omega⟩
theorem num_year {y m d : Int} (h : Vld y m d) : beg y ≤ num y m d ∧ num y m d < beg (y + 1) := by
  obtain ⟨h1, h2, h3, h4, h5, h6⟩ := h
  have := cum_bd y m h3 (by omega)
  have a := cum_mono y (m + 1) 13 (by omega) (by omega) (by omega)
  rw [cum_succ y m h3 h4, cum_13] at a
  rw [beg_succ]; unfold num; omega
theorem num_inj {y m d y' m' d' : Int} (h : Vld y m d) (h' : Vld y' m' d') (e : num y m d = num y' m' d') : y = y' ∧ m = m' ∧ d = d' := by
  have a := num_year h
  have b := num_year h'
  have hy : y = y' := by
    rcases Int.lt_trichotomy y y' with c | c | c
    · have := beg_mono (y + 1) y' (by omega); omega
    · exact c
    · have := beg_mono (y' + 1) y (by omega); omega
  subst hy
  obtain ⟨h1, h2, h3, h4, h5, h6⟩ := h
  obtain ⟨g1, g2, g3, g4, g5, g6⟩ := h'
  unfold num at e
  have hm : m = m' := by
    rcases Int.lt_trichotomy m m' with c | c | c
    · have := cum_mono y (m + 1) m' (by omega) (by omega) (by omega); rw [cum_succ y m h3 h4] at this; omega
    · exact c
    · have := cum_mono y (m' + 1) m (by omega) (by omega) (by omega); rw [cum_succ y m' g3 g4] at this; omega
  subst hm
  exact ⟨rfl, rfl, by omega⟩
theorem num_bd {y m d : Int} (h : Vld y m d) : -25567 ≤ num y m d ∧ num y m d < 84371 := by
  have a := num_year h
  have b := beg_bd y h.1 (by have := h.2.1; omega)
  have c := beg_mono (y + 1) 2201 (by have := h.2.1; omega)
  rw [beg_2201] at c; omega

theorem i_within (n a b : Int) : impl_within.f n a b = some (decide (a ≤ n ∧ n ≤ b)) := by
  unfold impl_within.f
  by_cases h : n ≥ a
  · rw [if_pos h]; simp [show a ≤ n from h]
  · rw [if_neg h]; simp [show ¬ a ≤ n from h]

theorem i_isLeap (y : Int) (h : 0 ≤ y) : impl_isLeap.f y = some (decide (Lp y)) := by
  unfold impl_isLeap.f
  simp only [tmn _ h]
  unfold Lp
  by_cases h4 : y % 4 = 0
  · by_cases h100 : y % 100 = 0
    · rw [if_pos h4, if_pos h100]
      by_cases h400 : y % 400 = 0 <;> simp [h4, h100, h400]
    · rw [if_pos h4, if_neg h100]; simp [h4, h100]
  · rw [if_neg h4]
    have h400 : ¬ y % 400 = 0 := by omega
    simp [h4, h400]
theorem i_isYear (y : Int) : impl_isYear.f y = some (decide (1900 ≤ y ∧ y ≤ 2200)) := by
  unfold impl_isYear.f; rw [i_within]; rfl
theorem i_MonthLong (y m : Int) : Ev (fun k => impl_MonthLong.f k y m) (ML y m) := by
  unfold impl_MonthLong.f
  rw [i_isYear]
  simp only [Option.bind_some]
  by_cases h : 1900 ≤ y ∧ y ≤ 2200
  · rw [i_within]
    simp only [decide_eq_true h, if_true, Option.bind_some]
    by_cases hm : 1 ≤ m ∧ m ≤ 12
    · refine Ev.step (fun k => by rw [impl_MonthLong.j0]) ?_
      rw [ML_in h.1 h.2 hm.1 hm.2]
      simp only [decide_eq_true hm, Bool.not_true, Bool.false_eq_true, if_false]
      obtain ⟨h1, h2⟩ := hm
      have : m = 1 ∨ m = 2 ∨ m = 3 ∨ m = 4 ∨ m = 5 ∨ m = 6 ∨ m = 7 ∨ m = 8 ∨ m = 9 ∨ m = 10 ∨ m = 11 ∨ m = 12 := by omega
      rw [i_isLeap y (by omega)]
      unfold mlen
      rcases this with rfl | rfl | rfl | rfl | rfl | rfl | rfl | rfl | rfl | rfl | rfl | rfl
      · exact evc fun _ => by simp [wrap64, rd]
      · by_cases hl : Lp y
        · exact evc fun _ => by simp [hl]
        · exact evc fun _ => by simp [hl, wrap64, rd]
      all_goals exact evc fun _ => by simp [wrap64, rd]
    · refine Ev.step (fun k => by rw [impl_MonthLong.j0]) ?_
      have e : ML y m = 0 := by unfold ML; rw [if_neg (by omega)]
      rw [e]
      simp only [decide_eq_false hm, Bool.not_false, if_true]
      exact Ev.now _
  · simp only [decide_eq_false h, Bool.false_eq_true, if_false]
    refine Ev.step (fun k => by rw [impl_MonthLong.j0]) ?_
    have e : ML y m = 0 := by unfold ML; rw [if_neg (by omega)]
    rw [e]
    simp only [if_true]
    exact Ev.now _

theorem i_yearLong (y : Int) (h : 0 ≤ y) : impl_yearLong.f y = some (ylen y) := by
  unfold impl_yearLong.f; rw [i_isLeap y h]; unfold ylen
  by_cases hl : Lp y <;> simp [hl]
theorem i_begins1 : ∀ (d : Nat) (n acc : Int), n + d = 1970 → 1900 ≤ n → -1000000 ≤ acc - 366 * (1970 - n) → acc ≤ 1000000 → Ev (fun k => impl_yearBegins.l1 k acc n) (acc + beg n) := by
  intro d
  induction d with
  | zero =>
    intro n acc h1 h2 h3 h4
    obtain rfl : n = 1970 := by omega
    refine Ev.step (fun k => by rw [impl_yearBegins.l1]) ?_
    rw [beg_1970]; simp only [Int.lt_irrefl, if_false, Int.add_zero]; exact Ev.now _
  | succ d ih =>
    intro n acc h1 h2 h3 h4
    refine Ev.step (fun k => by rw [impl_yearBegins.l1]) ?_
    rw [i_yearLong n (by omega)]
    have hb := ylen_bd n
    have hs := beg_succ n
    simp only [if_pos (show n < 1970 by omega), Option.bind_some]
    rw [w64 (acc - ylen n) (by omega) (by omega), w64 (n + 1) (by omega) (by omega)]
    have := ih (n + 1) (acc - ylen n) (by omega) (by omega) (by omega) (by omega)
    rwa [show acc - ylen n + beg (n + 1) = acc + beg n by omega] at this
theorem i_begins0 : ∀ (d : Nat) (y n : Int), n + d = y → 1970 ≤ n → y ≤ 2201 → Ev (fun k => impl_yearBegins.l0 k y (beg n) n) (beg y) := by
  intro d
  induction d with
  | zero =>
    intro y n h1 h2 h3
    obtain rfl : n = y := by omega
    refine Ev.step (fun k => by rw [impl_yearBegins.l0]) ?_
    simp only [Int.lt_irrefl, if_false]
    refine Ev.step (fun k => by rw [impl_yearBegins.l1]) ?_
    simp only [if_neg (show ¬ n < 1970 by omega)]; exact Ev.now _
  | succ d ih =>
    intro y n h1 h2 h3
    refine Ev.step (fun k => by rw [impl_yearBegins.l0]) ?_
    rw [i_yearLong n (by omega)]
    have hb := beg_bd n (by omega) (by omega)
    have hq := ylen_bd n
    simp only [if_pos (show n < y by omega), Option.bind_some]
    rw [w64 (beg n + ylen n) (by omega) (by omega), w64 (n + 1) (by omega) (by omega), ← beg_succ]
    exact ih y (n + 1) (by omega) (by omega) h3
theorem i_yearBegins (y : Int) (h1 : 1900 ≤ y) (h2 : y ≤ 2201) : Ev (fun k => impl_yearBegins.f k y) (beg y) := by
  unfold impl_yearBegins.f
  by_cases h : 1970 ≤ y
  · have := i_begins0 (y - 1970).toNat y 1970 (by omega) (by omega) h2
    rwa [beg_1970] at this
  · refine Ev.step (fun k => by rw [impl_yearBegins.l0]) ?_
    simp only [if_neg (show ¬ (1970 : Int) < y by omega)]
    have := i_begins1 (1970 - y).toNat y 0 (by omega) (by omega) (by omega) (by omega)
    rwa [Int.zero_add] at this

theorem i_dayl (y m : Int) (hy1 : 1900 ≤ y) (hy2 : y ≤ 2200) (hm : m ≤ 12) : ∀ (d : Nat) (n acc : Int), n + d = m → 1 ≤ n → -1000000 ≤ acc → acc ≤ 1000000 - 31 * (m - n) → Ev (fun k => impl_DayOf.l0 k y m acc n) (acc + cum y m - cum y n, true) := by
  intro d
  induction d with
  | zero =>
    intro n acc h1 h2 h3 h4
    obtain rfl : n = m := by omega
    refine Ev.step (fun k => by rw [impl_DayOf.l0]) ?_
    simp only [Int.lt_irrefl, if_false]
    rw [show acc + cum y n - cum y n = acc by omega]
    exact Ev.now _
  | succ d ih =>
    intro n acc h1 h2 h3 h4
    refine Ev.step (fun k => by rw [impl_DayOf.l0]) ?_
    simp only [if_pos (show n < m by omega)]
    refine Ev.bind (i_MonthLong y n) ?_
    rw [ML_in hy1 hy2 h2 (by omega)]
    have hb := mlen_bd y n
    have hs := cum_succ y n h2 (by omega)
    rw [w64 (acc + mlen y n) (by omega) (by omega), w64 (n + 1) (by omega) (by omega)]
    have := ih (n + 1) (acc + mlen y n) (by omega) (by omega) (by omega) (by omega)
    rwa [show acc + mlen y n + cum y m - cum y (n + 1) = acc + cum y m - cum y n by omega] at this
def dayOf (y m d : Int) : Int × Bool := if 1 ≤ d ∧ d ≤ ML y m then (num y m d, true) else (0, false)
theorem i_DayOf (y m d : Int) : Ev (fun k => impl_DayOf.f k y m d) (dayOf y m d) := by
  unfold impl_DayOf.f
  refine Ev.bind (i_MonthLong y m) ?_
  rw [i_within]
  simp only [Option.bind_some]
  unfold dayOf
  by_cases h : 1 ≤ d ∧ d ≤ ML y m
  · simp only [decide_eq_true h, if_true, if_pos h]
    obtain ⟨g1, g2, g3, g4⟩ := ML_pos (show 0 < ML y m by omega)
    refine Ev.bind (i_yearBegins y g1 (by omega)) ?_
    have hb := beg_bd y g1 (by omega)
    have hm := ML_bd y m
    rw [w64 (beg y + d) (by omega) (by omega), w64 (beg y + d - 1) (by omega) (by omega)]
    have := i_dayl y m g1 g2 g4 (m - 1).toNat 1 (beg y + d - 1) (by omega) (by omega) (by omega) (by omega)
    rw [cum_one] at this
    unfold num
    rwa [show beg y + d - 1 + cum y m - 0 = beg y + cum y m + d - 1 by omega] at this
  · simp only [decide_eq_false h, Bool.false_eq_true, if_false, if_neg h]
    exact Ev.now _

theorem s_In (n a b : Int) : spec_l1In.f n a b = some (decide (a ≤ n ∧ n ≤ b)) := by
  unfold spec_l1In.f
  by_cases h : n ≥ a
  · rw [if_pos h]; simp [show a ≤ n from h]
  · rw [if_neg h]; simp [show ¬ a ≤ n from h]

theorem s_Leap (y : Int) (h : 0 ≤ y) : spec_l11Leap.f y = some (decide (Lp y)) := by
  unfold spec_l11Leap.f
  simp only [tmn _ h]
  unfold Lp
  by_cases h4 : y % 4 = 0
  · by_cases h100 : y % 100 = 0
    · rw [if_pos h4, if_pos h100]
      by_cases h400 : y % 400 = 0 <;> simp [h4, h100, h400]
    · rw [if_pos h4, if_neg h100]; simp [h4, h100]
  · rw [if_neg h4]
    simp [h4]
theorem s_Long (y m : Int) (h : 0 ≤ y) : spec_l11Long.f y m = some (mlen y m) := by
  unfold spec_l11Long.f mlen
  rw [s_Leap y h]
  simp only [Option.bind_some]
  by_cases h2 : m = 2
  · rw [if_pos h2, if_pos h2]; by_cases hl : Lp y <;> simp [hl]
  · rw [if_neg h2, if_neg h2]
    repeat (first | rfl | split)

theorem s_Month (y m : Int) : spec_MonthLong.f y m = some (ML y m) := by
  unfold spec_MonthLong.f spec_l11Year.f ML
  rw [s_In, s_In]
  simp only [Option.bind_some]
  by_cases h : 1900 ≤ y ∧ y ≤ 2200
  · simp only [decide_eq_true h, if_true]
    by_cases hm : 1 ≤ m ∧ m ≤ 12
    · rw [s_Long y m (by omega)]
      simp only [decide_eq_true hm, if_true, Option.bind_some]
      rw [if_pos ⟨h.1, h.2, hm.1, hm.2⟩]
    · simp only [decide_eq_false hm, Bool.false_eq_true, if_false]
      rw [if_neg (by omega)]
  · simp only [decide_eq_false h, Bool.false_eq_true, if_false]
    rw [if_neg (by omega)]

theorem s_begin1 : ∀ (d : Nat) (y n : Int), y + d = n + 1 → 1900 ≤ y → n ≤ 2200 → Ev (fun k => spec_l11Begin.l1 k y (beg (n + 1)) n) (beg y) := by
  intro d
  induction d with
  | zero =>
    intro y n h1 h2 h3
    obtain rfl : n = y - 1 := by omega
    refine Ev.step (fun k => by rw [spec_l11Begin.l1]) ?_
    simp only [if_neg (show ¬ y - 1 ≥ y by omega)]
    rw [show y - 1 + 1 = y by omega]
    exact Ev.now _
  | succ d ih =>
    intro y n h1 h2 h3
    refine Ev.step (fun k => by rw [spec_l11Begin.l1]) ?_
    simp only [if_pos (show n ≥ y by omega)]
    rw [s_Leap n (by omega)]
    have hb := beg_bd n (by omega) (by omega)
    have hs := beg_succ n
    have hq := ylen_bd n
    have i := ih y (n - 1) (by omega) h2 (by omega)
    rw [show n - 1 + 1 = n by omega] at i
    simp only [Option.bind_some]
    rw [w64 (beg (n + 1) - 365) (by omega) (by omega), w64 (beg (n + 1) - 365 - 1) (by omega) (by omega), w64 (n - 1) (by omega) (by omega)]
    unfold ylen at hs
    by_cases hl : Lp n
    · rw [if_pos hl] at hs
      simp only [decide_eq_true hl, if_true]
      rwa [show beg (n + 1) - 365 - 1 = beg n by omega]
    · rw [if_neg hl] at hs
      simp only [decide_eq_false hl, Bool.false_eq_true, if_false]
      rwa [show beg (n + 1) - 365 = beg n by omega]
theorem s_begin0 : ∀ (d : Nat) (y n : Int), n + d = y → 1970 ≤ n → y ≤ 2201 → Ev (fun k => spec_l11Begin.l0 k y (beg n) n) (beg y) := by
  intro d
  induction d with
  | zero =>
    intro y n h1 h2 h3
    obtain rfl : n = y := by omega
    refine Ev.step (fun k => by rw [spec_l11Begin.l0]) ?_
    simp only [Int.lt_irrefl, if_false]
    refine Ev.step (fun k => by rw [spec_l11Begin.l1]) ?_
    simp only [if_neg (show ¬ (1969 : Int) ≥ n by omega)]
    exact Ev.now _
  | succ d ih =>
    intro y n h1 h2 h3
    refine Ev.step (fun k => by rw [spec_l11Begin.l0]) ?_
    rw [s_Leap n (by omega)]
    have hb := beg_bd n (by omega) (by omega)
    have hs := beg_succ n
    simp only [if_pos (show n < y by omega), Option.bind_some]
    have i := ih y (n + 1) (by omega) (by omega) h3
    rw [w64 (beg n + 365) (by omega) (by omega), w64 (beg n + 365 + 1) (by omega) (by omega), w64 (n + 1) (by omega) (by omega)]
    unfold ylen at hs
    by_cases hl : Lp n
    · rw [if_pos hl] at hs
      simp only [decide_eq_true hl, if_true]
      rwa [show beg n + 365 + 1 = beg (n + 1) by omega]
    · rw [if_neg hl] at hs
      simp only [decide_eq_false hl, Bool.false_eq_true, if_false]
      rwa [show beg n + 365 = beg (n + 1) by omega]
theorem s_Begin (y : Int) (h1 : 1900 ≤ y) (h2 : y ≤ 2201) : Ev (fun k => spec_l11Begin.f k y) (beg y) := by
  unfold spec_l11Begin.f
  by_cases h : 1970 ≤ y
  · have := s_begin0 (y - 1970).toNat y 1970 (by omega) (by omega) h2
    rwa [beg_1970] at this
  · refine Ev.step (fun k => by rw [spec_l11Begin.l0]) ?_
    simp only [if_neg (show ¬ (1970 : Int) < y by omega)]
    have := s_begin1 (1970 - y).toNat y 1969 (by omega) (by omega) (by omega)
    rwa [show (1969 : Int) + 1 = 1970 by omega, beg_1970] at this

theorem s_dayl (y m dd : Int) (hy1 : 1900 ≤ y) (hy2 : y ≤ 2200) (hm : m ≤ 12) (hd1 : 0 ≤ dd) (hd2 : dd ≤ 31) : ∀ (d : Nat) (n acc : Int), n + d = m → 1 ≤ n → -1000000 ≤ acc → acc ≤ 1000000 - 31 * (m - n) → Ev (fun k => spec_DayOf.l0 k y m dd acc n) (acc + cum y m - cum y n + dd - 1, true) := by
  intro d
  induction d with
  | zero =>
    intro n acc h1 h2 h3 h4
    obtain rfl : n = m := by omega
    refine Ev.step (fun k => by rw [spec_DayOf.l0]) ?_
    simp only [Int.lt_irrefl, if_false]
    rw [w64 (acc + dd) (by omega) (by omega), w64 (acc + dd - 1) (by omega) (by omega)]
    rw [show acc + cum y n - cum y n = acc by omega]
    exact Ev.now _
  | succ d ih =>
    intro n acc h1 h2 h3 h4
    refine Ev.step (fun k => by rw [spec_DayOf.l0]) ?_
    simp only [if_pos (show n < m by omega)]
    rw [s_Long y n (by omega)]
    simp only [Option.bind_some]
    have hb := mlen_bd y n
    have hs := cum_succ y n h2 (by omega)
    rw [w64 (acc + mlen y n) (by omega) (by omega), w64 (n + 1) (by omega) (by omega)]
    have := ih (n + 1) (acc + mlen y n) (by omega) (by omega) (by omega) (by omega)
    rwa [show acc + mlen y n + cum y m - cum y (n + 1) = acc + cum y m - cum y n by omega] at this
theorem s_DayOf (y m d : Int) : Ev (fun k => spec_DayOf.f k y m d) (dayOf y m d) := by
  unfold spec_DayOf.f
  rw [s_Month]
  simp only [Option.bind_some]
  rw [s_In]
  simp only [Option.bind_some]
  unfold dayOf
  by_cases h : 1 ≤ d ∧ d ≤ ML y m
  · simp only [decide_eq_true h, if_true, if_pos h]
    obtain ⟨g1, g2, g3, g4⟩ := ML_pos (show 0 < ML y m by omega)
    refine Ev.bind (s_Begin y g1 (by omega)) ?_
    have hb := beg_bd y g1 (by omega)
    have hm := ML_bd y m
    have := s_dayl y m d g1 g2 g4 (by omega) (by omega) (m - 1).toNat 1 (beg y) (by omega) (by omega) (by omega) (by omega)
    rw [cum_one] at this
    unfold num
    rwa [show beg y + cum y m - 0 + d - 1 = beg y + cum y m + d - 1 by omega] at this
  · simp only [decide_eq_false h, Bool.false_eq_true, if_false, if_neg h]
    exact Ev.now _

theorem tm7 (a : Int) : Int.tmod a 7 = if 0 ≤ a then a % 7 else -((-a) % 7) := by
  split
  · rename_i h; exact tmn 7 h
  · rename_i h
    have e : Int.tmod (-(-a)) 7 = -(Int.tmod (-a) 7) := Int.neg_tmod ..
    rw [Int.neg_neg] at e
    rw [e, tmn 7 (by omega)]
def wk (a : Int) : Int := (a + 4) % 7
theorem wk_bd (a : Int) : 0 ≤ wk a ∧ wk a ≤ 6 := by unfold wk; omega
theorem i_WeekOf (a : Int) : impl_WeekOf.f a = some (wk a) := by
  unfold impl_WeekOf.f wk
  have h := tm7 a
  have hb : -7 < Int.tmod a 7 ∧ Int.tmod a 7 < 7 := by split at h <;> omega
  rw [w64 (Int.tmod a 7 + 7) (by omega) (by omega), w64 (Int.tmod a 7 + 7 + 4) (by omega) (by omega), tmn 7 (show 0 ≤ Int.tmod a 7 + 7 + 4 by omega)]
  split at h <;> simp only [Option.some.injEq] <;> omega

theorem s_WeekOf (a : Int) : spec_WeekOf.f a = some (wk a) := by
  unfold spec_WeekOf.f wk
  have h := tm7 a
  have hb : -7 < Int.tmod a 7 ∧ Int.tmod a 7 < 7 := by split at h <;> omega
  rw [w64 (Int.tmod a 7 + 7) (by omega) (by omega), tmn 7 (show 0 ≤ Int.tmod a 7 + 7 by omega), w64 ((Int.tmod a 7 + 7) % 7 + 4) (by omega) (by omega), tmn 7 (show 0 ≤ (Int.tmod a 7 + 7) % 7 + 4 by omega)]
  split at h <;> simp only [Option.some.injEq] <;> omega

theorem and_mask (x : Int) (m : Nat) (hm : m < 1152921504606846976) : 0 ≤ Go.bits .and .i64 x (m : Int) ∧ Go.bits .and .i64 x (m : Int) ≤ (m : Int) := by
  have hb : ((BitVec.ofInt 64 x) &&& (BitVec.ofInt 64 (m : Int))).toNat ≤ m := by
    rw [BitVec.toNat_and]
    refine Nat.le_trans Nat.and_le_right ?_
    rw [BitVec.ofInt_natCast, BitVec.toNat_ofNat]
    exact Nat.mod_le _ _
  have e : Go.bits .and .i64 x (m : Int) = (((BitVec.ofInt 64 x) &&& (BitVec.ofInt 64 (m : Int))).toNat : Int) := by
    show IntKind.i64.wrap _ = _
    rw [Go.IntKind.wrap_i64]
    have := hb
    show ((((BitVec.ofInt 64 x) &&& (BitVec.ofInt 64 (m : Int))).toNat : Int) + 9223372036854775808) % 18446744073709551616 - 9223372036854775808 = _
    omega
  rw [e]; omega
/-- A reader of draws over b: its place. -/
def Cur (b : List Int) (i : Int) : Prop := 0 ≤ i ∧ i ≤ (b.length : Int) ∧ b.length ≤ 1048576
theorem d_byte {b : List Int} {i h : Int} (c : Cur b i) : ∃ r i' h', spec_l1Byte.f b i h = some (r, i', h') ∧ 0 ≤ r ∧ r ≤ 255 ∧ Cur b i' := by
  obtain ⟨h0, h1, h2⟩ := c
  unfold spec_l1Byte.f
  by_cases hl : i < (b.length : Int)
  · rw [if_pos hl, if_pos h0]
    have := and_mask (wrap64 ((Go.bits .and .i64 (Go.bits .xor .i64 ((wrap64 ((wrap64 (h * 6364136223846793005)) + 1442695040888963407)) / 8589934592) ((wrap64 ((wrap64 (h * 6364136223846793005)) + 1442695040888963407)) / 35184372088832)) 255) + (wrap64 (rd b i)))) 255 (by omega)
    exact ⟨_, _, _, rfl, this.1, this.2, by rw [w64 (i + 1) (by omega) (by omega)]; exact ⟨by omega, by omega, h2⟩⟩
  · rw [if_neg hl]
    have := and_mask (Go.bits .xor .i64 ((wrap64 ((wrap64 (h * 6364136223846793005)) + 1442695040888963407)) / 8589934592) ((wrap64 ((wrap64 (h * 6364136223846793005)) + 1442695040888963407)) / 35184372088832)) 255 (by omega)
    exact ⟨_, _, _, rfl, this.1, this.2, h0, h1, h2⟩
theorem d_below {b : List Int} {i h : Int} (c : Cur b i) (n : Int) (hn : n ≤ 4294967296) : ∃ r i' h', spec_l1Below.f b i h n = some (r, i', h') ∧ 0 ≤ r ∧ (0 < n → r < n) ∧ (n ≤ 0 → r = 0) ∧ Cur b i' := by
  unfold spec_l1Below.f
  by_cases h0 : n ≤ 0
  · rw [if_pos h0]; exact ⟨0, i, h, rfl, Int.le_refl _, fun h => by omega, fun _ => rfl, c⟩
  · rw [if_neg h0]
    by_cases h1 : n ≤ 256
    · rw [if_pos h1]
      obtain ⟨r, i', h', e, r0, r1, c'⟩ := d_byte (h := h) c
      rw [e]
      simp only [Option.bind_some, if_neg (show ¬ n = 0 by omega)]
      rw [tmn n r0]
      exact ⟨_, _, _, rfl, Int.emod_nonneg _ (by omega), fun _ => Int.emod_lt_of_pos _ (by omega), fun h => absurd h h0, c'⟩
    · rw [if_neg h1]
      obtain ⟨x, i1, g1, e1, x0, x1, c1⟩ := d_byte (h := h) c
      rw [e1]
      simp only [Option.bind_some]
      obtain ⟨y, i2, g2, e2, y0, y1, c2⟩ := d_byte (h := g1) c1
      rw [e2]
      simp only [Option.bind_some]
      obtain ⟨z, i3, g3, e3, z0, z1, c3⟩ := d_byte (h := g2) c2
      rw [e3]
      simp only [Option.bind_some]
      obtain ⟨v, i4, g4, e4, v0, v1, c4⟩ := d_byte (h := g3) c3
      rw [e4]
      simp only [Option.bind_some, if_neg (show ¬ n = 0 by omega)]
      rw [w64 (x * 16777216) (by omega) (by omega), w64 (y * 65536) (by omega) (by omega), w64 (x * 16777216 + y * 65536) (by omega) (by omega), w64 (z * 256) (by omega) (by omega), w64 (x * 16777216 + y * 65536 + z * 256) (by omega) (by omega), w64 (x * 16777216 + y * 65536 + z * 256 + v) (by omega) (by omega), tmn n (by omega)]
      exact ⟨_, _, _, rfl, Int.emod_nonneg _ (by omega), fun _ => Int.emod_lt_of_pos _ (by omega), fun h => absurd h h0, c4⟩
theorem d_new0 (b : List Int) (hb : b.length ≤ 1048576) : ∀ (d : Nat) (i h : Int), i + d = 4000 → 0 ≤ i → ∃ h', Ev (fun k => spec_l1New.l0 k b h i) (b, 0, h') := by
  intro d
  induction d with
  | zero =>
    intro i h h1 h2
    refine ⟨h, Ev.step (fun k => by rw [spec_l1New.l0]) ?_⟩
    by_cases hl : i < (b.length : Int)
    · simp only [if_pos hl, if_neg (show ¬ i < 4000 by omega)]; exact Ev.now _
    · simp only [if_neg hl]; exact Ev.now _
  | succ d ih =>
    intro i h h1 h2
    by_cases hl : i < (b.length : Int)
    · obtain ⟨h', e⟩ := ih (i + 1) (Go.bits .and .i64 (wrap64 ((wrap64 ((wrap64 (h * 131)) + (wrap64 (rd b i)))) + 7)) 1073741823) (by omega) (by omega)
      refine ⟨h', Ev.step (fun k => by rw [spec_l1New.l0]) ?_⟩
      simp only [if_pos hl, if_pos (show i < 4000 by omega), if_pos h2]
      rw [w64 (i + 1) (by omega) (by omega)]
      exact e
    · refine ⟨h, Ev.step (fun k => by rw [spec_l1New.l0]) ?_⟩
      simp only [if_neg hl]; exact Ev.now _
theorem d_new (b : List Int) (hb : b.length ≤ 1048576) : ∃ h, Ev (fun k => spec_l1New.f k b) (b, 0, h) ∧ Cur b 0 := by
  obtain ⟨h, e⟩ := d_new0 b hb 4000 0 (wrap64 (10677 + (b.length : Int))) (by omega) (by omega)
  exact ⟨h, by unfold spec_l1New.f; exact e, by omega, by omega, hb⟩

theorem d_pick {b : List Int} {i h : Int} (c : Cur b i) (l : List Int) (hl : 0 < l.length) (hl2 : l.length ≤ 1000) : ∃ r i' h', spec_l1PickInt.f b i h l = some (r, i', h') ∧ r ∈ l ∧ Cur b i' := by
  unfold spec_l1PickInt.f
  obtain ⟨r, i', h', e, r0, r1, _, c'⟩ := d_below (h := h) c (l.length : Int) (by omega)
  have r1 := r1 (by omega)
  rw [e]
  simp only [Option.bind_some, if_pos r0, if_pos r1]
  refine ⟨_, _, _, rfl, ?_, c'⟩
  unfold rd
  exact getD_mem _ _ _ (by omega)

theorem d_year {b : List Int} {i h : Int} (c : Cur b i) : ∃ r i' h', spec_l11DrawYear.f b i h = some (r, i', h') ∧ Cur b i' := by
  unfold spec_l11DrawYear.f
  obtain ⟨x, i1, g1, e1, _, _, _, c1⟩ := d_below (h := h) c 120 (by omega)
  rw [e1]
  simp only [Option.bind_some]
  obtain ⟨y, i2, g2, e2, _, _, _, c2⟩ := d_below (h := g1) c1 300 (by omega)
  rw [e2]
  simp only [Option.bind_some]
  obtain ⟨z, i3, g3, e3, _, c3⟩ := d_pick (h := g2) c2 [1970, 1969, 1968, 2000, 1900, 2100, 2200, 2199, 1899, 2201, 2024, wrap64 (1950 + x), wrap64 (1900 + y)] (by simp) (by simp)
  rw [e3]
  exact ⟨_, _, _, rfl, c3⟩

theorem d_week (b : List Int) (hb : b.length ≤ 1048576) : ∃ r, Ev (fun k => spec_DrawWeekOf.f k b) r := by
  unfold spec_DrawWeekOf.f
  obtain ⟨h, e, c⟩ := d_new b hb
  obtain ⟨x, i1, g1, e1, _, _, _, c1⟩ := d_below (h := h) c 100000 (by omega)
  obtain ⟨z, i3, g3, e3, _, c3⟩ := d_pick (h := g1) c1 [0, 1, 6, 7, (-1), (-7), 9223372036854775807, (-9223372036854775808), wrap64 (x - 50000)] (by simp) (by simp)
  refine ⟨z, Ev.bind e ?_⟩
  rw [e1]
  simp only [Option.bind_some]
  rw [e3]
  simp only [Option.bind_some]
  exact Ev.now _
theorem d_day (b : List Int) (hb : b.length ≤ 1048576) : ∃ r, Ev (fun k => spec_DrawDayOf.f k b) r := by
  unfold spec_DrawDayOf.f
  obtain ⟨h, e, c⟩ := d_new b hb
  obtain ⟨x, i1, g1, e1, c1⟩ := d_year (h := h) c
  obtain ⟨y, i2, g2, e2, _, _, _, c2⟩ := d_below (h := g1) c1 14 (by omega)
  obtain ⟨z, i3, g3, e3, _, _, _, c3⟩ := d_below (h := g2) c2 34 (by omega)
  refine ⟨(x, y, wrap64 (z - 1)), Ev.bind e ?_⟩
  rw [e1]
  simp only [Option.bind_some]
  rw [e2]
  simp only [Option.bind_some]
  rw [e3]
  simp only [Option.bind_some]
  exact Ev.now _
theorem within_no (l : List Int) (x : Int) (hl : l.length ≤ 1000) (hx : x ∉ l) : ∀ (d : Nat) (i : Int), i + d = l.length → 0 ≤ i → Ev (fun k => laws_within.l0 k l x i) false := by
  intro d
  induction d with
  | zero =>
    intro i h1 h2
    refine Ev.step (fun k => by rw [laws_within.l0]) ?_
    simp only [if_neg (show ¬ i < (l.length : Int) by omega)]
    exact Ev.now _
  | succ d ih =>
    intro i h1 h2
    refine Ev.step (fun k => by rw [laws_within.l0]) ?_
    have hm : rd l i ∈ l := by
      unfold rd
      exact getD_mem _ _ _ (by omega)
    have hne : ¬ rd l i = x := fun h => hx (h ▸ hm)
    simp only [if_pos (show i < (l.length : Int) by omega), if_pos h2, if_neg hne]
    rw [w64 (i + 1) (by omega) (by omega)]
    exact ih (i + 1) (by omega) (by omega)
def seenW (day : Int) (n : Nat) : List Int := (List.range n).map fun (j : Nat) => wk (day + (j : Int))
theorem weeks_j2 (day : Int) (h1 : -9000000000000000000 ≤ day) (h2 : day ≤ 9000000000000000000) : Ev (fun k => laws_FnWeeks.j2 k day false) true := by
  refine Ev.step (fun k => by rw [laws_FnWeeks.j2]) ?_
  rw [w64 (day + 7) (by omega) (by omega), i_WeekOf, i_WeekOf]
  simp only [Bool.false_eq_true, if_false, Option.bind_some]
  have : wk (day + 7) = wk day := by unfold wk; omega
  rw [this]
  exact evc fun _ => by simp
theorem weeks_l (b : List Int) (hb : b.length ≤ 1048576) (day : Int) (h1 : -9000000000000000000 ≤ day) (h2 : day ≤ 9000000000000000000) : ∀ (d n : Nat), n + d = 7 → Ev (fun k => laws_FnWeeks.l0 k b day (seenW day n) (n : Int)) true := by
  intro d
  induction d with
  | zero =>
    intro n hn
    obtain rfl : n = 7 := by omega
    refine Ev.step (fun k => by rw [laws_FnWeeks.l0]) ?_
    simp only [if_neg (show ¬ ((7 : Nat) : Int) < 7 by omega)]
    obtain ⟨⟨y, m, dd⟩, e⟩ := d_day b hb
    refine Ev.bind e (Ev.bind (i_DayOf y m dd) (Ev.bind (s_DayOf y m dd) ?_))
    have j := weeks_j2 day h1 h2
    by_cases h : 1 ≤ dd ∧ dd ≤ ML y m
    · have e : dayOf y m dd = (num y m dd, true) := by unfold dayOf; rw [if_pos h]
      rw [e]
      simp only [if_true]
      exact j
    · have e : dayOf y m dd = (0, false) := by unfold dayOf; rw [if_neg h]
      rw [e]
      simp only [Bool.false_eq_true, if_false, if_true]
      by_cases hd : dd ≥ 1
      · simp only [if_pos hd]
        refine Ev.bind (i_MonthLong y m) ?_
        simp only [decide_eq_false (show ¬ dd ≤ ML y m by omega)]
        exact j
      · simp only [if_neg hd]
        exact j
  | succ d ih =>
    intro n hn
    refine Ev.step (fun k => by rw [laws_FnWeeks.l0]) ?_
    simp only [if_pos (show (n : Int) < 7 by omega)]
    rw [w64 (day + n) (by omega) (by omega), w64 ((n : Int) + 1) (by omega) (by omega), i_WeekOf]
    simp only [Option.bind_some]
    have hb' := wk_bd (day + n)
    simp only [if_neg (show ¬ wk (day + (n : Int)) < 0 by omega), if_neg (show ¬ wk (day + (n : Int)) > 6 by omega)]
    have hlen : (seenW day n).length = n := by simp [seenW]
    have hno : wk (day + (n : Int)) ∉ seenW day n := by
      unfold seenW
      intro hm
      obtain ⟨j, hj, e⟩ := List.mem_map.1 hm
      have hj := List.mem_range.1 hj
      unfold wk at e
      omega
    have hw : Ev (fun k => laws_within.f k (seenW day n) (wk (day + (n : Int)))) false := by
      unfold laws_within.f
      exact within_no _ _ (by omega) hno n 0 (by omega) (by omega)
    refine Ev.bind hw ?_
    simp only [Bool.false_eq_true, if_false, if_pos (show (seenW day n).length < 17592186044416 by omega)]
    have e : seenW day n ++ [wk (day + (n : Int))] = seenW day (n + 1) := by
      unfold seenW
      rw [List.range_succ, List.map_append]
      rfl
    rw [e]
    exact ih (n + 1) (by omega)
theorem FnWeeks : laws_FnWeeks.Pure := by
  intro b hl hl2 hw
  refine Ev.rounds ?_
  unfold laws_FnWeeks.f laws_big.f
  simp only [Option.bind_some]
  by_cases hb : (b.length : Int) > 1048576
  · simp only [decide_eq_true hb, if_true]; exact Ev.now _
  · simp only [decide_eq_false hb, Bool.false_eq_true, if_false]
    obtain ⟨day, e⟩ := d_week b (by omega)
    refine Ev.bind e ?_
    have far : Ev (fun k => laws_FnWeeks.j0 k b day true) true := by
      refine Ev.step (fun k => by rw [laws_FnWeeks.j0]) ?_
      simp only [if_true]
      rw [i_WeekOf, s_WeekOf]
      exact evc fun _ => by simp
    by_cases h1 : day > 9000000000000000000
    · simp only [if_pos h1]; exact far
    · simp only [if_neg h1]
      by_cases h2 : day < -9000000000000000000
      · simp only [decide_eq_true h2]; exact far
      · simp only [decide_eq_false h2]
        refine Ev.step (fun k => by rw [laws_FnWeeks.j0]) ?_
        simp only [Bool.false_eq_true, if_false]
        exact weeks_l b (by omega) day (by omega) (by omega) 7 0 (by omega)

end Go.Proofs.Ytklhjaimnhoijaa.Pure
