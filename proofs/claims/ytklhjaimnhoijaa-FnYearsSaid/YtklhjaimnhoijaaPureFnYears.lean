/- The law FnYears answers true for every slice of bytes. No condition. -/
import Derived.Test.YtklhjaimnhoijaaQFnYearsx2
namespace Go.Proofs.Ytklhjaimnhoijaa.Pure
open Go.RowKit Go.Proofs.Ytklhjaimnhoijaa.QFnYears Go.Proofs.YtklhjaimnhoijaaW.PrintWords Go.Proofs.YtklhjaimnhoijaaW.PrintLast
set_option linter.unusedVariables false
set_option linter.unusedSimpArgs false

theorem w64 (n : Int) (h0 : -9223372036854775808 ≤ n) (h1 : n ≤ 9223372036854775807) : wrap64 n = n := by unfold wrap64; omega
theorem tmn {a : Int} (b : Int) (h : 0 ≤ a) : Int.tmod a b = a % b := Int.tmod_eq_emod_of_nonneg h
theorem wfi {x : Int} (h : (Lit.int .i64 x).wf = true) : -9223372036854775808 ≤ x ∧ x ≤ 9223372036854775807 := by
  simp [Lit.wf, IntKind.min, IntKind.max, IntKind.signed, IntKind.bits] at h
  omega
theorem wf8 {x : Int} (h : (Lit.int .u8 x).wf = true) : 0 ≤ x ∧ x ≤ 255 := by
  simp [Lit.wf, IntKind.min, IntKind.max, IntKind.signed, IntKind.bits] at h
  omega
theorem evc {α : Type} {g : Nat → Option α} {r : α} (h : ∀ k, g k = some r) : Ev g r := ⟨0, fun k _ => h k⟩
theorem getD_mem {α : Type} (l : List α) (n : Nat) (z : α) (h : n < l.length) : l.getD n z ∈ l := by
  rw [List.getD_eq_getElem?_getD, List.getElem?_eq_getElem h]
  exact List.getElem_mem h
theorem ex_step {α : Type} {g f : Nat → Option α} (h : ∀ k, g (k + 1) = f k) (e : ∃ r, Ev f r) : ∃ r, Ev g r := by
  obtain ⟨r, e⟩ := e
  exact ⟨r, Ev.step h e⟩
theorem ex_bind {α β : Type} {g : Nat → Option α} {f : Nat → α → Option β} {a : α} (h : Ev g a) (e : ∃ r, Ev (fun n => f n a) r) : ∃ r, Ev (fun n => (g n).bind (f n)) r := by
  obtain ⟨r, e⟩ := e
  exact ⟨r, Ev.bind h e⟩

def Lp (y : Int) : Prop := y % 4 = 0 ∧ (¬ y % 100 = 0 ∨ y % 400 = 0)
instance (y : Int) : Decidable (Lp y) := by unfold Lp; exact inferInstance
def ylen (y : Int) : Int := if Lp y then 366 else 365
def beg (y : Int) : Int := 365 * (y - 1970) + (y - 1969) / 4 - (y - 1901) / 100 + (y - 1601) / 400
def mlen (y m : Int) : Int := if m = 2 then (if Lp y then 29 else 28) else if m = 4 then 30 else if m = 6 then 30 else if m = 9 then 30 else if m = 11 then 30 else 31
def cum (y m : Int) : Int := (367 * m - 362) / 12 - (if m ≤ 2 then 0 else if Lp y then 1 else 2)
def ML (y m : Int) : Int := if 1900 ≤ y ∧ y ≤ 2200 ∧ 1 ≤ m ∧ m ≤ 12 then mlen y m else 0
theorem beg_succ (y : Int) : beg (y + 1) = beg y + ylen y := by
  unfold beg ylen
  by_cases h : Lp y
  · rw [if_pos h]; unfold Lp at h; omega
  · rw [if_neg h]; unfold Lp at h; omega
theorem ylen_bd (y : Int) : 365 ≤ ylen y ∧ ylen y ≤ 366 := by unfold ylen; split <;> omega
theorem mlen_bd (y m : Int) : 28 ≤ mlen y m ∧ mlen y m ≤ 31 := by unfold mlen; repeat (first | omega | split)
theorem cum_succ (y m : Int) (h1 : 1 ≤ m) (h2 : m ≤ 12) : cum y (m + 1) = cum y m + mlen y m := by
  have : m = 1 ∨ m = 2 ∨ m = 3 ∨ m = 4 ∨ m = 5 ∨ m = 6 ∨ m = 7 ∨ m = 8 ∨ m = 9 ∨ m = 10 ∨ m = 11 ∨ m = 12 := by omega
  unfold cum mlen
  rcases this with rfl | rfl | rfl | rfl | rfl | rfl | rfl | rfl | rfl | rfl | rfl | rfl <;> by_cases h : Lp y <;> simp [h]
theorem cum_one (y : Int) : cum y 1 = 0 := by unfold cum; simp
theorem cum_13 (y : Int) : cum y 13 = ylen y := by unfold cum ylen; by_cases h : Lp y <;> simp [h]
theorem cum_mono (y m n : Int) (h1 : 1 ≤ m) (h : m ≤ n) (h2 : n ≤ 13) : cum y m ≤ cum y n := by
  unfold cum; split <;> split <;> (try split) <;> omega
theorem cum_bd (y m : Int) (h1 : 1 ≤ m) (h2 : m ≤ 13) : 0 ≤ cum y m ∧ cum y m ≤ 366 := by
  unfold cum; split <;> (try split) <;> omega
theorem beg_bd (y : Int) (h1 : 1900 ≤ y) (h2 : y ≤ 2201) : -25567 ≤ beg y ∧ beg y ≤ 84371 := by unfold beg; omega
theorem beg_mono (y z : Int) (h : y ≤ z) : beg y ≤ beg z := by unfold beg; omega
theorem beg_1970 : beg 1970 = 0 := by decide
theorem beg_1900 : beg 1900 = -25567 := by decide
theorem beg_2201 : beg 2201 = 84371 := by decide
theorem ML_in {y m : Int} (h1 : 1900 ≤ y) (h2 : y ≤ 2200) (h3 : 1 ≤ m) (h4 : m ≤ 12) : ML y m = mlen y m := by unfold ML; rw [if_pos ⟨h1, h2, h3, h4⟩]
theorem ML_pos {y m : Int} (h : 0 < ML y m) : 1900 ≤ y ∧ y ≤ 2200 ∧ 1 ≤ m ∧ m ≤ 12 := by
  unfold ML at h; split at h
  · assumption
  · omega
theorem ML_bd (y m : Int) : 0 ≤ ML y m ∧ ML y m ≤ 31 := by
  have := mlen_bd y m
  unfold ML; split <;> omega
/-- The year of a day. -/
theorem year_of (day : Int) (h1 : -25567 ≤ day) (h2 : day < 84371) : ∃ y, 1900 ≤ y ∧ y ≤ 2200 ∧ beg y ≤ day ∧ day < beg (y + 1) := by
  have key : ∀ (d : Nat) (y : Int), y + d = 2201 → 1900 ≤ y → beg y ≤ day → ∃ z, 1900 ≤ z ∧ z ≤ 2200 ∧ beg z ≤ day ∧ day < beg (z + 1) := by
    intro d
    induction d with
    | zero => intro y hy h3 h4; have : y = 2201 := by omega
              subst this; rw [beg_2201] at h4; omega
    | succ d ih =>
      intro y hy h3 h4
      by_cases h : day < beg (y + 1)
      · exact ⟨y, h3, by omega, h4, h⟩
      · exact ih (y + 1) (by omega) (by omega) (by omega)
  exact key 301 1900 (by omega) (by omega) (by rw [beg_1900]; exact h1)
theorem month_of (y left : Int) (h1 : 0 ≤ left) (h2 : left < ylen y) : ∃ m, 1 ≤ m ∧ m ≤ 12 ∧ cum y m ≤ left ∧ left < cum y m + mlen y m := by
  have key : ∀ (d : Nat) (m : Int), m + d = 13 → 1 ≤ m → cum y m ≤ left → ∃ z, 1 ≤ z ∧ z ≤ 12 ∧ cum y z ≤ left ∧ left < cum y z + mlen y z := by
    intro d
    induction d with
    | zero => intro m hm h3 h4; have : m = 13 := by omega
              subst this; rw [cum_13] at h4; omega
    | succ d ih =>
      intro m hm h3 h4
      by_cases h : left < cum y m + mlen y m
      · exact ⟨m, h3, by omega, h4, h⟩
      · exact ih (m + 1) (by omega) (by omega) (by rw [cum_succ y m h3 (by omega)]; omega)
  exact key 12 1 (by omega) (by omega) (by rw [cum_one]; exact h1)
def num (y m d : Int) : Int := beg y + cum y m + d - 1
def Vld (y m d : Int) : Prop := 1900 ≤ y ∧ y ≤ 2200 ∧ 1 ≤ m ∧ m ≤ 12 ∧ 1 ≤ d ∧ d ≤ mlen y m
theorem date_of (day : Int) (h1 : -25567 ≤ day) (h2 : day < 84371) : ∃ y m d, Vld y m d ∧ num y m d = day := by
  obtain ⟨y, hy1, hy2, hb, hb2⟩ := year_of day h1 h2
  rw [beg_succ] at hb2
  obtain ⟨m, hm1, hm2, hc, hc2⟩ := month_of y (day - beg y) (by omega) (by omega)
  exact ⟨y, m, day - beg y - cum y m + 1, ⟨hy1, hy2, hm1, hm2, by omega, by omega⟩, by unfold num; omega⟩
theorem num_year {y m d : Int} (h : Vld y m d) : beg y ≤ num y m d ∧ num y m d < beg (y + 1) := by
  obtain ⟨h1, h2, h3, h4, h5, h6⟩ := h
  have := cum_bd y m h3 (by omega)
  have a := cum_mono y (m + 1) 13 (by omega) (by omega) (by omega)
  rw [cum_succ y m h3 h4, cum_13] at a
  rw [beg_succ]; unfold num; omega
theorem num_inj {y m d y' m' d' : Int} (h : Vld y m d) (h' : Vld y' m' d') (e : num y m d = num y' m' d') : y = y' ∧ m = m' ∧ d = d' := by
  have a := num_year h
  have b := num_year h'
  have hy : y = y' := by
    rcases Int.lt_trichotomy y y' with c | c | c
    · have := beg_mono (y + 1) y' (by omega); omega
    · exact c
    · have := beg_mono (y' + 1) y (by omega); omega
  subst hy
  obtain ⟨h1, h2, h3, h4, h5, h6⟩ := h
  obtain ⟨g1, g2, g3, g4, g5, g6⟩ := h'
  unfold num at e
  have hm : m = m' := by
    rcases Int.lt_trichotomy m m' with c | c | c
    · have := cum_mono y (m + 1) m' (by omega) (by omega) (by omega); rw [cum_succ y m h3 h4] at this; omega
    · exact c
    · have := cum_mono y (m' + 1) m (by omega) (by omega) (by omega); rw [cum_succ y m' g3 g4] at this; omega
  subst hm
  exact ⟨rfl, rfl, by omega⟩
theorem num_bd {y m d : Int} (h : Vld y m d) : -25567 ≤ num y m d ∧ num y m d < 84371 := by
  have a := num_year h
  have b := beg_bd y h.1 (by have := h.2.1; omega)
  have c := beg_mono (y + 1) 2201 (by have := h.2.1; omega)
  rw [beg_2201] at c; omega

theorem i_within (n a b : Int) : impl_within.f n a b = some (decide (a ≤ n ∧ n ≤ b)) := by
  unfold impl_within.f
  by_cases h : n ≥ a
  · rw [if_pos h]; simp [show a ≤ n from h]
  · rw [if_neg h]; simp [show ¬ a ≤ n from h]

theorem i_isLeap (y : Int) (h : 0 ≤ y) : impl_isLeap.f y = some (decide (Lp y)) := by
  unfold impl_isLeap.f
  simp only [tmn _ h]
  unfold Lp
  by_cases h4 : y % 4 = 0
  · by_cases h100 : y % 100 = 0
    · rw [if_pos h4, if_pos h100]
      by_cases h400 : y % 400 = 0 <;> simp [h4, h100, h400]
    · rw [if_pos h4, if_neg h100]; simp [h4, h100]
  · rw [if_neg h4]
    have h400 : ¬ y % 400 = 0 := by omega
    simp [h4, h400]
theorem i_isYear (y : Int) : impl_isYear.f y = some (decide (1900 ≤ y ∧ y ≤ 2200)) := by
  unfold impl_isYear.f; rw [i_within]; rfl
theorem i_MonthLong (y m : Int) : Ev (fun k => impl_MonthLong.f k y m) (ML y m) := by
  unfold impl_MonthLong.f
  rw [i_isYear]
  simp only [Option.bind_some]
  by_cases h : 1900 ≤ y ∧ y ≤ 2200
  · rw [i_within]
    simp only [decide_eq_true h, if_true, Option.bind_some]
    by_cases hm : 1 ≤ m ∧ m ≤ 12
    · refine Ev.step (fun k => by rw [impl_MonthLong.j0]) ?_
      rw [ML_in h.1 h.2 hm.1 hm.2]
      simp only [decide_eq_true hm, Bool.not_true, Bool.false_eq_true, if_false]
      obtain ⟨h1, h2⟩ := hm
      have : m = 1 ∨ m = 2 ∨ m = 3 ∨ m = 4 ∨ m = 5 ∨ m = 6 ∨ m = 7 ∨ m = 8 ∨ m = 9 ∨ m = 10 ∨ m = 11 ∨ m = 12 := by omega
      rw [i_isLeap y (by omega)]
      unfold mlen
      rcases this with rfl | rfl | rfl | rfl | rfl | rfl | rfl | rfl | rfl | rfl | rfl | rfl
      · exact evc fun _ => by simp [wrap64, rd]
      · by_cases hl : Lp y
        · exact evc fun _ => by simp [hl]
        · exact evc fun _ => by simp [hl, wrap64, rd]
      all_goals exact evc fun _ => by simp [wrap64, rd]
    · refine Ev.step (fun k => by rw [impl_MonthLong.j0]) ?_
      have e : ML y m = 0 := by unfold ML; rw [if_neg (by omega)]
      rw [e]
      simp only [decide_eq_false hm, Bool.not_false, if_true]
      exact Ev.now _
  · simp only [decide_eq_false h, Bool.false_eq_true, if_false]
    refine Ev.step (fun k => by rw [impl_MonthLong.j0]) ?_
    have e : ML y m = 0 := by unfold ML; rw [if_neg (by omega)]
    rw [e]
    simp only [if_true]
    exact Ev.now _

theorem i_yearLong (y : Int) (h : 0 ≤ y) : impl_yearLong.f y = some (ylen y) := by
  unfold impl_yearLong.f; rw [i_isLeap y h]; unfold ylen
  by_cases hl : Lp y <;> simp [hl]
theorem i_begins1 : ∀ (d : Nat) (n acc : Int), n + d = 1970 → 1900 ≤ n → -1000000 ≤ acc - 366 * (1970 - n) → acc ≤ 1000000 → Ev (fun k => impl_yearBegins.l1 k acc n) (acc + beg n) := by
  intro d
  induction d with
  | zero =>
    intro n acc h1 h2 h3 h4
    obtain rfl : n = 1970 := by omega
    refine Ev.step (fun k => by rw [impl_yearBegins.l1]) ?_
    rw [beg_1970]; simp only [Int.lt_irrefl, if_false, Int.add_zero]; exact Ev.now _
  | succ d ih =>
    intro n acc h1 h2 h3 h4
    refine Ev.step (fun k => by rw [impl_yearBegins.l1]) ?_
    rw [i_yearLong n (by omega)]
    have hb := ylen_bd n
    have hs := beg_succ n
    simp only [if_pos (show n < 1970 by omega), Option.bind_some]
    rw [w64 (acc - ylen n) (by omega) (by omega), w64 (n + 1) (by omega) (by omega)]
    have := ih (n + 1) (acc - ylen n) (by omega) (by omega) (by omega) (by omega)
    rwa [show acc - ylen n + beg (n + 1) = acc + beg n by omega] at this
theorem i_begins0 : ∀ (d : Nat) (y n : Int), n + d = y → 1970 ≤ n → y ≤ 2201 → Ev (fun k => impl_yearBegins.l0 k y (beg n) n) (beg y) := by
  intro d
  induction d with
  | zero =>
    intro y n h1 h2 h3
    obtain rfl : n = y := by omega
    refine Ev.step (fun k => by rw [impl_yearBegins.l0]) ?_
    simp only [Int.lt_irrefl, if_false]
    refine Ev.step (fun k => by rw [impl_yearBegins.l1]) ?_
    simp only [if_neg (show ¬ n < 1970 by omega)]; exact Ev.now _
  | succ d ih =>
    intro y n h1 h2 h3
    refine Ev.step (fun k => by rw [impl_yearBegins.l0]) ?_
    rw [i_yearLong n (by omega)]
    have hb := beg_bd n (by omega) (by omega)
    have hq := ylen_bd n
    simp only [if_pos (show n < y by omega), Option.bind_some]
    rw [w64 (beg n + ylen n) (by omega) (by omega), w64 (n + 1) (by omega) (by omega), ← beg_succ]
    exact ih y (n + 1) (by omega) (by omega) h3
theorem i_yearBegins (y : Int) (h1 : 1900 ≤ y) (h2 : y ≤ 2201) : Ev (fun k => impl_yearBegins.f k y) (beg y) := by
  unfold impl_yearBegins.f
  by_cases h : 1970 ≤ y
  · have := i_begins0 (y - 1970).toNat y 1970 (by omega) (by omega) h2
    rwa [beg_1970] at this
  · refine Ev.step (fun k => by rw [impl_yearBegins.l0]) ?_
    simp only [if_neg (show ¬ (1970 : Int) < y by omega)]
    have := i_begins1 (1970 - y).toNat y 0 (by omega) (by omega) (by omega) (by omega)
    rwa [Int.zero_add] at this

theorem i_dayl (y m : Int) (hy1 : 1900 ≤ y) (hy2 : y ≤ 2200) (hm : m ≤ 12) : ∀ (d : Nat) (n acc : Int), n + d = m → 1 ≤ n → -1000000 ≤ acc → acc ≤ 1000000 - 31 * (m - n) → Ev (fun k => impl_DayOf.l0 k y m acc n) (acc + cum y m - cum y n, true) := by
  intro d
  induction d with
  | zero =>
    intro n acc h1 h2 h3 h4
    obtain rfl : n = m := by omega
    refine Ev.step (fun k => by rw [impl_DayOf.l0]) ?_
    simp only [Int.lt_irrefl, if_false]
    rw [show acc + cum y n - cum y n = acc by omega]
    exact Ev.now _
  | succ d ih =>
    intro n acc h1 h2 h3 h4
    refine Ev.step (fun k => by rw [impl_DayOf.l0]) ?_
    simp only [if_pos (show n < m by omega)]
    refine Ev.bind (i_MonthLong y n) ?_
    rw [ML_in hy1 hy2 h2 (by omega)]
    have hb := mlen_bd y n
    have hs := cum_succ y n h2 (by omega)
    rw [w64 (acc + mlen y n) (by omega) (by omega), w64 (n + 1) (by omega) (by omega)]
    have := ih (n + 1) (acc + mlen y n) (by omega) (by omega) (by omega) (by omega)
    rwa [show acc + mlen y n + cum y m - cum y (n + 1) = acc + cum y m - cum y n by omega] at this
def dayOf (y m d : Int) : Int × Bool := if 1 ≤ d ∧ d ≤ ML y m then (num y m d, true) else (0, false)
theorem i_DayOf (y m d : Int) : Ev (fun k => impl_DayOf.f k y m d) (dayOf y m d) := by
  unfold impl_DayOf.f
  refine Ev.bind (i_MonthLong y m) ?_
  rw [i_within]
  simp only [Option.bind_some]
  unfold dayOf
  by_cases h : 1 ≤ d ∧ d ≤ ML y m
  · simp only [decide_eq_true h, if_true, if_pos h]
    obtain ⟨g1, g2, g3, g4⟩ := ML_pos (show 0 < ML y m by omega)
    refine Ev.bind (i_yearBegins y g1 (by omega)) ?_
    have hb := beg_bd y g1 (by omega)
    have hm := ML_bd y m
    rw [w64 (beg y + d) (by omega) (by omega), w64 (beg y + d - 1) (by omega) (by omega)]
    have := i_dayl y m g1 g2 g4 (m - 1).toNat 1 (beg y + d - 1) (by omega) (by omega) (by omega) (by omega)
    rw [cum_one] at this
    unfold num
    rwa [show beg y + d - 1 + cum y m - 0 = beg y + cum y m + d - 1 by omega] at this
  · simp only [decide_eq_false h, Bool.false_eq_true, if_false, if_neg h]
    exact Ev.now _

theorem at_in (l : List Int) (i : Int) (h : ∀ x ∈ l, (Lit.int .u8 x).wf = true) (hl : l.length ≤ 140737488351232) (h0 : 0 ≤ i) (hi : i ≤ 1000) : ∃ r, laws_at.f l i = some r ∧ 0 ≤ r ∧ r ≤ 255 := by
  unfold laws_at.f
  by_cases hlt : i < (l.length : Int)
  · rw [if_pos hlt, if_pos h0]
    have hm : rd l i ∈ l := by
      unfold rd
      exact getD_mem _ _ _ (by omega)
    have hb := wf8 (h _ hm)
    exact ⟨_, rfl, by rw [w64 _ (by omega) (by omega)]; exact hb⟩
  · rw [if_neg hlt]
    refine ⟨_, rfl, ?_⟩
    rw [w64 (i * 7) (by omega) (by omega), w64 (i * 7 + (l.length : Int)) (by omega) (by omega), tmn 256 (by omega)]
    omega
theorem years_l (y : Int) (hy1 : 1900 ≤ y) (hy2 : y ≤ 2199) : ∀ (d : Nat) (m : Int), m + d = 13 → 1 ≤ m → Ev (fun k => laws_FnYears.l0 k y (cum y m) m) true := by
  intro d
  induction d with
  | zero =>
    intro m h1 h2
    obtain rfl : m = 13 := by omega
    refine Ev.step (fun k => by rw [laws_FnYears.l0]) ?_
    simp only [if_neg (show ¬ (13 : Int) ≤ 12 by omega)]
    refine Ev.bind (i_DayOf y 1 1) ?_
    rw [w64 (y + 1) (by omega) (by omega)]
    refine Ev.bind (i_DayOf (y + 1) 1 1) ?_
    have e : ∀ z : Int, 1900 ≤ z → z ≤ 2200 → dayOf z 1 1 = (beg z, true) := by
      intro z g1 g2
      have := mlen_bd z 1
      unfold dayOf
      rw [ML_in g1 g2 (by omega) (by omega), if_pos ⟨by omega, by omega⟩]
      unfold num
      rw [cum_one, show beg z + 0 + 1 - 1 = beg z by omega]
    rw [e y hy1 (by omega), e (y + 1) (by omega) (by omega), cum_13]
    have hb := beg_bd y hy1 (by omega)
    have hb2 := beg_bd (y + 1) (by omega) (by omega)
    have hs := beg_succ y
    have hw : wrap64 (beg (y + 1) - beg y) = ylen y := by rw [w64 _ (by omega) (by omega)]; omega
    simp only [tmn _ (show 0 ≤ y by omega), if_true, hw]
    unfold ylen Lp
    by_cases h4 : y % 4 = 0 <;> by_cases h100 : y % 100 = 0 <;> by_cases h400 : y % 400 = 0 <;>
      simp only [h4, h100, h400] <;> exact evc fun _ => by simp
  | succ d ih =>
    intro m h1 h2
    refine Ev.step (fun k => by rw [laws_FnYears.l0]) ?_
    simp only [if_pos (show m ≤ 12 by omega)]
    refine Ev.bind (i_MonthLong y m) ?_
    rw [ML_in hy1 (by omega) h2 (by omega)]
    have hb := mlen_bd y m
    have hc := cum_bd y m h2 (by omega)
    have hs := cum_succ y m h2 (by omega)
    rw [w64 (cum y m + mlen y m) (by omega) (by omega), w64 (m + 1) (by omega) (by omega), ← hs]
    exact ih (m + 1) (by omega) (by omega)
theorem FnYears : laws_FnYears.Pure := by
  intro l hl hl2 hw
  refine Ev.rounds ?_
  unfold laws_FnYears.f laws_big.f
  simp only [Option.bind_some]
  by_cases hb : (l.length : Int) > 1048576
  · simp only [decide_eq_true hb, if_true]; exact Ev.now _
  · simp only [decide_eq_false hb, Bool.false_eq_true, if_false]
    obtain ⟨a, ha, ha1, ha2⟩ := at_in l 1 hw (by omega) (by omega) (by omega)
    obtain ⟨b, hb', hb1, hb2⟩ := at_in l 2 hw (by omega) (by omega) (by omega)
    rw [ha, hb']
    simp only [Option.bind_some]
    rw [w64 (1900 + a) (by omega) (by omega), tmn 45 hb1, w64 (1900 + a + b % 45) (by omega) (by omega)]
    have key : ∀ y : Int, 1900 ≤ y → y ≤ 2199 → Ev (fun k => laws_FnYears.j0 k y) true := by
      intro y h1 h2
      refine Ev.step (fun k => by rw [laws_FnYears.j0]) ?_
      have := years_l y h1 h2 12 1 (by omega) (by omega)
      rwa [cum_one] at this
    by_cases h : 1900 + a + b % 45 > 2199
    · simp only [if_pos h]; exact key _ (by omega) (by omega)
    · simp only [if_neg h]; exact key _ (by omega) (by omega)

end Go.Proofs.Ytklhjaimnhoijaa.Pure
