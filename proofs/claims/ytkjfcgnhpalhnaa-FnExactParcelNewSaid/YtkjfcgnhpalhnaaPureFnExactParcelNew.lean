/- The law FnExactParcelNew answers true for every argument. No condition. -/
import Derived.Test.YtkjfcgnhpalhnaaQFnExactParcelNewx4
namespace Go.Proofs.Ytkjfcgnhpalhnaa.Pure
open Go.RowKit Go.Proofs.Ytkjfcgnhpalhnaa.QFnExactParcelNew Go.Proofs.YtkjfcgnhpalhnaaW.PrintWords Go.Proofs.YtkjfcgnhpalhnaaW.PrintLast
set_option linter.unusedVariables false
set_option linter.unusedSimpArgs false

theorem w64 (n : Int) (h0 : -9223372036854775808 ≤ n) (h1 : n ≤ 9223372036854775807) : wrap64 n = n := by unfold wrap64; omega
theorem tmn {a : Int} (b : Int) (h : 0 ≤ a) : Int.tmod a b = a % b := Int.tmod_eq_emod_of_nonneg h
theorem wfi {x : Int} (h : (Lit.int .i64 x).wf = true) : -9223372036854775808 ≤ x ∧ x ≤ 9223372036854775807 := by
  simp [Lit.wf, IntKind.min, IntKind.max, IntKind.signed, IntKind.bits] at h
  omega
theorem wf8 {x : Int} (h : (Lit.int .u8 x).wf = true) : 0 ≤ x ∧ x ≤ 255 := by
  simp [Lit.wf, IntKind.min, IntKind.max, IntKind.signed, IntKind.bits] at h
  omega
theorem evc {α : Type} {g : Nat → Option α} {r : α} (h : ∀ k, g k = some r) : Ev g r := ⟨0, fun k _ => h k⟩
theorem getD_mem {α : Type} (l : List α) (n : Nat) (z : α) (h : n < l.length) : l.getD n z ∈ l := by
  rw [List.getD_eq_getElem?_getD, List.getElem?_eq_getElem h]
  exact List.getElem_mem h
theorem ex_step {α : Type} {g f : Nat → Option α} (h : ∀ k, g (k + 1) = f k) (e : ∃ r, Ev f r) : ∃ r, Ev g r := by
  obtain ⟨r, e⟩ := e
  exact ⟨r, Ev.step h e⟩
theorem ex_bind {α β : Type} {g : Nat → Option α} {f : Nat → α → Option β} {a : α} (h : Ev g a) (e : ∃ r, Ev (fun n => f n a) r) : ∃ r, Ev (fun n => (g n).bind (f n)) r := by
  obtain ⟨r, e⟩ := e
  exact ⟨r, Ev.bind h e⟩

theorem up_ind (n : Nat) (P : Nat → Prop) (he : P n) (hs : ∀ i, i < n → P (i + 1) → P i) (i : Nat) (h : i ≤ n) : P i := by
  have key : ∀ (d i : Nat), i + d = n → P i := by
    intro d
    induction d with
    | zero => intro i h; obtain rfl : i = n := by omega
              exact he
    | succ d ih => intro i h; exact hs i (by omega) (ih (i + 1) (by omega))
  exact key (n - i) i (by omega)
theorem eq_fill {β : Type} (y : Nat → β) (n : Nat) (ys : List β) (hl : ys.length = n) (h : ∀ j, j < n → ys[j]? = some (y j)) : ys = (List.range n).map y := by
  apply List.ext_getElem?
  intro j
  by_cases hj : j < n
  · rw [h j hj]; simp [hj]
  · rw [List.getElem?_eq_none (by omega), List.getElem?_eq_none (by simp; omega)]
theorem map_rd {α β : Type} (l : List α) (z : α) (f : α → β) : (List.range l.length).map (fun i => f (l.getD i z)) = l.map f := by
  apply List.ext_getElem?
  intro j
  by_cases hj : j < l.length
  · simp [hj, List.getD]
  · rw [List.getElem?_eq_none (by simp; omega), List.getElem?_eq_none (by simp; omega)]
theorem set_fill {β : Type} (y : Nat → β) (i : Nat) (ys : List β) (h : ∀ j, j < i → ys[j]? = some (y j)) (hi : i < ys.length) : ∀ j, j < i + 1 → (ys.set i (y i))[j]? = some (y j) := by
  intro j hj
  by_cases e : j = i
  · subst e; rw [List.getElem?_set_self hi]
  · rw [List.getElem?_set_ne (by omega)]; exact h j (by omega)
theorem inc (i : Nat) (h : i < 1000000000000) : wrap64 ((i : Int) + 1) = ((i + 1 : Nat) : Int) := by rw [w64 _ (by omega) (by omega)]; omega

theorem bal (s : ByteArray) : s.toList = s.data.toList := ByteArray.toList_eq s
theorem bal_nil (s : ByteArray) : s.toList = ([] : List UInt8) ↔ s.size = 0 := by
  rw [bal, ← data_length]
  exact List.length_eq_zero_iff.symm

theorem eq_strs (l : List ByteArray) (hl : l.length ≤ 1048576) : Ev (fun k => laws_eqStringS.f k l l) true := by
  unfold laws_eqStringS.f
  simp only [if_true]
  have key := up_ind l.length (fun i => Ev (fun k => laws_eqStringS.l0 k l l (i : Int)) true)
    (by
      refine Ev.step (fun k => by rw [laws_eqStringS.l0]) ?_
      simp only [Int.lt_irrefl, if_false]
      exact Ev.now _)
    (by
      intro i hi ih
      refine Ev.step (fun k => by rw [laws_eqStringS.l0]) ?_
      simp only [if_pos (show (i : Int) < (l.length : Int) by omega), if_pos (show 0 ≤ (i : Int) by omega), if_true]
      rw [inc i (by omega)]
      exact ih)
  exact key 0 (by omega)

theorem strOfNums_size (l : List Int) : (strOfNums l).size = l.length := by
  unfold strOfNums
  simp [ByteArray.size]
theorem mark_l : ∀ (m : Nat) (x : Int) (s : ByteArray), x ≤ m → 0 ≤ x → x ≤ 1000000000000 → s.size + m ≤ 1000000000000000 → ∃ t, Ev (fun k => laws_markText.l0 k x s) t := by
  intro m
  induction m with
  | zero =>
    intro x s h1 h2 h3 h4
    refine ex_step (fun k => by rw [laws_markText.l0]) ?_
    simp only [if_neg (show ¬ x > 0 by omega), if_pos (show 1 + s.size ≤ 9223372036854775807 by omega)]
    exact ⟨_, Ev.now _⟩
  | succ m ih =>
    intro x s h1 h2 h3 h4
    refine ex_step (fun k => by rw [laws_markText.l0]) ?_
    by_cases hx : x > 0
    · have hz : (strOfNums [(wrap64 (48 + (Int.tmod x 10))) % 256]).size = 1 := strOfNums_size _
      simp only [if_pos hx, Option.bind_some, if_pos (show (strOfNums [(wrap64 (48 + (Int.tmod x 10))) % 256]).size + s.size ≤ 9223372036854775807 by omega)]
      rw [Int.tdiv_eq_ediv_of_nonneg h2, w64 (x / 10) (by omega) (by omega)]
      exact ih _ _ (by omega) (by omega) (by omega) (by rw [ByteArray.size_append, hz]; omega)
    · simp only [if_neg hx, if_pos (show 1 + s.size ≤ 9223372036854775807 by omega)]
      exact ⟨_, Ev.now _⟩
theorem mark_ex (n : Nat) : ∃ t, 1 ≤ n → n ≤ 100000000000 → Ev (fun k => laws_markText.f k (n : Int)) t := by
  by_cases h : 1 ≤ n ∧ n ≤ 100000000000
  · obtain ⟨t, e⟩ := mark_l n (n : Int) (⟨#[]⟩ : ByteArray) (by omega) (by omega) (by omega) (by show 0 + n ≤ _; omega)
    refine ⟨t, fun _ _ => ?_⟩
    unfold laws_markText.f
    simp only [if_neg (show ¬ (n : Int) ≤ 0 by omega)]
    exact e
  · exact ⟨ByteArray.empty, fun h1 h2 => absurd ⟨h1, h2⟩ h⟩
/-- The text that marks n. -/
noncomputable def mt (n : Nat) : ByteArray := Classical.choose (mark_ex n)
theorem mt_ev (n : Nat) (h1 : 1 ≤ n) (h2 : n ≤ 100000000000) : Ev (fun k => laws_markText.f k (n : Int)) (mt n) := Classical.choose_spec (mark_ex n) h1 h2

theorem getD_range {β : Type} (y : Nat → β) (n : Nat) (z : β) (i : Nat) (h : i < n) : ((List.range n).map y).getD i z = y i := by simp [List.getD, h]
theorem mark_strs (l : List ByteArray) (c : Nat) (hc : 1 ≤ c) (hc2 : c ≤ 10000000000) (hl : l.length ≤ 1048576) : Ev (fun k => laws_markStringS.f k l (c : Int)) (((c + l.length : Nat) : Int), (List.range l.length).map fun j => mt (c + j)) := by
  unfold laws_markStringS.f
  have key := up_ind l.length (fun i => ∀ ys : List ByteArray, ys.length = l.length → (∀ j, j < i → ys[j]? = some (mt (c + j))) → Ev (fun k => laws_markStringS.l0 k ys ((c + i : Nat) : Int) (i : Int)) (((c + l.length : Nat) : Int), (List.range l.length).map fun j => mt (c + j)))
    (by
      intro ys hy h
      refine Ev.step (fun k => by rw [laws_markStringS.l0]) ?_
      simp only [if_neg (show ¬ (l.length : Int) < (ys.length : Int) by omega)]
      rw [eq_fill (fun j => mt (c + j)) l.length ys hy h]
      exact Ev.now _)
    (by
      intro i hi ih ys hy h
      refine Ev.step (fun k => by rw [laws_markStringS.l0]) ?_
      simp only [if_pos (show (i : Int) < (ys.length : Int) by omega), if_pos (show 0 ≤ (i : Int) by omega)]
      refine Ev.bind (mt_ev (c + i) (by omega) (by omega)) ?_
      rw [inc i (by omega), inc (c + i) (by omega)]
      exact ih _ (by rw [List.length_set]; exact hy) (set_fill (fun j => mt (c + j)) i ys h (by omega)))
  exact key 0 (by omega) l rfl (fun j hj => by omega)
theorem held_strs (n c : Nat) (hc : 1 ≤ c) (hc2 : c ≤ 10000000000) (hl : n ≤ 1048576) : Ev (fun k => laws_heldStringS.f k ((List.range n).map fun j => mt (c + j)) (c : Int)) ((c + n : Nat) : Int) := by
  unfold laws_heldStringS.f
  have hlen : ((List.range n).map fun j => mt (c + j)).length = n := by simp
  have key := up_ind n (fun i => Ev (fun k => laws_heldStringS.l0 k ((List.range n).map fun j => mt (c + j)) ((c + i : Nat) : Int) (i : Int)) ((c + n : Nat) : Int))
    (by
      refine Ev.step (fun k => by rw [laws_heldStringS.l0]) ?_
      rw [hlen]
      simp only [Int.lt_irrefl, if_false]
      exact Ev.now _)
    (by
      intro i hi ih
      refine Ev.step (fun k => by rw [laws_heldStringS.l0]) ?_
      rw [hlen]
      simp only [if_pos (show (i : Int) < (n : Int) by omega), if_pos (show 0 ≤ (i : Int) by omega)]
      refine Ev.bind (mt_ev (c + i) (by omega) (by omega)) ?_
      have e : rdOf ByteArray.empty ((List.range n).map fun j => mt (c + j)) (i : Int) = mt (c + i) := getD_range (fun j => mt (c + j)) n _ i hi
      rw [e]
      simp only [if_true]
      rw [inc i (by omega), inc (c + i) (by omega)]
      exact ih)
  exact key 0 (by omega)

theorem i_within (n a b : Int) : impl_within.f n a b = some (decide (a ≤ n ∧ n ≤ b)) := by
  unfold impl_within.f
  by_cases h : n ≥ a
  · rw [if_pos h]; simp [show a ≤ n from h]
  · rw [if_neg h]; simp [show ¬ a ≤ n from h]

theorem s_In (n a b : Int) : spec_l1In.f n a b = some (decide (a ≤ n ∧ n ≤ b)) := by
  unfold spec_l1In.f
  by_cases h : n ≥ a
  · rw [if_pos h]; simp [show a ≤ n from h]
  · rw [if_neg h]; simp [show ¬ a ≤ n from h]

theorem s_PartsOf (n : Int) : spec_PartsOf.f n = some (if 0 ≤ n ∧ n ≤ 1000 then (n + 15) / 16 else -1) := by
  unfold spec_PartsOf.f
  rw [s_In]
  simp only [Option.bind_some]
  by_cases h : 0 ≤ n ∧ n ≤ 1000
  · rw [w64 (n + 16) (by omega) (by omega), w64 (n + 16 - 1) (by omega) (by omega)]
    have e : Int.tdiv (n + 16 - 1) 16 = (n + 15) / 16 := by rw [Int.tdiv_eq_ediv_of_nonneg (by omega)]; omega
    rw [e, w64 _ (by omega) (by omega)]
    simp [h]
  · simp [h]
theorem i_PartsOf (n : Int) : impl_PartsOf.f n = some (if 0 ≤ n ∧ n ≤ 1000 then (n + 15) / 16 else -1) := by
  unfold impl_PartsOf.f impl_isSize.f
  rw [i_within]
  simp only [Option.bind_some]
  by_cases h : 0 ≤ n ∧ n ≤ 1000
  · rw [w64 (n + 16) (by omega) (by omega), w64 (n + 16 - 1) (by omega) (by omega)]
    have e : Int.tdiv (n + 16 - 1) 16 = (n + 15) / 16 := by rw [Int.tdiv_eq_ediv_of_nonneg (by omega)]; omega
    rw [e, w64 _ (by omega) (by omega)]
    simp [h]
  · simp [h]

/-- Each part from i on is empty or as long as that part is. -/
def pk (z : Int) (l : List ByteArray) : Nat → Nat → Bool
  | 0, _ => true
  | d + 1, i => (decide ((rdOf ByteArray.empty l (i : Int)).size = 0) || decide (((rdOf ByteArray.empty l (i : Int)).size : Int) = min 16 (z - (i : Int) * 16))) && pk z l d (i + 1)
def pOk (z : Int) (d : ByteArray) (l : List ByteArray) : Bool := decide (0 ≤ z ∧ z ≤ 1000 ∧ d.size = 32 ∧ (l.length : Int) = (z + 15) / 16) && pk z l l.length 0
theorem s_Long (z i : Int) (h1 : 0 ≤ z ∧ z ≤ 1000) (h2 : 0 ≤ i ∧ i ≤ 1000000) : spec_l9Long.f z i = some (min 16 (z - i * 16)) := by
  unfold spec_l9Long.f spec_l1Min.f
  rw [w64 (i * 16) (by omega) (by omega), w64 (z - i * 16) (by omega) (by omega)]
  by_cases h : 16 < z - i * 16
  · rw [if_pos h]; simp only [Option.bind_some]; rw [Int.min_eq_left (by omega)]
  · rw [if_neg h]; simp only [Option.bind_some]; rw [Int.min_eq_right (by omega)]
theorem s_okl (z : Int) (d : ByteArray) (l : List ByteArray) (hz : 0 ≤ z ∧ z ≤ 1000) (hl : l.length ≤ 1000) : ∀ (q i : Nat), i + q = l.length → Ev (fun k => spec_ParcelOk.l0 k (i : Int) z d l) (pk z l q i) := by
  intro q
  induction q with
  | zero =>
    intro i h
    refine Ev.step (fun k => by rw [spec_ParcelOk.l0]) ?_
    simp only [if_neg (show ¬ (i : Int) < (l.length : Int) by omega)]
    exact Ev.now _
  | succ q ih =>
    intro i h
    refine Ev.step (fun k => by rw [spec_ParcelOk.l0]) ?_
    simp only [if_pos (show (i : Int) < (l.length : Int) by omega), if_pos (show 0 ≤ (i : Int) by omega), pk]
    rw [inc i (by omega), s_Long z i hz (by omega)]
    by_cases h0 : (rdOf ByteArray.empty l (i : Int)).size = 0
    · simp only [if_pos (show ((rdOf ByteArray.empty l (i : Int)).size : Int) = 0 by omega), decide_eq_true h0, Bool.true_or, Bool.true_and]
      exact ih (i + 1) (by omega)
    · simp only [if_neg (show ¬ ((rdOf ByteArray.empty l (i : Int)).size : Int) = 0 by omega), decide_eq_false h0, Bool.false_or, Option.bind_some]
      by_cases h1 : ((rdOf ByteArray.empty l (i : Int)).size : Int) = min 16 (z - (i : Int) * 16)
      · simp only [if_pos h1, decide_eq_true h1, Bool.true_and]; exact ih (i + 1) (by omega)
      · simp only [if_neg h1, decide_eq_false h1, Bool.false_and]; exact Ev.now _
theorem s_ParcelOk (z : Int) (d : ByteArray) (l : List ByteArray) (hl : l.length ≤ 1048576) : Ev (fun k => spec_ParcelOk.f k z d l) (pOk z d l) := by
  unfold spec_ParcelOk.f
  rw [s_PartsOf]
  simp only [Option.bind_some]
  have no : ∀ b : Bool, b = true → Ev (fun k => spec_ParcelOk.j0 k b z d l) false := by
    intro b hb
    refine Ev.step (fun k => by rw [spec_ParcelOk.j0]) ?_
    simp only [hb, if_true]
    exact Ev.now _
  by_cases hz : 0 ≤ z ∧ z ≤ 1000
  · simp only [if_pos hz, if_neg (show ¬ (z + 15) / 16 < 0 by omega)]
    by_cases hd : (d.size : Int) = 32
    · simp only [if_pos hd]
      by_cases hn : (l.length : Int) = (z + 15) / 16
      · have e : pOk z d l = pk z l l.length 0 := by unfold pOk; rw [decide_eq_true ⟨hz.1, hz.2, by omega, hn⟩, Bool.true_and]
        rw [e]
        refine Ev.step (fun k => by rw [spec_ParcelOk.j0]) ?_
        simp only [show ((l.length : Int) != (z + 15) / 16) = false by simp [hn], Bool.false_eq_true, if_false]
        exact s_okl z d l hz (by omega) l.length 0 (by omega)
      · have e : pOk z d l = false := by unfold pOk; rw [decide_eq_false (fun h => hn h.2.2.2), Bool.false_and]
        rw [e]; exact no _ (by simp [hn])
    · have e : pOk z d l = false := by unfold pOk; rw [decide_eq_false (fun h => by have := h.2.2.1; omega), Bool.false_and]
      simp only [if_neg hd]
      rw [e]; exact no _ rfl
  · have e : pOk z d l = false := by unfold pOk; rw [decide_eq_false (fun h => hz ⟨h.1, h.2.1⟩), Bool.false_and]
    simp only [if_neg hz, if_pos (show (-1 : Int) < 0 by omega)]
    rw [e]; exact no _ rfl
theorem i_Long (z i : Int) (h1 : 0 ≤ z ∧ z ≤ 1000) (h2 : 0 ≤ i ∧ i ≤ 1000000) : impl_partLong.f z i = some (min 16 (z - i * 16)) := by
  unfold impl_partLong.f mn
  rw [w64 (i * 16) (by omega) (by omega), w64 (z - i * 16) (by omega) (by omega)]
  congr 1
  omega
theorem i_okl (z : Int) (d : ByteArray) (l : List ByteArray) (hz : 0 ≤ z ∧ z ≤ 1000) (hl : l.length ≤ 1000) : ∀ (q i : Nat), i + q = l.length → Ev (fun k => impl_ParcelOk.l0 k l (l.length : Int) (i : Int) z d l) (pk z l q i) := by
  intro q
  induction q with
  | zero =>
    intro i h
    refine Ev.step (fun k => by rw [impl_ParcelOk.l0]) ?_
    simp only [if_neg (show ¬ (i : Int) < (l.length : Int) by omega)]
    exact Ev.now _
  | succ q ih =>
    intro i h
    refine Ev.step (fun k => by rw [impl_ParcelOk.l0]) ?_
    simp only [if_pos (show (i : Int) < (l.length : Int) by omega), if_pos (show 0 ≤ (i : Int) by omega), pk, bal_nil]
    rw [inc i (by omega), i_Long z i hz (by omega)]
    by_cases h0 : (rdOf ByteArray.empty l (i : Int)).size = 0
    · simp only [if_pos h0, decide_eq_true h0, Bool.true_or, Bool.true_and]
      exact ih (i + 1) (by omega)
    · simp only [if_neg h0, decide_eq_false h0, Bool.false_or, Option.bind_some]
      by_cases h1 : ((rdOf ByteArray.empty l (i : Int)).size : Int) = min 16 (z - (i : Int) * 16)
      · simp only [if_pos h1, decide_eq_true h1, Bool.true_and]; exact ih (i + 1) (by omega)
      · simp only [if_neg h1, decide_eq_false h1, Bool.false_and]; exact Ev.now _
theorem i_ParcelOk (z : Int) (d : ByteArray) (l : List ByteArray) (hl : l.length ≤ 1048576) : Ev (fun k => impl_ParcelOk.f k z d l) (pOk z d l) := by
  unfold impl_ParcelOk.f
  have hs : impl_isSize.f z = some (decide (0 ≤ z ∧ z ≤ 1000)) := by unfold impl_isSize.f; rw [i_within]; rfl
  rw [hs, i_PartsOf]
  simp only [Option.bind_some]
  have no : ∀ b : Bool, b = true → Ev (fun k => impl_ParcelOk.j0 k b z d l) false := by
    intro b hb
    refine Ev.step (fun k => by rw [impl_ParcelOk.j0]) ?_
    simp only [hb, if_true]
    exact Ev.now _
  by_cases hz : 0 ≤ z ∧ z ≤ 1000
  · simp only [decide_eq_true hz, if_true, if_pos hz]
    by_cases hd : (d.size : Int) = 32
    · simp only [if_pos hd]
      by_cases hn : (l.length : Int) = (z + 15) / 16
      · have e : pOk z d l = pk z l l.length 0 := by unfold pOk; rw [decide_eq_true ⟨hz.1, hz.2, by omega, hn⟩, Bool.true_and]
        rw [e]
        refine Ev.step (fun k => by rw [impl_ParcelOk.j0]) ?_
        simp only [show ((l.length : Int) != (z + 15) / 16) = false by simp [hn], Bool.false_eq_true, if_false]
        exact i_okl z d l hz (by omega) l.length 0 (by omega)
      · have e : pOk z d l = false := by unfold pOk; rw [decide_eq_false (fun h => hn h.2.2.2), Bool.false_and]
        rw [e]; exact no _ (by simp [hn])
    · have e : pOk z d l = false := by unfold pOk; rw [decide_eq_false (fun h => by have := h.2.2.1; omega), Bool.false_and]
      simp only [if_neg hd]
      rw [e]; exact no _ rfl
  · have e : pOk z d l = false := by unfold pOk; rw [decide_eq_false (fun h => hz ⟨h.1, h.2.1⟩), Bool.false_and]
    simp only [decide_eq_false hz, Bool.false_eq_true, if_false]
    rw [e]; exact no _ rfl

theorem eq_parcel (z : Int) (d : ByteArray) (l : List ByteArray) (hl : l.length ≤ 1048576) : Ev (fun k => laws_eqParcel.f k z d l z d l) true := by
  unfold laws_eqParcel.f
  simp only [if_true]
  refine Ev.bind (eq_strs l hl) ?_
  simp only [if_true]
  exact Ev.now _

def emptyS (n : Nat) : List ByteArray := List.replicate n (⟨#[]⟩ : ByteArray)
/-- A new parcel: what both tell. -/
def newP (z : Int) (d : ByteArray) : Int × ByteArray × List ByteArray × Bool :=
  if pOk z d (emptyS ((z + 15) / 16).toNat) = true ∧ 0 ≤ z ∧ z ≤ 1000 then (z, d, emptyS ((z + 15) / 16).toNat, true) else (0, ⟨#[]⟩, [], false)
theorem pOk_size {z : Int} {d : ByteArray} {l : List ByteArray} (h : pOk z d l = true) : 0 ≤ z ∧ z ≤ 1000 := by
  unfold pOk at h
  rw [Bool.and_eq_true] at h
  have := of_decide_eq_true h.1
  exact ⟨this.1, this.2.1⟩
theorem s_newl (z : Int) (d : ByteArray) (hz : 0 ≤ z ∧ z ≤ 1000) : ∀ (q i : Nat), i + q = ((z + 15) / 16).toNat → Ev (fun k => spec_ParcelNew.l0 k z (i : Int) z d (emptyS i)) (newP z d) := by
  intro q
  induction q with
  | zero =>
    intro i h
    refine Ev.step (fun k => by rw [spec_ParcelNew.l0]) ?_
    rw [s_PartsOf]
    simp only [Option.bind_some, if_pos hz, if_neg (show ¬ (i : Int) < (z + 15) / 16 by omega)]
    have hl : (emptyS i).length = i := by simp [emptyS]
    refine Ev.bind (s_ParcelOk z d (emptyS i) (by omega)) ?_
    obtain rfl : i = ((z + 15) / 16).toNat := by omega
    unfold newP
    by_cases hp : pOk z d (emptyS ((z + 15) / 16).toNat) = true
    · simp only [if_pos hp]
      rw [if_pos ⟨hp, hz⟩]
      exact Ev.now _
    · simp only [if_neg hp]
      rw [if_neg (fun h => hp h.1)]
      exact Ev.now _
  | succ q ih =>
    intro i h
    refine Ev.step (fun k => by rw [spec_ParcelNew.l0]) ?_
    rw [s_PartsOf]
    have hl : (emptyS i).length = i := by simp [emptyS]
    simp only [Option.bind_some, if_pos hz, if_pos (show (i : Int) < (z + 15) / 16 by omega), if_pos (show (emptyS i).length < 8796093022208 by omega)]
    rw [inc i (by omega), show emptyS i ++ [(⟨#[]⟩ : ByteArray)] = emptyS (i + 1) by unfold emptyS; rw [List.replicate_succ']]
    exact ih (i + 1) (by omega)
theorem s_ParcelNew (z : Int) (d : ByteArray) : Ev (fun k => spec_ParcelNew.f k z d) (newP z d) := by
  unfold spec_ParcelNew.f
  by_cases hz : 0 ≤ z ∧ z ≤ 1000
  · exact s_newl z d hz ((z + 15) / 16).toNat 0 (by omega)
  · refine Ev.step (fun k => by rw [spec_ParcelNew.l0]) ?_
    rw [s_PartsOf]
    simp only [Option.bind_some, if_neg hz, if_neg (show ¬ (0 : Int) < -1 by omega)]
    refine Ev.bind (s_ParcelOk z d [] (by simp)) ?_
    have hp : ¬ pOk z d [] = true := fun h => hz (pOk_size h)
    simp only [if_neg hp]
    unfold newP
    rw [if_neg (fun h => hz h.2)]
    exact Ev.now _
theorem i_ParcelNew (z : Int) (d : ByteArray) : Ev (fun k => impl_ParcelNew.f k z d) (newP z d) := by
  unfold impl_ParcelNew.f
  rw [i_PartsOf]
  simp only [Option.bind_some]
  have hm : ∀ x : Int, mx x 0 = max x 0 := by intro x; unfold mx; omega
  simp only [hm]
  by_cases hz : 0 ≤ z ∧ z ≤ 1000
  · simp only [if_pos hz, if_pos (show 0 ≤ max ((z + 15) / 16) 0 by omega), if_pos (show (max ((z + 15) / 16) 0).toNat ≤ 17592186044416 by omega)]
    rw [show max ((z + 15) / 16) 0 = (z + 15) / 16 by omega]
    have hl : (emptyS ((z + 15) / 16).toNat).length = ((z + 15) / 16).toNat := by simp [emptyS]
    refine Ev.bind (i_ParcelOk z d (emptyS ((z + 15) / 16).toNat) (by omega)) ?_
    unfold newP
    by_cases hp : pOk z d (emptyS ((z + 15) / 16).toNat) = true
    · simp only [if_pos hp]
      rw [if_pos ⟨hp, hz⟩]
      exact Ev.now _
    · simp only [if_neg hp]
      rw [if_neg (fun h => hp h.1)]
      exact Ev.now _
  · simp only [if_neg hz, if_pos (show 0 ≤ max (-1 : Int) 0 by omega), if_pos (show (max (-1 : Int) 0).toNat ≤ 17592186044416 by omega)]
    rw [show (max (-1 : Int) 0).toNat = 0 by omega]
    refine Ev.bind (i_ParcelOk z d (List.replicate 0 (⟨#[]⟩ : ByteArray)) (by simp)) ?_
    have hp : ¬ pOk z d (List.replicate 0 (⟨#[]⟩ : ByteArray)) = true := fun h => hz (pOk_size h)
    simp only [if_neg hp]
    unfold newP
    rw [if_neg (fun h => hz h.2)]
    exact Ev.now _
theorem newP_len (z : Int) (d : ByteArray) : (newP z d).2.2.1.length ≤ 100 := by
  unfold newP
  by_cases h : pOk z d (emptyS ((z + 15) / 16).toNat) = true ∧ 0 ≤ z ∧ z ≤ 1000
  · rw [if_pos h]; simp only [emptyS, List.length_replicate]; omega
  · rw [if_neg h]; simp

theorem mark_parcel (z : Int) (d : ByteArray) (l : List ByteArray) (hl : l.length ≤ 1048576) : Ev (fun k => laws_markParcel.f k z d l 1) (((1 + l.length : Nat) : Int), (List.range l.length).map fun j => mt (1 + j)) := by
  unfold laws_markParcel.f
  exact Ev.bind (mark_strs l 1 (by omega) (by omega) hl) (Ev.now _)

theorem held_parcel (z : Int) (d : ByteArray) (n : Nat) (hl : n ≤ 1048576) : Ev (fun k => laws_heldParcel.f k z d ((List.range n).map fun j => mt (1 + j)) 1) ((1 + n : Nat) : Int) := by
  unfold laws_heldParcel.f
  refine Ev.bind (held_strs n 1 (by omega) (by omega) hl) ?_
  simp only [if_neg (show ¬ ((1 + n : Nat) : Int) < 0 by omega)]
  exact Ev.now _

theorem FnExactParcelNew : laws_FnExactParcelNew.Pure := by
  intro z d _ hd
  refine Ev.rounds ?_
  unfold laws_FnExactParcelNew.f
  by_cases hs : (d.size : Int) > 1048576
  · simp only [if_pos hs]; exact Ev.now _
  · simp only [if_neg hs]
    refine Ev.bind (s_ParcelNew z d) (Ev.bind (i_ParcelNew z d) ?_)
    have hl := newP_len z d
    have hi := i_ParcelNew z d
    revert hl hi
    generalize newP z d = p
    obtain ⟨p1, p2, p3, p4⟩ := p
    intro hl hi
    have hl : p3.length ≤ 100 := hl
    refine Ev.bind (eq_parcel p1 p2 p3 (by omega)) ?_
    simp only [if_true]
    have go : Ev (fun k => laws_FnExactParcelNew.j0 k z d p4 false p1 p2 p3 p1 p2 p3) true := by
      refine Ev.step (fun k => by rw [laws_FnExactParcelNew.j0]) ?_
      simp only [Bool.false_eq_true, if_false]
      refine Ev.bind (mark_parcel p1 p2 p3 (by omega)) (Ev.bind (held_parcel p1 p2 p3.length (by omega)) ?_)
      simp only [if_neg (show ¬ ((1 + p3.length : Nat) : Int) < 0 by omega), if_true]
      refine Ev.bind hi (Ev.bind (eq_parcel p1 p2 p3 (by omega)) ?_)
      simp only [if_true]
      have last : Ev (fun k => laws_FnExactParcelNew.j1 k ((1 + p3.length : Nat) : Int) false p1 p2 ((List.range p3.length).map fun j => mt (1 + j))) true := by
        refine Ev.step (fun k => by rw [laws_FnExactParcelNew.j1]) ?_
        simp only [Bool.false_eq_true, if_false]
        refine Ev.bind (held_parcel p1 p2 p3.length (by omega)) ?_
        simp only [if_neg (show ¬ ((1 + p3.length : Nat) : Int) < 0 by omega), if_true]
        exact Ev.now _
      cases p4 <;> simp only [Bool.false_eq_true, if_false, if_true, Bool.not_true] <;> exact last
    cases p4 <;> simp only [Bool.false_eq_true, if_false, if_true, Bool.not_true] <;> exact go

end Go.Proofs.Ytkjfcgnhpalhnaa.Pure
