/- The law FnExactParcelLacks answers true for every argument. No condition. -/
import Derived.Test.YtkjfcgnhpalhnaaQFnExactParcelLacksx4
namespace Go.Proofs.Ytkjfcgnhpalhnaa.Pure
open Go.RowKit Go.Proofs.Ytkjfcgnhpalhnaa.QFnExactParcelLacks Go.Proofs.YtkjfcgnhpalhnaaW.PrintWords Go.Proofs.YtkjfcgnhpalhnaaW.PrintLast
set_option linter.unusedVariables false
set_option linter.unusedSimpArgs false

theorem w64 (n : Int) (h0 : -9223372036854775808 ≤ n) (h1 : n ≤ 9223372036854775807) : wrap64 n = n := by unfold wrap64; omega
theorem tmn {a : Int} (b : Int) (h : 0 ≤ a) : Int.tmod a b = a % b := Int.tmod_eq_emod_of_nonneg h
theorem wfi {x : Int} (h : (Lit.int .i64 x).wf = true) : -9223372036854775808 ≤ x ∧ x ≤ 9223372036854775807 := by
  simp [Lit.wf, IntKind.min, IntKind.max, IntKind.signed, IntKind.bits] at h
  omega
theorem wf8 {x : Int} (h : (Lit.int .u8 x).wf = true) : 0 ≤ x ∧ x ≤ 255 := by
  simp [Lit.wf, IntKind.min, IntKind.max, IntKind.signed, IntKind.bits] at h
  omega
theorem evc {α : Type} {g : Nat → Option α} {r : α} (h : ∀ k, g k = some r) : Ev g r := ⟨0, fun k _ => h k⟩
theorem getD_mem {α : Type} (l : List α) (n : Nat) (z : α) (h : n < l.length) : l.getD n z ∈ l := by
  rw [List.getD_eq_getElem?_getD, List.getElem?_eq_getElem h]
  exact List.getElem_mem h
theorem ex_step {α : Type} {g f : Nat → Option α} (h : ∀ k, g (k + 1) = f k) (e : ∃ r, Ev f r) : ∃ r, Ev g r := by
  obtain ⟨r, e⟩ := e
  exact ⟨r, Ev.step h e⟩
theorem ex_bind {α β : Type} {g : Nat → Option α} {f : Nat → α → Option β} {a : α} (h : Ev g a) (e : ∃ r, Ev (fun n => f n a) r) : ∃ r, Ev (fun n => (g n).bind (f n)) r := by
  obtain ⟨r, e⟩ := e
  exact ⟨r, Ev.bind h e⟩

theorem up_ind (n : Nat) (P : Nat → Prop) (he : P n) (hs : ∀ i, i < n → P (i + 1) → P i) (i : Nat) (h : i ≤ n) : P i := by
  have key : ∀ (d i : Nat), i + d = n → P i := by
    intro d
    induction d with
    | zero => intro i h; obtain rfl : i = n := by omega
              exact he
    | succ d ih => intro i h; exact hs i (by omega) (ih (i + 1) (by omega))
  exact key (n - i) i (by omega)
theorem eq_fill {β : Type} (y : Nat → β) (n : Nat) (ys : List β) (hl : ys.length = n) (h : ∀ j, j < n → ys[j]? = some (y j)) : ys = (List.range n).map y := by
  apply List.ext_getElem?
  intro j
  by_cases hj : j < n
  · rw [h j hj]; simp [hj]
  · rw [List.getElem?_eq_none (by omega), List.getElem?_eq_none (by simp; omega)]
theorem map_rd {α β : Type} (l : List α) (z : α) (f : α → β) : (List.range l.length).map (fun i => f (l.getD i z)) = l.map f := by
  apply List.ext_getElem?
  intro j
  by_cases hj : j < l.length
  · simp [hj, List.getD]
  · rw [List.getElem?_eq_none (by simp; omega), List.getElem?_eq_none (by simp; omega)]
theorem set_fill {β : Type} (y : Nat → β) (i : Nat) (ys : List β) (h : ∀ j, j < i → ys[j]? = some (y j)) (hi : i < ys.length) : ∀ j, j < i + 1 → (ys.set i (y i))[j]? = some (y j) := by
  intro j hj
  by_cases e : j = i
  · subst e; rw [List.getElem?_set_self hi]
  · rw [List.getElem?_set_ne (by omega)]; exact h j (by omega)
theorem inc (i : Nat) (h : i < 1000000000000000) : wrap64 ((i : Int) + 1) = ((i + 1 : Nat) : Int) := by rw [w64 _ (by omega) (by omega)]; omega

theorem bal (s : ByteArray) : s.toList = s.data.toList := ByteArray.toList_eq s
theorem bal_nil (s : ByteArray) : s.toList = ([] : List UInt8) ↔ s.size = 0 := by
  rw [bal, ← data_length]
  exact List.length_eq_zero_iff.symm

theorem to_strs (l : List ByteArray) (hl : l.length ≤ 1048576) : Ev (fun k => laws_toStringS.f k l) l := by
  unfold laws_toStringS.f
  simp only [if_pos (show 0 ≤ (l.length : Int) by omega), if_pos (show ((l.length : Int) : Int).toNat ≤ 17592186044416 by omega)]
  have key := up_ind l.length (fun i => ∀ ys : List ByteArray, ys.length = l.length → (∀ j, j < i → ys[j]? = some (id (l.getD j ByteArray.empty))) → Ev (fun k => laws_toStringS.l0 k l ys (i : Int)) l)
    (by
      intro ys hy h
      refine Ev.step (fun k => by rw [laws_toStringS.l0]) ?_
      simp only [Int.lt_irrefl, if_false]
      rw [eq_fill (fun j => id (l.getD j ByteArray.empty)) l.length ys hy h, map_rd, List.map_id]
      exact Ev.now _)
    (by
      intro i hi ih ys hy h
      refine Ev.step (fun k => by rw [laws_toStringS.l0]) ?_
      simp only [if_pos (show (i : Int) < (l.length : Int) by omega), if_pos (show 0 ≤ (i : Int) by omega), if_pos (show (i : Int) < (ys.length : Int) by omega)]
      rw [inc i (by omega)]
      exact ih _ (by rw [List.length_set]; exact hy) (set_fill (fun j => id (l.getD j ByteArray.empty)) i ys h (by omega)))
  exact key 0 (by omega) (List.replicate ((l.length : Int) : Int).toNat (⟨#[]⟩ : ByteArray)) (by simp) (fun j hj => by omega)

theorem eq_strs (l : List ByteArray) (hl : l.length ≤ 1048576) : Ev (fun k => laws_eqStringS.f k l l) true := by
  unfold laws_eqStringS.f
  simp only [if_true]
  have key := up_ind l.length (fun i => Ev (fun k => laws_eqStringS.l0 k l l (i : Int)) true)
    (by
      refine Ev.step (fun k => by rw [laws_eqStringS.l0]) ?_
      simp only [Int.lt_irrefl, if_false]
      exact Ev.now _)
    (by
      intro i hi ih
      refine Ev.step (fun k => by rw [laws_eqStringS.l0]) ?_
      simp only [if_pos (show (i : Int) < (l.length : Int) by omega), if_pos (show 0 ≤ (i : Int) by omega), if_true]
      rw [inc i (by omega)]
      exact ih)
  exact key 0 (by omega)

theorem sz_strs (l : List ByteArray) (a : Int) (ha : 0 ≤ a) (ha2 : a ≤ 1048576) (hl : l.length ≤ 9223372036854775807) (hs : ∀ x ∈ l, x.size ≤ 9223372036854775807) : ∃ r, Ev (fun k => laws_szStringS.f k l a) r ∧ (0 ≤ r → l.length ≤ 1048576) := by
  unfold laws_szStringS.f
  rw [w64 (a - (l.length : Int)) (by omega) (by omega)]
  by_cases h : a - (l.length : Int) < 0
  · simp only [if_pos h]; exact ⟨_, Ev.now _, fun h => by omega⟩
  · simp only [if_neg h]
    have key := up_ind l.length (fun i => ∀ b : Int, 0 ≤ b → b ≤ 1048576 → ∃ r, Ev (fun k => laws_szStringS.l0 k l b (i : Int)) r)
      (by
        intro b h1 h2
        refine ex_step (fun k => by rw [laws_szStringS.l0]) ?_
        simp only [Int.lt_irrefl, if_false]
        exact ⟨_, Ev.now _⟩)
      (by
        intro i hi ih b h1 h2
        refine ex_step (fun k => by rw [laws_szStringS.l0]) ?_
        have hx : (rdOf ByteArray.empty l (i : Int)).size ≤ 9223372036854775807 := hs _ (getD_mem _ _ _ (by omega))
        simp only [if_pos (show (i : Int) < (l.length : Int) by omega), if_pos (show 0 ≤ (i : Int) by omega)]
        rw [w64 (b - ((rdOf ByteArray.empty l (i : Int)).size : Int)) (by omega) (by omega), inc i (by omega)]
        by_cases h3 : b - ((rdOf ByteArray.empty l (i : Int)).size : Int) < 0
        · simp only [if_pos h3]; exact ⟨_, Ev.now _⟩
        · simp only [if_neg h3]; exact ih _ (by omega) (by omega))
    obtain ⟨r, e⟩ := key 0 (by omega) (a - (l.length : Int)) (by omega) (by omega)
    exact ⟨r, e, fun _ => by omega⟩

theorem strOfNums_size (l : List Int) : (strOfNums l).size = l.length := by
  unfold strOfNums
  simp [ByteArray.size]
theorem mark_l : ∀ (m : Nat) (x : Int) (s : ByteArray), x ≤ m → 0 ≤ x → x ≤ 1000000000000 → s.size + m ≤ 1000000000000000 → ∃ t, Ev (fun k => laws_markText.l0 k x s) t := by
  intro m
  induction m with
  | zero =>
    intro x s h1 h2 h3 h4
    refine ex_step (fun k => by rw [laws_markText.l0]) ?_
    simp only [if_neg (show ¬ x > 0 by omega), if_pos (show 1 + s.size ≤ 9223372036854775807 by omega)]
    exact ⟨_, Ev.now _⟩
  | succ m ih =>
    intro x s h1 h2 h3 h4
    refine ex_step (fun k => by rw [laws_markText.l0]) ?_
    by_cases hx : x > 0
    · have hz : (strOfNums [(wrap64 (48 + (Int.tmod x 10))) % 256]).size = 1 := strOfNums_size _
      simp only [if_pos hx, Option.bind_some, if_pos (show (strOfNums [(wrap64 (48 + (Int.tmod x 10))) % 256]).size + s.size ≤ 9223372036854775807 by omega)]
      rw [Int.tdiv_eq_ediv_of_nonneg h2, w64 (x / 10) (by omega) (by omega)]
      exact ih _ _ (by omega) (by omega) (by omega) (by rw [ByteArray.size_append, hz]; omega)
    · simp only [if_neg hx, if_pos (show 1 + s.size ≤ 9223372036854775807 by omega)]
      exact ⟨_, Ev.now _⟩
theorem mark_ex (n : Nat) : ∃ t, 1 ≤ n → n ≤ 100000000000 → Ev (fun k => laws_markText.f k (n : Int)) t := by
  by_cases h : 1 ≤ n ∧ n ≤ 100000000000
  · obtain ⟨t, e⟩ := mark_l n (n : Int) (⟨#[]⟩ : ByteArray) (by omega) (by omega) (by omega) (by show 0 + n ≤ _; omega)
    refine ⟨t, fun _ _ => ?_⟩
    unfold laws_markText.f
    simp only [if_neg (show ¬ (n : Int) ≤ 0 by omega)]
    exact e
  · exact ⟨ByteArray.empty, fun h1 h2 => absurd ⟨h1, h2⟩ h⟩
/-- The text that marks n. -/
noncomputable def mt (n : Nat) : ByteArray := Classical.choose (mark_ex n)
theorem mt_ev (n : Nat) (h1 : 1 ≤ n) (h2 : n ≤ 100000000000) : Ev (fun k => laws_markText.f k (n : Int)) (mt n) := Classical.choose_spec (mark_ex n) h1 h2

theorem getD_range {β : Type} (y : Nat → β) (n : Nat) (z : β) (i : Nat) (h : i < n) : ((List.range n).map y).getD i z = y i := by simp [List.getD, h]
theorem mark_strs (l : List ByteArray) (c : Nat) (hc : 1 ≤ c) (hc2 : c ≤ 10000000000) (hl : l.length ≤ 1048576) : Ev (fun k => laws_markStringS.f k l (c : Int)) (((c + l.length : Nat) : Int), (List.range l.length).map fun j => mt (c + j)) := by
  unfold laws_markStringS.f
  have key := up_ind l.length (fun i => ∀ ys : List ByteArray, ys.length = l.length → (∀ j, j < i → ys[j]? = some (mt (c + j))) → Ev (fun k => laws_markStringS.l0 k ys ((c + i : Nat) : Int) (i : Int)) (((c + l.length : Nat) : Int), (List.range l.length).map fun j => mt (c + j)))
    (by
      intro ys hy h
      refine Ev.step (fun k => by rw [laws_markStringS.l0]) ?_
      simp only [if_neg (show ¬ (l.length : Int) < (ys.length : Int) by omega)]
      rw [eq_fill (fun j => mt (c + j)) l.length ys hy h]
      exact Ev.now _)
    (by
      intro i hi ih ys hy h
      refine Ev.step (fun k => by rw [laws_markStringS.l0]) ?_
      simp only [if_pos (show (i : Int) < (ys.length : Int) by omega), if_pos (show 0 ≤ (i : Int) by omega)]
      refine Ev.bind (mt_ev (c + i) (by omega) (by omega)) ?_
      rw [inc i (by omega), inc (c + i) (by omega)]
      exact ih _ (by rw [List.length_set]; exact hy) (set_fill (fun j => mt (c + j)) i ys h (by omega)))
  exact key 0 (by omega) l rfl (fun j hj => by omega)

theorem i_within (n a b : Int) : impl_within.f n a b = some (decide (a ≤ n ∧ n ≤ b)) := by
  unfold impl_within.f
  by_cases h : n ≥ a
  · rw [if_pos h]; simp [show a ≤ n from h]
  · rw [if_neg h]; simp [show ¬ a ≤ n from h]

theorem s_In (n a b : Int) : spec_l1In.f n a b = some (decide (a ≤ n ∧ n ≤ b)) := by
  unfold spec_l1In.f
  by_cases h : n ≥ a
  · rw [if_pos h]; simp [show a ≤ n from h]
  · rw [if_neg h]; simp [show ¬ a ≤ n from h]

theorem s_PartsOf (n : Int) : spec_PartsOf.f n = some (if 0 ≤ n ∧ n ≤ 1000 then (n + 15) / 16 else -1) := by
  unfold spec_PartsOf.f
  rw [s_In]
  simp only [Option.bind_some]
  by_cases h : 0 ≤ n ∧ n ≤ 1000
  · rw [w64 (n + 16) (by omega) (by omega), w64 (n + 16 - 1) (by omega) (by omega)]
    have e : Int.tdiv (n + 16 - 1) 16 = (n + 15) / 16 := by rw [Int.tdiv_eq_ediv_of_nonneg (by omega)]; omega
    rw [e, w64 _ (by omega) (by omega)]
    simp [h]
  · simp [h]
theorem i_PartsOf (n : Int) : impl_PartsOf.f n = some (if 0 ≤ n ∧ n ≤ 1000 then (n + 15) / 16 else -1) := by
  unfold impl_PartsOf.f impl_isSize.f
  rw [i_within]
  simp only [Option.bind_some]
  by_cases h : 0 ≤ n ∧ n ≤ 1000
  · rw [w64 (n + 16) (by omega) (by omega), w64 (n + 16 - 1) (by omega) (by omega)]
    have e : Int.tdiv (n + 16 - 1) 16 = (n + 15) / 16 := by rw [Int.tdiv_eq_ediv_of_nonneg (by omega)]; omega
    rw [e, w64 _ (by omega) (by omega)]
    simp [h]
  · simp [h]

theorem to_parcel (z : Int) (d : ByteArray) (l : List ByteArray) (hl : l.length ≤ 1048576) : Ev (fun k => laws_toParcel.f k z d l) (z, d, l) := by
  unfold laws_toParcel.f
  exact Ev.bind (to_strs l hl) (Ev.now _)

theorem eq_parcel (z : Int) (d : ByteArray) (l : List ByteArray) (hl : l.length ≤ 1048576) : Ev (fun k => laws_eqParcel.f k z d l z d l) true := by
  unfold laws_eqParcel.f
  simp only [if_true]
  refine Ev.bind (eq_strs l hl) ?_
  simp only [if_true]
  exact Ev.now _

theorem sz_parcel (z : Int) (d : ByteArray) (l : List ByteArray) (hd : d.size ≤ 9223372036854775807) (hl : l.length ≤ 9223372036854775807) (hs : ∀ x ∈ l, x.size ≤ 9223372036854775807) : ∃ r, Ev (fun k => laws_szParcel.f k z d l 1048576) r ∧ (¬ r < 0 → l.length ≤ 1048576) := by
  unfold laws_szParcel.f
  rw [w64 (1048576 - (d.size : Int)) (by omega) (by omega)]
  by_cases h : 1048576 - (d.size : Int) < 0
  · simp only [if_pos h]; exact ⟨_, Ev.now _, fun h => by omega⟩
  · simp only [if_neg h]
    obtain ⟨r, e, hr⟩ := sz_strs l (1048576 - (d.size : Int)) (by omega) (by omega) hl hs
    by_cases h0 : r < 0
    · exact ⟨-1, Ev.bind e (by simp only [if_pos h0]; exact Ev.now _), fun h => by omega⟩
    · exact ⟨r, Ev.bind e (by simp only [if_neg h0]; exact Ev.now _), fun _ => hr (by omega)⟩

/-- Each part from i on is empty or as long as that part is. -/
def pk (z : Int) (l : List ByteArray) : Nat → Nat → Bool
  | 0, _ => true
  | d + 1, i => (decide ((rdOf ByteArray.empty l (i : Int)).size = 0) || decide (((rdOf ByteArray.empty l (i : Int)).size : Int) = min 16 (z - (i : Int) * 16))) && pk z l d (i + 1)
def pOk (z : Int) (d : ByteArray) (l : List ByteArray) : Bool := decide (0 ≤ z ∧ z ≤ 1000 ∧ d.size = 32 ∧ (l.length : Int) = (z + 15) / 16) && pk z l l.length 0
theorem s_Long (z i : Int) (h1 : 0 ≤ z ∧ z ≤ 1000) (h2 : 0 ≤ i ∧ i ≤ 1000000) : spec_l9Long.f z i = some (min 16 (z - i * 16)) := by
  unfold spec_l9Long.f spec_l1Min.f
  rw [w64 (i * 16) (by omega) (by omega), w64 (z - i * 16) (by omega) (by omega)]
  by_cases h : 16 < z - i * 16
  · rw [if_pos h]; simp only [Option.bind_some]; rw [Int.min_eq_left (by omega)]
  · rw [if_neg h]; simp only [Option.bind_some]; rw [Int.min_eq_right (by omega)]
theorem s_okl (z : Int) (d : ByteArray) (l : List ByteArray) (hz : 0 ≤ z ∧ z ≤ 1000) (hl : l.length ≤ 1000) : ∀ (q i : Nat), i + q = l.length → Ev (fun k => spec_ParcelOk.l0 k (i : Int) z d l) (pk z l q i) := by
  intro q
  induction q with
  | zero =>
    intro i h
    refine Ev.step (fun k => by rw [spec_ParcelOk.l0]) ?_
    simp only [if_neg (show ¬ (i : Int) < (l.length : Int) by omega)]
    exact Ev.now _
  | succ q ih =>
    intro i h
    refine Ev.step (fun k => by rw [spec_ParcelOk.l0]) ?_
    simp only [if_pos (show (i : Int) < (l.length : Int) by omega), if_pos (show 0 ≤ (i : Int) by omega), pk]
    rw [inc i (by omega), s_Long z i hz (by omega)]
    by_cases h0 : (rdOf ByteArray.empty l (i : Int)).size = 0
    · simp only [if_pos (show ((rdOf ByteArray.empty l (i : Int)).size : Int) = 0 by omega), decide_eq_true h0, Bool.true_or, Bool.true_and]
      exact ih (i + 1) (by omega)
    · simp only [if_neg (show ¬ ((rdOf ByteArray.empty l (i : Int)).size : Int) = 0 by omega), decide_eq_false h0, Bool.false_or, Option.bind_some]
      by_cases h1 : ((rdOf ByteArray.empty l (i : Int)).size : Int) = min 16 (z - (i : Int) * 16)
      · simp only [if_pos h1, decide_eq_true h1, Bool.true_and]; exact ih (i + 1) (by omega)
      · simp only [if_neg h1, decide_eq_false h1, Bool.false_and]; exact Ev.now _
theorem s_ParcelOk (z : Int) (d : ByteArray) (l : List ByteArray) (hl : l.length ≤ 1048576) : Ev (fun k => spec_ParcelOk.f k z d l) (pOk z d l) := by
  unfold spec_ParcelOk.f
  rw [s_PartsOf]
  simp only [Option.bind_some]
  have no : ∀ b : Bool, b = true → Ev (fun k => spec_ParcelOk.j0 k b z d l) false := by
    intro b hb
    refine Ev.step (fun k => by rw [spec_ParcelOk.j0]) ?_
    simp only [hb, if_true]
    exact Ev.now _
  by_cases hz : 0 ≤ z ∧ z ≤ 1000
  · simp only [if_pos hz, if_neg (show ¬ (z + 15) / 16 < 0 by omega)]
    by_cases hd : (d.size : Int) = 32
    · simp only [if_pos hd]
      by_cases hn : (l.length : Int) = (z + 15) / 16
      · have e : pOk z d l = pk z l l.length 0 := by unfold pOk; rw [decide_eq_true ⟨hz.1, hz.2, by omega, hn⟩, Bool.true_and]
        rw [e]
        refine Ev.step (fun k => by rw [spec_ParcelOk.j0]) ?_
        simp only [show ((l.length : Int) != (z + 15) / 16) = false by simp [hn], Bool.false_eq_true, if_false]
        exact s_okl z d l hz (by omega) l.length 0 (by omega)
      · have e : pOk z d l = false := by unfold pOk; rw [decide_eq_false (fun h => hn h.2.2.2), Bool.false_and]
        rw [e]; exact no _ (by simp [hn])
    · have e : pOk z d l = false := by unfold pOk; rw [decide_eq_false (fun h => by have := h.2.2.1; omega), Bool.false_and]
      simp only [if_neg hd]
      rw [e]; exact no _ rfl
  · have e : pOk z d l = false := by unfold pOk; rw [decide_eq_false (fun h => hz ⟨h.1, h.2.1⟩), Bool.false_and]
    simp only [if_neg hz, if_pos (show (-1 : Int) < 0 by omega)]
    rw [e]; exact no _ rfl
theorem i_Long (z i : Int) (h1 : 0 ≤ z ∧ z ≤ 1000) (h2 : 0 ≤ i ∧ i ≤ 1000000) : impl_partLong.f z i = some (min 16 (z - i * 16)) := by
  unfold impl_partLong.f mn
  rw [w64 (i * 16) (by omega) (by omega), w64 (z - i * 16) (by omega) (by omega)]
  congr 1
  omega
theorem i_okl (z : Int) (d : ByteArray) (l : List ByteArray) (hz : 0 ≤ z ∧ z ≤ 1000) (hl : l.length ≤ 1000) : ∀ (q i : Nat), i + q = l.length → Ev (fun k => impl_ParcelOk.l0 k l (l.length : Int) (i : Int) z d l) (pk z l q i) := by
  intro q
  induction q with
  | zero =>
    intro i h
    refine Ev.step (fun k => by rw [impl_ParcelOk.l0]) ?_
    simp only [if_neg (show ¬ (i : Int) < (l.length : Int) by omega)]
    exact Ev.now _
  | succ q ih =>
    intro i h
    refine Ev.step (fun k => by rw [impl_ParcelOk.l0]) ?_
    simp only [if_pos (show (i : Int) < (l.length : Int) by omega), if_pos (show 0 ≤ (i : Int) by omega), pk, bal_nil]
    rw [inc i (by omega), i_Long z i hz (by omega)]
    by_cases h0 : (rdOf ByteArray.empty l (i : Int)).size = 0
    · simp only [if_pos h0, decide_eq_true h0, Bool.true_or, Bool.true_and]
      exact ih (i + 1) (by omega)
    · simp only [if_neg h0, decide_eq_false h0, Bool.false_or, Option.bind_some]
      by_cases h1 : ((rdOf ByteArray.empty l (i : Int)).size : Int) = min 16 (z - (i : Int) * 16)
      · simp only [if_pos h1, decide_eq_true h1, Bool.true_and]; exact ih (i + 1) (by omega)
      · simp only [if_neg h1, decide_eq_false h1, Bool.false_and]; exact Ev.now _
theorem i_ParcelOk (z : Int) (d : ByteArray) (l : List ByteArray) (hl : l.length ≤ 1048576) : Ev (fun k => impl_ParcelOk.f k z d l) (pOk z d l) := by
  unfold impl_ParcelOk.f
  have hs : impl_isSize.f z = some (decide (0 ≤ z ∧ z ≤ 1000)) := by unfold impl_isSize.f; rw [i_within]; rfl
  rw [hs, i_PartsOf]
  simp only [Option.bind_some]
  have no : ∀ b : Bool, b = true → Ev (fun k => impl_ParcelOk.j0 k b z d l) false := by
    intro b hb
    refine Ev.step (fun k => by rw [impl_ParcelOk.j0]) ?_
    simp only [hb, if_true]
    exact Ev.now _
  by_cases hz : 0 ≤ z ∧ z ≤ 1000
  · simp only [decide_eq_true hz, if_true, if_pos hz]
    by_cases hd : (d.size : Int) = 32
    · simp only [if_pos hd]
      by_cases hn : (l.length : Int) = (z + 15) / 16
      · have e : pOk z d l = pk z l l.length 0 := by unfold pOk; rw [decide_eq_true ⟨hz.1, hz.2, by omega, hn⟩, Bool.true_and]
        rw [e]
        refine Ev.step (fun k => by rw [impl_ParcelOk.j0]) ?_
        simp only [show ((l.length : Int) != (z + 15) / 16) = false by simp [hn], Bool.false_eq_true, if_false]
        exact i_okl z d l hz (by omega) l.length 0 (by omega)
      · have e : pOk z d l = false := by unfold pOk; rw [decide_eq_false (fun h => hn h.2.2.2), Bool.false_and]
        rw [e]; exact no _ (by simp [hn])
    · have e : pOk z d l = false := by unfold pOk; rw [decide_eq_false (fun h => by have := h.2.2.1; omega), Bool.false_and]
      simp only [if_neg hd]
      rw [e]; exact no _ rfl
  · have e : pOk z d l = false := by unfold pOk; rw [decide_eq_false (fun h => hz ⟨h.1, h.2.1⟩), Bool.false_and]
    simp only [decide_eq_false hz, Bool.false_eq_true, if_false]
    rw [e]; exact no _ rfl

theorem mark_parcel (z : Int) (d : ByteArray) (l : List ByteArray) (hl : l.length ≤ 1048576) : Ev (fun k => laws_markParcel.f k z d l 1) (((1 + l.length : Nat) : Int), (List.range l.length).map fun j => mt (1 + j)) := by
  unfold laws_markParcel.f
  exact Ev.bind (mark_strs l 1 (by omega) (by omega) hl) (Ev.now _)

theorem eq_ints (l : List Int) (hl : l.length ≤ 10000000000000) : Ev (fun k => laws_eqIntS.f k l l) true := by
  unfold laws_eqIntS.f
  simp only [if_true]
  have key := up_ind l.length (fun i => Ev (fun k => laws_eqIntS.l0 k l l (i : Int)) true)
    (by
      refine Ev.step (fun k => by rw [laws_eqIntS.l0]) ?_
      simp only [Int.lt_irrefl, if_false]
      exact Ev.now _)
    (by
      intro i hi ih
      refine Ev.step (fun k => by rw [laws_eqIntS.l0]) ?_
      simp only [if_pos (show (i : Int) < (l.length : Int) by omega), if_pos (show 0 ≤ (i : Int) by omega), if_true]
      rw [inc i (by omega)]
      exact ih)
  exact key 0 (by omega)
def im (j : Nat) : Int := ((1 + j : Nat) : Int)
theorem mark_ints (l : List Int) (hl : l.length ≤ 10000000000000) : Ev (fun k => laws_markIntS.f k l 1) (((1 + l.length : Nat) : Int), (List.range l.length).map im) := by
  unfold laws_markIntS.f
  have key := up_ind l.length (fun i => ∀ ys : List Int, ys.length = l.length → (∀ j, j < i → ys[j]? = some (im j)) → Ev (fun k => laws_markIntS.l0 k ys ((1 + i : Nat) : Int) (i : Int)) (((1 + l.length : Nat) : Int), (List.range l.length).map im))
    (by
      intro ys hy h
      refine Ev.step (fun k => by rw [laws_markIntS.l0]) ?_
      simp only [if_neg (show ¬ (l.length : Int) < (ys.length : Int) by omega)]
      rw [eq_fill im l.length ys hy h]
      exact Ev.now _)
    (by
      intro i hi ih ys hy h
      refine Ev.step (fun k => by rw [laws_markIntS.l0]) ?_
      simp only [if_pos (show (i : Int) < (ys.length : Int) by omega), if_pos (show 0 ≤ (i : Int) by omega)]
      rw [inc i (by omega), inc (1 + i) (by omega)]
      exact ih _ (by rw [List.length_set]; exact hy) (set_fill im i ys h (by omega)))
  exact key 0 (by omega) l rfl (fun j hj => by omega)
theorem held_ints (n : Nat) (hl : n ≤ 10000000000000) : Ev (fun k => laws_heldIntS.f k ((List.range n).map im) 1) ((1 + n : Nat) : Int) := by
  unfold laws_heldIntS.f
  have hlen : ((List.range n).map im).length = n := by simp
  have key := up_ind n (fun i => Ev (fun k => laws_heldIntS.l0 k ((List.range n).map im) ((1 + i : Nat) : Int) (i : Int)) ((1 + n : Nat) : Int))
    (by
      refine Ev.step (fun k => by rw [laws_heldIntS.l0]) ?_
      rw [hlen]
      simp only [Int.lt_irrefl, if_false]
      exact Ev.now _)
    (by
      intro i hi ih
      refine Ev.step (fun k => by rw [laws_heldIntS.l0]) ?_
      rw [hlen]
      have e : rd ((List.range n).map im) (i : Int) = im i := by unfold rd; simp [List.getD, hi]
      simp only [if_pos (show (i : Int) < (n : Int) by omega), if_pos (show 0 ≤ (i : Int) by omega), e, im, if_true]
      rw [inc i (by omega), inc (1 + i) (by omega)]
      exact ih)
  exact key 0 (by omega)

theorem lacks (z : Int) (d : ByteArray) (l : List ByteArray) (hl : l.length ≤ 1048576) : ∃ R : List Int, R.length ≤ 1048576 ∧ Ev (fun k => spec_ParcelLacks.f k z d l) R ∧ Ev (fun k => impl_ParcelLacks.f k z d l) R := by
  by_cases hp : pOk z d l = true
  · have key := up_ind l.length (fun i => ∃ R : List Int, R.length ≤ l.length - i ∧ ∀ xs : List Int, xs.length ≤ i → Ev (fun k => spec_ParcelLacks.l0 k xs (i : Int) z d l) (xs ++ R) ∧ Ev (fun k => impl_ParcelLacks.l0 k xs l (l.length : Int) (i : Int)) (xs ++ R))
      (by
        refine ⟨[], by simp, fun xs hx => ⟨?_, ?_⟩⟩
        · refine Ev.step (fun k => by rw [spec_ParcelLacks.l0]) ?_
          simp only [Int.lt_irrefl, if_false]
          refine Ev.step (fun k => by rw [spec_ParcelLacks.j1]) ?_
          simp only [Bool.false_eq_true, if_false, List.append_nil]
          exact Ev.now _
        · refine Ev.step (fun k => by rw [impl_ParcelLacks.l0]) ?_
          simp only [Int.lt_irrefl, if_false, List.append_nil]
          exact Ev.now _)
      (by
        intro i hi ih
        obtain ⟨R, hR, h⟩ := ih
        by_cases h0 : (rdOf ByteArray.empty l (i : Int)).toList = ([] : List UInt8)
        · refine ⟨(i : Int) :: R, by simp only [List.length_cons]; omega, fun xs hx => ⟨?_, ?_⟩⟩
          · refine Ev.step (fun k => by rw [spec_ParcelLacks.l0]) ?_
            simp only [if_pos (show (i : Int) < (l.length : Int) by omega)]
            refine Ev.bind (s_ParcelOk z d l hl) ?_
            refine Ev.step (fun k => by rw [spec_ParcelLacks.j1]) ?_
            simp only [hp, if_true, if_pos (show 0 ≤ (i : Int) by omega), if_pos (show (i : Int) < (l.length : Int) by omega), if_pos h0, if_pos (show xs.length < 17592186044416 by omega)]
            rw [inc i (by omega)]
            have := (h (xs ++ [(i : Int)]) (by simp only [List.length_append, List.length_singleton]; omega)).1
            rw [List.append_assoc] at this
            exact this
          · refine Ev.step (fun k => by rw [impl_ParcelLacks.l0]) ?_
            simp only [if_pos (show 0 ≤ (i : Int) by omega), if_pos (show (i : Int) < (l.length : Int) by omega), if_pos h0, if_pos (show xs.length < 17592186044416 by omega)]
            rw [inc i (by omega)]
            have := (h (xs ++ [(i : Int)]) (by simp only [List.length_append, List.length_singleton]; omega)).2
            rw [List.append_assoc] at this
            exact this
        · refine ⟨R, by omega, fun xs hx => ⟨?_, ?_⟩⟩
          · refine Ev.step (fun k => by rw [spec_ParcelLacks.l0]) ?_
            simp only [if_pos (show (i : Int) < (l.length : Int) by omega)]
            refine Ev.bind (s_ParcelOk z d l hl) ?_
            refine Ev.step (fun k => by rw [spec_ParcelLacks.j1]) ?_
            simp only [hp, if_true, if_pos (show 0 ≤ (i : Int) by omega), if_pos (show (i : Int) < (l.length : Int) by omega), if_neg h0]
            rw [inc i (by omega)]
            exact (h xs (by omega)).1
          · refine Ev.step (fun k => by rw [impl_ParcelLacks.l0]) ?_
            simp only [if_pos (show 0 ≤ (i : Int) by omega), if_pos (show (i : Int) < (l.length : Int) by omega), if_neg h0]
            rw [inc i (by omega)]
            exact (h xs (by omega)).2)
    obtain ⟨R, hR, h⟩ := key 0 (by omega)
    have h := h [] (by simp)
    refine ⟨R, by omega, h.1, ?_⟩
    unfold impl_ParcelLacks.f
    refine Ev.bind (Ev.now _) (Ev.bind (i_ParcelOk z d l hl) ?_)
    simp only [hp, if_true]
    exact h.2
  · refine ⟨[], by simp, ?_, ?_⟩
    · unfold spec_ParcelLacks.f
      refine Ev.step (fun k => by rw [spec_ParcelLacks.l0]) ?_
      by_cases h0 : (0 : Int) < (l.length : Int)
      · simp only [if_pos h0]
        refine Ev.bind (s_ParcelOk z d l hl) ?_
        refine Ev.step (fun k => by rw [spec_ParcelLacks.j1]) ?_
        simp only [if_neg hp]
        exact Ev.now _
      · simp only [if_neg h0]
        refine Ev.step (fun k => by rw [spec_ParcelLacks.j1]) ?_
        simp only [Bool.false_eq_true, if_false]
        exact Ev.now _
    · unfold impl_ParcelLacks.f
      refine Ev.bind (Ev.now _) (Ev.bind (i_ParcelOk z d l hl) ?_)
      simp only [if_neg hp]
      exact Ev.now _

theorem FnExactParcelLacks : ∀ (a0_0 : Int) (a0_1 : ByteArray) (l0_2 : (List ByteArray)), (Lit.int .i64 a0_0).wf = true → a0_1.size ≤ 9223372036854775807 → (l0_2.length ≤ 9223372036854775807 ∧ ∀ x ∈ l0_2, x.size ≤ 9223372036854775807) → ∃ k, laws_FnExactParcelLacks.f k a0_0 a0_1 l0_2 = some true := by
  intro z d l _ hd hg
  refine Ev.rounds ?_
  unfold laws_FnExactParcelLacks.f
  obtain ⟨r, e, hr⟩ := sz_parcel z d l hd hg.1 hg.2
  refine Ev.bind e ?_
  by_cases h : r < 0
  · simp only [if_pos h]; exact Ev.now _
  · have hl := hr h
    simp only [if_neg h]
    obtain ⟨R, hR, hs, hi⟩ := lacks z d l hl
    refine Ev.bind (to_parcel z d l hl) (Ev.bind hs (Ev.bind (to_parcel z d l hl) (Ev.bind hi (Ev.bind (eq_ints R (by omega)) ?_))))
    simp only [if_true]
    refine Ev.bind (to_parcel z d l hl) (Ev.bind (eq_parcel z d l hl) ?_)
    simp only [if_true]
    refine Ev.bind (mark_parcel z d l hl) ?_
    simp only [if_neg (show ¬ ((1 + l.length : Nat) : Int) < 0 by omega)]
    refine Ev.bind (eq_ints R (by omega)) ?_
    refine Ev.step (fun k => by rw [laws_FnExactParcelLacks.j0]) ?_
    simp only [Bool.not_true, Bool.false_eq_true, if_false]
    refine Ev.bind (mark_ints R (by omega)) (Ev.bind (held_ints R.length (by omega)) ?_)
    simp only [if_neg (show ¬ ((1 + R.length : Nat) : Int) < 0 by omega), if_true]
    refine Ev.bind (to_parcel z d l hl) (Ev.bind hi (Ev.bind (eq_ints R (by omega)) ?_))
    simp only [if_true]
    refine Ev.bind (held_ints R.length (by omega)) ?_
    simp only [if_neg (show ¬ ((1 + R.length : Nat) : Int) < 0 by omega), if_true]
    exact Ev.now _

end Go.Proofs.Ytkjfcgnhpalhnaa.Pure
