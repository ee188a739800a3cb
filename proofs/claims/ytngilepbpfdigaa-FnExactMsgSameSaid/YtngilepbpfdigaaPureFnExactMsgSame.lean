/- The law FnExactMsgSame answers true for every argument. No condition. -/
import Derived.Test.YtngilepbpfdigaaQFnExactMsgSamex9
namespace Go.Proofs.Ytngilepbpfdigaa.Pure
open Go.RowKit Go.Proofs.Ytngilepbpfdigaa.QFnExactMsgSame Go.Proofs.YtngilepbpfdigaaW.PrintWords Go.Proofs.YtngilepbpfdigaaW.PrintLast
set_option linter.unusedVariables false
set_option linter.unusedSimpArgs false

theorem w64 (n : Int) (h0 : -9223372036854775808 ≤ n) (h1 : n ≤ 9223372036854775807) : wrap64 n = n := by unfold wrap64; omega
theorem tmn {a : Int} (b : Int) (h : 0 ≤ a) : Int.tmod a b = a % b := Int.tmod_eq_emod_of_nonneg h
theorem wfi {x : Int} (h : (Lit.int .i64 x).wf = true) : -9223372036854775808 ≤ x ∧ x ≤ 9223372036854775807 := by
  simp [Lit.wf, IntKind.min, IntKind.max, IntKind.signed, IntKind.bits] at h
  omega
theorem wf8 {x : Int} (h : (Lit.int .u8 x).wf = true) : 0 ≤ x ∧ x ≤ 255 := by
  simp [Lit.wf, IntKind.min, IntKind.max, IntKind.signed, IntKind.bits] at h
  omega
theorem evc {α : Type} {g : Nat → Option α} {r : α} (h : ∀ k, g k = some r) : Ev g r := ⟨0, fun k _ => h k⟩
theorem getD_mem {α : Type} (l : List α) (n : Nat) (z : α) (h : n < l.length) : l.getD n z ∈ l := by
  rw [List.getD_eq_getElem?_getD, List.getElem?_eq_getElem h]
  exact List.getElem_mem h
theorem ex_step {α : Type} {g f : Nat → Option α} (h : ∀ k, g (k + 1) = f k) (e : ∃ r, Ev f r) : ∃ r, Ev g r := by
  obtain ⟨r, e⟩ := e
  exact ⟨r, Ev.step h e⟩
theorem ex_bind {α β : Type} {g : Nat → Option α} {f : Nat → α → Option β} {a : α} (h : Ev g a) (e : ∃ r, Ev (fun n => f n a) r) : ∃ r, Ev (fun n => (g n).bind (f n)) r := by
  obtain ⟨r, e⟩ := e
  exact ⟨r, Ev.bind h e⟩

theorem up_ind (n : Nat) (P : Nat → Prop) (he : P n) (hs : ∀ i, i < n → P (i + 1) → P i) (i : Nat) (h : i ≤ n) : P i := by
  have key : ∀ (d i : Nat), i + d = n → P i := by
    intro d
    induction d with
    | zero => intro i h; obtain rfl : i = n := by omega
              exact he
    | succ d ih => intro i h; exact hs i (by omega) (ih (i + 1) (by omega))
  exact key (n - i) i (by omega)
theorem eq_fill {β : Type} (y : Nat → β) (n : Nat) (ys : List β) (hl : ys.length = n) (h : ∀ j, j < n → ys[j]? = some (y j)) : ys = (List.range n).map y := by
  apply List.ext_getElem?
  intro j
  by_cases hj : j < n
  · rw [h j hj]; simp [hj]
  · rw [List.getElem?_eq_none (by omega), List.getElem?_eq_none (by simp; omega)]
theorem map_rd {α β : Type} (l : List α) (z : α) (f : α → β) : (List.range l.length).map (fun i => f (l.getD i z)) = l.map f := by
  apply List.ext_getElem?
  intro j
  by_cases hj : j < l.length
  · simp [hj, List.getD]
  · rw [List.getElem?_eq_none (by simp; omega), List.getElem?_eq_none (by simp; omega)]
theorem set_fill {β : Type} (y : Nat → β) (i : Nat) (ys : List β) (h : ∀ j, j < i → ys[j]? = some (y j)) (hi : i < ys.length) : ∀ j, j < i + 1 → (ys.set i (y i))[j]? = some (y j) := by
  intro j hj
  by_cases e : j = i
  · subst e; rw [List.getElem?_set_self hi]
  · rw [List.getElem?_set_ne (by omega)]; exact h j (by omega)
theorem inc (i : Nat) (h : i < 1000000000000000) : wrap64 ((i : Int) + 1) = ((i + 1 : Nat) : Int) := by rw [w64 _ (by omega) (by omega)]; omega

theorem sz_cmd (k r n z : Int) (d : ByteArray) (a : Int) (hd : d.size ≤ 9223372036854775807) (h0 : 0 ≤ a) (h1 : a ≤ 1048576) : ∃ t, laws_szCmd.f k r n z d a = some t ∧ t ≤ a ∧ (t < 0 ∨ 0 ≤ t) := by
  unfold laws_szCmd.f
  rw [w64 (a - (d.size : Int)) (by omega) (by omega)]
  by_cases h : a - (d.size : Int) < 0
  · rw [if_pos h]; exact ⟨_, rfl, by omega, by omega⟩
  · rw [if_neg h]; exact ⟨_, rfl, by omega, by omega⟩
theorem sz_entries (l : List S53) (a : Int) (ha : 0 ≤ a) (ha2 : a ≤ 1048576) (hl : l.length ≤ 9223372036854775807) (hs : ∀ x ∈ l, x.f1.f4.size ≤ 9223372036854775807) : ∃ r, Ev (fun k => laws_szEntryS.f k l a) r ∧ (0 ≤ r → l.length ≤ 1048576) ∧ r ≤ a := by
  unfold laws_szEntryS.f
  rw [w64 (a - (l.length : Int)) (by omega) (by omega)]
  by_cases h : a - (l.length : Int) < 0
  · simp only [if_pos h]; exact ⟨_, Ev.now _, fun h => by omega, by omega⟩
  · simp only [if_neg h]
    have key := up_ind l.length (fun i => ∀ b : Int, 0 ≤ b → b ≤ a → ∃ r, Ev (fun k => laws_szEntryS.l0 k l b (i : Int)) r ∧ r ≤ a)
      (by
        intro b h1 h2
        refine ⟨b, Ev.step (fun k => by rw [laws_szEntryS.l0]) ?_, h2⟩
        simp only [Int.lt_irrefl, if_false]
        exact Ev.now _)
      (by
        intro i hi ih b h1 h2
        have hx : (rd_T53 l (i : Int)).f1.f4.size ≤ 9223372036854775807 := hs _ (getD_mem _ _ _ (by omega))
        obtain ⟨t, et, ht, hc⟩ := sz_cmd (rd_T53 l (i : Int)).f1.f0 (rd_T53 l (i : Int)).f1.f1 (rd_T53 l (i : Int)).f1.f2 (rd_T53 l (i : Int)).f1.f3 (rd_T53 l (i : Int)).f1.f4 b hx h1 (by omega)
        by_cases h3 : t < 0
        · refine ⟨-1, Ev.step (fun k => by rw [laws_szEntryS.l0]) ?_, by omega⟩
          unfold laws_szEntry.f
          rw [et]
          simp only [if_pos (show (i : Int) < (l.length : Int) by omega), if_pos (show 0 ≤ (i : Int) by omega), Option.bind_some, if_pos h3, if_pos (show (-1 : Int) < 0 by omega)]
          exact Ev.now _
        · obtain ⟨r, er, hr⟩ := ih t (by omega) (by omega)
          refine ⟨r, Ev.step (fun k => by rw [laws_szEntryS.l0]) ?_, hr⟩
          unfold laws_szEntry.f
          rw [et, inc i (by omega)]
          simp only [if_pos (show (i : Int) < (l.length : Int) by omega), if_pos (show 0 ≤ (i : Int) by omega), Option.bind_some, if_neg h3]
          exact er)
    obtain ⟨r, e, hr⟩ := key 0 (by omega) (a - (l.length : Int)) (by omega) (by omega)
    exact ⟨r, e, fun _ => by omega, hr⟩

def cvE (x : S53) : S40 := ⟨x.f0, ⟨x.f1.f0, x.f1.f1, x.f1.f2, x.f1.f3, x.f1.f4⟩⟩
theorem to_entries (l : List S53) (hl : l.length ≤ 1048576) : Ev (fun k => laws_toEntryS.f k l) (l.map cvE) := by
  unfold laws_toEntryS.f
  simp only [if_pos (show 0 ≤ (l.length : Int) by omega), if_pos (show ((l.length : Int) : Int).toNat ≤ 5026338869833 by omega)]
  have key := up_ind l.length (fun i => ∀ ys : List S40, ys.length = l.length → (∀ j, j < i → ys[j]? = some (cvE (l.getD j z53))) → Ev (fun k => laws_toEntryS.l0 k l ys (i : Int)) (l.map cvE))
    (by
      intro ys hy h
      refine Ev.step (fun k => by rw [laws_toEntryS.l0]) ?_
      simp only [Int.lt_irrefl, if_false]
      rw [eq_fill (fun j => cvE (l.getD j z53)) l.length ys hy h, map_rd]
      exact Ev.now _)
    (by
      intro i hi ih ys hy h
      refine Ev.step (fun k => by rw [laws_toEntryS.l0]) ?_
      unfold laws_toEntry.f laws_toCmd.f
      simp only [Option.bind_some, if_pos (show (i : Int) < (l.length : Int) by omega), if_pos (show 0 ≤ (i : Int) by omega), if_pos (show (i : Int) < (ys.length : Int) by omega)]
      rw [inc i (by omega)]
      exact ih _ (by rw [List.length_set]; exact hy) (set_fill (fun j => cvE (l.getD j z53)) i ys h (by omega)))
  exact key 0 (by omega) (List.replicate ((l.length : Int) : Int).toNat z40) (by simp) (fun j hj => by omega)

theorem eq_cmd (k r n z : Int) (d : ByteArray) : laws_eqCmd.f k r n z d k r n z d = some true := by
  unfold laws_eqCmd.f; simp
theorem eq_entries (l : List S40) (hl : l.length ≤ 1048576) : Ev (fun k => laws_eqEntryS.f k l l) true := by
  unfold laws_eqEntryS.f
  simp only [if_true]
  have key := up_ind l.length (fun i => Ev (fun k => laws_eqEntryS.l0 k l l (i : Int)) true)
    (by
      refine Ev.step (fun k => by rw [laws_eqEntryS.l0]) ?_
      simp only [Int.lt_irrefl, if_false]
      exact Ev.now _)
    (by
      intro i hi ih
      refine Ev.step (fun k => by rw [laws_eqEntryS.l0]) ?_
      unfold laws_eqEntry.f
      simp only [eq_cmd, if_pos (show (i : Int) < (l.length : Int) by omega), if_pos (show 0 ≤ (i : Int) by omega), if_true, Option.bind_some]
      rw [inc i (by omega)]
      exact ih)
  exact key 0 (by omega)

theorem sz_msg (a0 a1 a2 a3 a4 a5 : Int) (a6 : Bool) (a7 a8 : Int) (a9 : ByteArray) (b0 b1 b2 b3 : Int) (b4 : ByteArray) (l : List S53) (a : Int) (h9 : a9.size ≤ 9223372036854775807) (hb : b4.size ≤ 9223372036854775807) (hl : l.length ≤ 9223372036854775807) (hs : ∀ x ∈ l, x.f1.f4.size ≤ 9223372036854775807) (h0 : 0 ≤ a) (h1 : a ≤ 1048576) :
    ∃ r, Ev (fun k => laws_szMsg.f k a0 a1 a2 a3 a4 a5 a6 a7 a8 a9 b0 b1 b2 b3 b4 l a) r ∧ (0 ≤ r → l.length ≤ 1048576) ∧ r ≤ a := by
  unfold laws_szMsg.f
  rw [w64 (a - (a9.size : Int)) (by omega) (by omega)]
  by_cases h : a - (a9.size : Int) < 0
  · simp only [if_pos h]; exact ⟨_, Ev.now _, fun h => by omega, by omega⟩
  · simp only [if_neg h]
    obtain ⟨t, et, ht, _⟩ := sz_cmd b0 b1 b2 b3 b4 (a - (a9.size : Int)) hb (by omega) (by omega)
    rw [et]
    simp only [Option.bind_some]
    by_cases h2 : t < 0
    · simp only [if_pos h2]; exact ⟨_, Ev.now _, fun h => by omega, by omega⟩
    · simp only [if_neg h2]
      obtain ⟨r, er, hr1, hr2⟩ := sz_entries l t (by omega) (by omega) hl hs
      by_cases h3 : r < 0
      · exact ⟨-1, Ev.bind er (by simp only [if_pos h3]; exact Ev.now _), fun h => by omega, by omega⟩
      · exact ⟨r, Ev.bind er (by simp only [if_neg h3]; exact Ev.now _), hr1, by omega⟩
theorem to_msg (a0 a1 a2 a3 a4 a5 : Int) (a6 : Bool) (a7 a8 : Int) (a9 : ByteArray) (b0 b1 b2 b3 : Int) (b4 : ByteArray) (l : List S53) (hl : l.length ≤ 1048576) :
    Ev (fun k => laws_toMsg.f k a0 a1 a2 a3 a4 a5 a6 a7 a8 a9 b0 b1 b2 b3 b4 l) (a0, a1, a2, a3, a4, a5, a6, a7, a8, a9, b0, b1, b2, b3, b4, l.map cvE) := by
  unfold laws_toMsg.f laws_toCmd.f
  simp only [Option.bind_some]
  exact Ev.bind (to_entries l hl) (Ev.now _)
theorem eq_msg (a0 a1 a2 a3 a4 a5 : Int) (a6 : Bool) (a7 a8 : Int) (a9 : ByteArray) (b0 b1 b2 b3 : Int) (b4 : ByteArray) (l : List S40) (hl : l.length ≤ 1048576) :
    Ev (fun k => laws_eqMsg.f k a0 a1 a2 a3 a4 a5 a6 a7 a8 a9 b0 b1 b2 b3 b4 l a0 a1 a2 a3 a4 a5 a6 a7 a8 a9 b0 b1 b2 b3 b4 l) true := by
  unfold laws_eqMsg.f
  rw [eq_cmd]
  simp only [if_true, bne_self_eq_false, Bool.false_eq_true, if_false, Option.bind_some]
  refine Ev.bind (eq_entries l hl) ?_
  simp only [if_true]
  exact Ev.now _

def eqE (x y : S40) : Bool := x.f0 == y.f0 && (x.f1.f0 == y.f1.f0 && (x.f1.f1 == y.f1.f1 && (x.f1.f2 == y.f1.f2 && (x.f1.f3 == y.f1.f3 && x.f1.f4.toList == y.f1.f4.toList))))
def eqEs (l m : List S40) : Nat → Nat → Bool
  | 0, _ => true
  | d + 1, i => eqE (rd_T40 l (i : Int)) (rd_T40 m (i : Int)) && eqEs l m d (i + 1)
theorem neqE (x y : S40) : (!((x.f0) == (y.f0)) || ((!((x.f1.f0) == (y.f1.f0)) || (!((x.f1.f1) == (y.f1.f1)) || (!((x.f1.f2) == (y.f1.f2)) || (!((x.f1.f3) == (y.f1.f3)) || (!(((x.f1.f4).toList) == ((y.f1.f4).toList))))))))) = !eqE x y := by
  unfold eqE; simp only [Bool.not_and]
theorem i_equal (l m : List S40) (hl : l.length ≤ 1048576) : Ev (fun k => impl_Entry.f k l m) (decide (l.length = m.length) && eqEs l m l.length 0) := by
  unfold impl_Entry.f
  by_cases h : l.length = m.length
  · simp only [if_pos (show (l.length : Int) = (m.length : Int) by omega), decide_eq_true h, Bool.true_and]
    have key : ∀ (d i : Nat), i + d = l.length → Ev (fun k => impl_Entry.l0 k l m (l.length : Int) (i : Int)) (eqEs l m d i) := by
      intro d
      induction d with
      | zero =>
        intro i hi
        refine Ev.step (fun k => by rw [impl_Entry.l0]) ?_
        simp only [if_neg (show ¬ (i : Int) < (l.length : Int) by omega)]
        exact Ev.now _
      | succ d ih =>
        intro i hi
        refine Ev.step (fun k => by rw [impl_Entry.l0]) ?_
        simp only [neqE, if_pos (show (i : Int) < (l.length : Int) by omega), if_pos (show 0 ≤ (i : Int) by omega), if_pos (show (i : Int) < (m.length : Int) by omega), eqEs]
        rw [inc i (by omega)]
        cases eqE (rd_T40 l (i : Int)) (rd_T40 m (i : Int))
        · simp only [Bool.not_false, if_true, Bool.false_and]; exact Ev.now _
        · simp only [Bool.not_true, Bool.false_eq_true, if_false, Bool.true_and]; exact ih (i + 1) (by omega)
    exact key l.length 0 (by omega)
  · simp only [if_neg (show ¬ (l.length : Int) = (m.length : Int) by omega), decide_eq_false h, Bool.false_and]
    exact Ev.now _
section
variable (a0 a1 a2 a3 a4 a5 : Int) (a6 : Bool) (a7 a8 : Int) (a9 : ByteArray) (b0 b1 b2 b3 : Int) (b4 : ByteArray) (l : List S40) (c0 c1 c2 c3 c4 c5 : Int) (c6 : Bool) (c7 c8 : Int) (c9 : ByteArray) (d0 d1 d2 d3 : Int) (d4 : ByteArray) (m : List S40)
def SameP : Prop := a0 = c0 ∧ a1 = c1 ∧ a2 = c2 ∧ a3 = c3 ∧ a4 = c4 ∧ a5 = c5 ∧ a6 = c6 ∧ a7 = c7 ∧ a8 = c8 ∧ a9.toList = c9.toList ∧ (b0 == d0 && (b1 == d1 && (b2 == d2 && (b3 == d3 && (b4.toList == d4.toList))))) = true
noncomputable def sameM : Bool := @decide (SameP a0 a1 a2 a3 a4 a5 a6 a7 a8 a9 b0 b1 b2 b3 b4 c0 c1 c2 c3 c4 c5 c6 c7 c8 c9 d0 d1 d2 d3 d4) (Classical.propDecidable _) && (decide (l.length = m.length) && eqEs l m l.length 0)
theorem sameM_no (h : ¬ SameP a0 a1 a2 a3 a4 a5 a6 a7 a8 a9 b0 b1 b2 b3 b4 c0 c1 c2 c3 c4 c5 c6 c7 c8 c9 d0 d1 d2 d3 d4) : sameM a0 a1 a2 a3 a4 a5 a6 a7 a8 a9 b0 b1 b2 b3 b4 l c0 c1 c2 c3 c4 c5 c6 c7 c8 c9 d0 d1 d2 d3 d4 m = false := by
  unfold sameM; rw [@decide_eq_false _ (Classical.propDecidable _) h, Bool.false_and]
theorem sameM_yes (h : SameP a0 a1 a2 a3 a4 a5 a6 a7 a8 a9 b0 b1 b2 b3 b4 c0 c1 c2 c3 c4 c5 c6 c7 c8 c9 d0 d1 d2 d3 d4) : sameM a0 a1 a2 a3 a4 a5 a6 a7 a8 a9 b0 b1 b2 b3 b4 l c0 c1 c2 c3 c4 c5 c6 c7 c8 c9 d0 d1 d2 d3 d4 m = (decide (l.length = m.length) && eqEs l m l.length 0) := by
  unfold sameM; rw [@decide_eq_true _ (Classical.propDecidable _) h, Bool.true_and]
theorem i_MsgSame (hl : l.length ≤ 1048576) : Ev (fun k => impl_MsgSame.f k a0 a1 a2 a3 a4 a5 a6 a7 a8 a9 b0 b1 b2 b3 b4 l c0 c1 c2 c3 c4 c5 c6 c7 c8 c9 d0 d1 d2 d3 d4 m) (sameM a0 a1 a2 a3 a4 a5 a6 a7 a8 a9 b0 b1 b2 b3 b4 l c0 c1 c2 c3 c4 c5 c6 c7 c8 c9 d0 d1 d2 d3 d4 m) := by
  unfold impl_MsgSame.f
  by_cases hS : SameP a0 a1 a2 a3 a4 a5 a6 a7 a8 a9 b0 b1 b2 b3 b4 c0 c1 c2 c3 c4 c5 c6 c7 c8 c9 d0 d1 d2 d3 d4
  · rw [sameM_yes _ _ _ _ _ _ _ _ _ _ _ _ _ _ _ _ _ _ _ _ _ _ _ _ _ _ _ _ _ _ _ _ hS]
    obtain ⟨h0, h1, h2, h3, h4, h5, h6, h7, h8, h9, hc⟩ := hS
    simp only [if_pos h0, if_pos h1, if_pos h2, if_pos h3, if_pos h4, if_pos h5, if_pos (show (a6 == c6) = true by simp [h6]), if_pos h7, if_pos h8, if_pos h9, if_pos hc]
    exact Ev.bind (i_equal l m hl) (Ev.now _)
  · rw [sameM_no _ _ _ _ _ _ _ _ _ _ _ _ _ _ _ _ _ _ _ _ _ _ _ _ _ _ _ _ _ _ _ _ hS]
    unfold SameP at hS
    by_cases h0 : a0 = c0 <;> simp only [h0, if_true, if_false, ite_self] <;> first | exact Ev.now _ | skip
    by_cases h1 : a1 = c1 <;> simp only [h1, if_true, if_false, ite_self] <;> first | exact Ev.now _ | skip
    by_cases h2 : a2 = c2 <;> simp only [h2, if_true, if_false, ite_self] <;> first | exact Ev.now _ | skip
    by_cases h3 : a3 = c3 <;> simp only [h3, if_true, if_false, ite_self] <;> first | exact Ev.now _ | skip
    by_cases h4 : a4 = c4 <;> simp only [h4, if_true, if_false, ite_self] <;> first | exact Ev.now _ | skip
    by_cases h6 : (a6 == c6) = true <;> simp only [h6, if_true, if_false, ite_self, Bool.false_eq_true] <;> first | exact Ev.now _ | skip
    by_cases h7 : a7 = c7 <;> simp only [h7, if_true, if_false, ite_self] <;> first | exact Ev.now _ | skip
    by_cases h8 : a8 = c8 <;> simp only [h8, if_true, if_false, ite_self] <;> first | exact Ev.now _ | skip
    by_cases h9 : a9.toList = c9.toList <;> simp only [h9, if_true, if_false, ite_self] <;> first | exact Ev.now _ | skip
    by_cases h5 : a5 = c5 <;> simp only [h5, if_true, if_false, ite_self] <;> first | exact Ev.now _ | skip
    by_cases hc : (b0 == d0 && (b1 == d1 && (b2 == d2 && (b3 == d3 && (b4.toList == d4.toList))))) = true
    · exact absurd ⟨h0, h1, h2, h3, h4, h5, by simpa using h6, h7, h8, h9, hc⟩ hS
    · simp only [if_neg hc]; exact Ev.now _
theorem s_MsgSame (hl : l.length ≤ 1048576) : Ev (fun k => spec_MsgSame.f k a0 a1 a2 a3 a4 a5 a6 a7 a8 a9 b0 b1 b2 b3 b4 l c0 c1 c2 c3 c4 c5 c6 c7 c8 c9 d0 d1 d2 d3 d4 m) (sameM a0 a1 a2 a3 a4 a5 a6 a7 a8 a9 b0 b1 b2 b3 b4 l c0 c1 c2 c3 c4 c5 c6 c7 c8 c9 d0 d1 d2 d3 d4 m) := by
  unfold spec_MsgSame.f
  have hneg : (!(b0 == d0) || (!(b1 == d1) || (!(b2 == d2) || (!(b3 == d3) || (!(b4.toList == d4.toList)))))) = !(b0 == d0 && (b1 == d1 && (b2 == d2 && (b3 == d3 && (b4.toList == d4.toList))))) := by simp only [Bool.not_and]
  rw [hneg]
  have no : ∀ b : Bool, b = true → Ev (fun k => spec_MsgSame.j0 k b a0 a1 a2 a3 a4 a5 a6 a7 a8 a9 b0 b1 b2 b3 b4 l c0 c1 c2 c3 c4 c5 c6 c7 c8 c9 d0 d1 d2 d3 d4 m) false := by
    intro b hb
    refine Ev.step (fun k => by rw [spec_MsgSame.j0]) ?_
    simp only [hb, if_true]
    exact Ev.now _
  by_cases hS : SameP a0 a1 a2 a3 a4 a5 a6 a7 a8 a9 b0 b1 b2 b3 b4 c0 c1 c2 c3 c4 c5 c6 c7 c8 c9 d0 d1 d2 d3 d4
  · rw [sameM_yes _ _ _ _ _ _ _ _ _ _ _ _ _ _ _ _ _ _ _ _ _ _ _ _ _ _ _ _ _ _ _ _ hS]
    obtain ⟨h0, h1, h2, h3, h4, h5, h6, h7, h8, h9, hc⟩ := hS
    simp only [if_pos h0, if_pos h1, if_pos h2, if_pos h3, if_pos h4, if_pos h5, show (a6 != c6) = false by simp [h6], Bool.false_eq_true, if_false, if_pos h7, if_pos h8, if_pos h9, hc, Bool.not_true]
    by_cases hn : l.length = m.length
    · simp only [decide_eq_true hn, Bool.true_and]
      refine Ev.step (fun k => by rw [spec_MsgSame.j0]) ?_
      simp only [show ((l.length : Int) != (m.length : Int)) = false by simp [hn], Bool.false_eq_true, if_false]
      have key : ∀ (d i : Nat), i + d = l.length → Ev (fun k => spec_MsgSame.l0 k (i : Int) a0 a1 a2 a3 a4 a5 a6 a7 a8 a9 b0 b1 b2 b3 b4 l c0 c1 c2 c3 c4 c5 c6 c7 c8 c9 d0 d1 d2 d3 d4 m) (eqEs l m d i) := by
        intro d
        induction d with
        | zero =>
          intro i hi
          refine Ev.step (fun k => by rw [spec_MsgSame.l0]) ?_
          simp only [if_neg (show ¬ (i : Int) < (l.length : Int) by omega)]
          exact Ev.now _
        | succ d ih =>
          intro i hi
          refine Ev.step (fun k => by rw [spec_MsgSame.l0]) ?_
          simp only [neqE, if_pos (show (i : Int) < (l.length : Int) by omega), if_pos (show 0 ≤ (i : Int) by omega), if_pos (show (i : Int) < (m.length : Int) by omega), eqEs]
          rw [inc i (by omega)]
          cases eqE (rd_T40 l (i : Int)) (rd_T40 m (i : Int))
          · simp only [Bool.not_false, if_true, Bool.false_and]; exact Ev.now _
          · simp only [Bool.not_true, Bool.false_eq_true, if_false, Bool.true_and]; exact ih (i + 1) (by omega)
      exact key l.length 0 (by omega)
    · simp only [decide_eq_false hn, Bool.false_and]
      exact no _ (bne_iff_ne.mpr (by omega))
  · rw [sameM_no _ _ _ _ _ _ _ _ _ _ _ _ _ _ _ _ _ _ _ _ _ _ _ _ _ _ _ _ _ _ _ _ hS]
    unfold SameP at hS
    by_cases h0 : a0 = c0
    case neg => simp only [if_neg h0]; exact no true rfl
    simp only [if_pos h0]
    by_cases h1 : a1 = c1
    case neg => simp only [if_neg h1]; exact no true rfl
    simp only [if_pos h1]
    by_cases h2 : a2 = c2
    case neg => simp only [if_neg h2]; exact no true rfl
    simp only [if_pos h2]
    by_cases h3 : a3 = c3
    case neg => simp only [if_neg h3]; exact no true rfl
    simp only [if_pos h3]
    by_cases h4 : a4 = c4
    case neg => simp only [if_neg h4]; exact no true rfl
    simp only [if_pos h4]
    by_cases h5 : a5 = c5
    case neg => simp only [if_neg h5]; exact no true rfl
    simp only [if_pos h5]
    by_cases h6 : (a6 != c6) = true
    case pos => simp only [if_pos h6]; exact no true rfl
    simp only [if_neg h6]
    by_cases h7 : a7 = c7
    case neg => simp only [if_neg h7]; exact no true rfl
    simp only [if_pos h7]
    by_cases h8 : a8 = c8
    case neg => simp only [if_neg h8]; exact no true rfl
    simp only [if_pos h8]
    by_cases h9 : a9.toList = c9.toList
    case neg => simp only [if_neg h9]; exact no true rfl
    simp only [if_pos h9]
    by_cases hc : (b0 == d0 && (b1 == d1 && (b2 == d2 && (b3 == d3 && (b4.toList == d4.toList))))) = true
    · exact absurd ⟨h0, h1, h2, h3, h4, h5, by simpa using h6, h7, h8, h9, hc⟩ hS
    · simp only [hc, Bool.not_false, if_true]; exact no true rfl
end

theorem FnExactMsgSame : ∀ (a0_0 : Int) (a0_1 : Int) (a0_2 : Int) (a0_3 : Int) (a0_4 : Int) (a0_5 : Int) (a0_6 : Bool) (a0_7 : Int) (a0_8 : Int) (a0_9 : ByteArray) (a0_10 : Int) (a0_11 : Int) (a0_12 : Int) (a0_13 : Int) (a0_14 : ByteArray) (l0_15 : (List S53)) (a1_0 : Int) (a1_1 : Int) (a1_2 : Int) (a1_3 : Int) (a1_4 : Int) (a1_5 : Int) (a1_6 : Bool) (a1_7 : Int) (a1_8 : Int) (a1_9 : ByteArray) (a1_10 : Int) (a1_11 : Int) (a1_12 : Int) (a1_13 : Int) (a1_14 : ByteArray) (l1_15 : (List S53)), (Lit.int .i64 a0_0).wf = true → (Lit.int .i64 a0_1).wf = true → (Lit.int .i64 a0_2).wf = true → (Lit.int .i64 a0_3).wf = true → (Lit.int .i64 a0_4).wf = true → (Lit.int .i64 a0_5).wf = true → (Lit.int .i64 a0_7).wf = true → (Lit.int .i64 a0_8).wf = true → a0_9.size ≤ 9223372036854775807 → (Lit.int .i64 a0_10).wf = true → (Lit.int .i64 a0_11).wf = true → (Lit.int .i64 a0_12).wf = true → (Lit.int .i64 a0_13).wf = true → a0_14.size ≤ 9223372036854775807 → (l0_15.length ≤ 9223372036854775807 ∧ ∀ x ∈ l0_15, ((Lit.int .i64 x.f0).wf = true ∧ ((Lit.int .i64 x.f1.f0).wf = true ∧ (Lit.int .i64 x.f1.f1).wf = true ∧ (Lit.int .i64 x.f1.f2).wf = true ∧ (Lit.int .i64 x.f1.f3).wf = true ∧ x.f1.f4.size ≤ 9223372036854775807))) → (Lit.int .i64 a1_0).wf = true → (Lit.int .i64 a1_1).wf = true → (Lit.int .i64 a1_2).wf = true → (Lit.int .i64 a1_3).wf = true → (Lit.int .i64 a1_4).wf = true → (Lit.int .i64 a1_5).wf = true → (Lit.int .i64 a1_7).wf = true → (Lit.int .i64 a1_8).wf = true → a1_9.size ≤ 9223372036854775807 → (Lit.int .i64 a1_10).wf = true → (Lit.int .i64 a1_11).wf = true → (Lit.int .i64 a1_12).wf = true → (Lit.int .i64 a1_13).wf = true → a1_14.size ≤ 9223372036854775807 → (l1_15.length ≤ 9223372036854775807 ∧ ∀ x ∈ l1_15, ((Lit.int .i64 x.f0).wf = true ∧ ((Lit.int .i64 x.f1.f0).wf = true ∧ (Lit.int .i64 x.f1.f1).wf = true ∧ (Lit.int .i64 x.f1.f2).wf = true ∧ (Lit.int .i64 x.f1.f3).wf = true ∧ x.f1.f4.size ≤ 9223372036854775807))) → ∃ k, laws_FnExactMsgSame.f k a0_0 a0_1 a0_2 a0_3 a0_4 a0_5 a0_6 a0_7 a0_8 a0_9 a0_10 a0_11 a0_12 a0_13 a0_14 l0_15 a1_0 a1_1 a1_2 a1_3 a1_4 a1_5 a1_6 a1_7 a1_8 a1_9 a1_10 a1_11 a1_12 a1_13 a1_14 l1_15 = some true := by
  intro a0 a1 a2 a3 a4 a5 a6 a7 a8 a9 b0 b1 b2 b3 b4 l c0 c1 c2 c3 c4 c5 c6 c7 c8 c9 d0 d1 d2 d3 d4 m _ _ _ _ _ _ _ _ h9 _ _ _ _ hb hl _ _ _ _ _ _ _ _ g9 _ _ _ _ gd hm
  refine Ev.rounds ?_
  unfold laws_FnExactMsgSame.f
  obtain ⟨r, er, hr1, hr2⟩ := sz_msg a0 a1 a2 a3 a4 a5 a6 a7 a8 a9 b0 b1 b2 b3 b4 l 1048576 h9 hb hl.1 (fun x hx => (hl.2 x hx).2.2.2.2.2) (by omega) (by omega)
  refine Ev.bind er ?_
  by_cases h : r < 0
  · simp only [if_pos h]; exact Ev.now _
  · simp only [if_neg h]
    obtain ⟨q, eq, hq1, hq2⟩ := sz_msg c0 c1 c2 c3 c4 c5 c6 c7 c8 c9 d0 d1 d2 d3 d4 m r g9 gd hm.1 (fun x hx => (hm.2 x hx).2.2.2.2.2) (by omega) (by omega)
    refine Ev.bind eq ?_
    by_cases h' : q < 0
    · simp only [if_pos h']; exact Ev.now _
    · simp only [if_neg h']
      have L := hr1 (by omega)
      have M := hq1 (by omega)
      have L' : (l.map cvE).length ≤ 1048576 := by rw [List.length_map]; exact L
      have M' : (m.map cvE).length ≤ 1048576 := by rw [List.length_map]; exact M
      have tl := to_msg a0 a1 a2 a3 a4 a5 a6 a7 a8 a9 b0 b1 b2 b3 b4 l L
      have tm := to_msg c0 c1 c2 c3 c4 c5 c6 c7 c8 c9 d0 d1 d2 d3 d4 m M
      refine Ev.bind tl (Ev.bind tm (Ev.bind (s_MsgSame _ _ _ _ _ _ _ _ _ _ _ _ _ _ _ _ _ _ _ _ _ _ _ _ _ _ _ _ _ _ _ _ L') (Ev.bind tl (Ev.bind tm (Ev.bind (i_MsgSame _ _ _ _ _ _ _ _ _ _ _ _ _ _ _ _ _ _ _ _ _ _ _ _ _ _ _ _ _ _ _ _ L') ?_)))))
      simp only [bne_self_eq_false, Bool.false_eq_true, if_false]
      refine Ev.bind tl (Ev.bind (eq_msg _ _ _ _ _ _ _ _ _ _ _ _ _ _ _ _ L') ?_)
      simp only [if_true]
      refine Ev.bind tm (Ev.bind (eq_msg _ _ _ _ _ _ _ _ _ _ _ _ _ _ _ _ M') ?_)
      simp only [if_true]
      exact Ev.now _

end Go.Proofs.Ytngilepbpfdigaa.Pure
