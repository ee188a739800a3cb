-- Written by a program of this session (wip/opq/msgfits.py).
import Derived.Test.YtngilepbpfdigaaQFnExactMsgFitsx3
import Derived.Test.YtngilepbpfdigaaQFnExactMsgFitsx4
import Derived.Test.YtngilepbpfdigaaQFnExactMsgFitsx5
import Derived.Test.YtngilepbpfdigaaQFnExactMsgFitsx6
import Derived.Test.YtngilepbpfdigaaQFnExactMsgFitsx8
import Derived.Test.YtngilepbpfdigaaQFnExactMsgFitsx9
import Derived.Test.YtngilepbpfdigaaQFnExactMsgFitsx10
namespace Go.Proofs.Ytngilepbpfdigaa.Pure
open Go.RowKit Go.Proofs.Ytngilepbpfdigaa.QFnExactMsgFits Go.Proofs.YtngilepbpfdigaaW.PrintWords Go.Proofs.YtngilepbpfdigaaW.PrintLast
set_option linter.unusedVariables false
set_option linter.unusedSimpArgs false

theorem w64 (n : Int) (h0 : -9223372036854775808 ≤ n) (h1 : n ≤ 9223372036854775807) : wrap64 n = n := by unfold wrap64; omega
theorem tmn {a : Int} (b : Int) (h : 0 ≤ a) : Int.tmod a b = a % b := Int.tmod_eq_emod_of_nonneg h
theorem wfi {x : Int} (h : (Lit.int .i64 x).wf = true) : -9223372036854775808 ≤ x ∧ x ≤ 9223372036854775807 := by
  simp [Lit.wf, IntKind.min, IntKind.max, IntKind.signed, IntKind.bits] at h
  omega
theorem wf8 {x : Int} (h : (Lit.int .u8 x).wf = true) : 0 ≤ x ∧ x ≤ 255 := by
  simp [Lit.wf, IntKind.min, IntKind.max, IntKind.signed, IntKind.bits] at h
  omega
theorem evc {α : Type} {g : Nat → Option α} {r : α} (h : ∀ k, g k = some r) : Ev g r := ⟨0, fun k _ => h k⟩
theorem getD_mem {α : Type} (l : List α) (n : Nat) (z : α) (h : n < l.length) : l.getD n z ∈ l := by
  rw [List.getD_eq_getElem?_getD, List.getElem?_eq_getElem h]
  exact List.getElem_mem h
theorem ex_step {α : Type} {g f : Nat → Option α} (h : ∀ k, g (k + 1) = f k) (e : ∃ r, Ev f r) : ∃ r, Ev g r := by
  obtain ⟨r, e⟩ := e
  exact ⟨r, Ev.step h e⟩
theorem ex_bind {α β : Type} {g : Nat → Option α} {f : Nat → α → Option β} {a : α} (h : Ev g a) (e : ∃ r, Ev (fun n => f n a) r) : ∃ r, Ev (fun n => (g n).bind (f n)) r := by
  obtain ⟨r, e⟩ := e
  exact ⟨r, Ev.bind h e⟩

theorem up_ind (n : Nat) (P : Nat → Prop) (he : P n) (hs : ∀ i, i < n → P (i + 1) → P i) (i : Nat) (h : i ≤ n) : P i := by
  have key : ∀ (d i : Nat), i + d = n → P i := by
    intro d
    induction d with
    | zero => intro i h; obtain rfl : i = n := by omega
              exact he
    | succ d ih => intro i h; exact hs i (by omega) (ih (i + 1) (by omega))
  exact key (n - i) i (by omega)
theorem eq_fill {β : Type} (y : Nat → β) (n : Nat) (ys : List β) (hl : ys.length = n) (h : ∀ j, j < n → ys[j]? = some (y j)) : ys = (List.range n).map y := by
  apply List.ext_getElem?
  intro j
  by_cases hj : j < n
  · rw [h j hj]; simp [hj]
  · rw [List.getElem?_eq_none (by omega), List.getElem?_eq_none (by simp; omega)]
theorem map_rd {α β : Type} (l : List α) (z : α) (f : α → β) : (List.range l.length).map (fun i => f (l.getD i z)) = l.map f := by
  apply List.ext_getElem?
  intro j
  by_cases hj : j < l.length
  · simp [hj, List.getD]
  · rw [List.getElem?_eq_none (by simp; omega), List.getElem?_eq_none (by simp; omega)]
theorem set_fill {β : Type} (y : Nat → β) (i : Nat) (ys : List β) (h : ∀ j, j < i → ys[j]? = some (y j)) (hi : i < ys.length) : ∀ j, j < i + 1 → (ys.set i (y i))[j]? = some (y j) := by
  intro j hj
  by_cases e : j = i
  · subst e; rw [List.getElem?_set_self hi]
  · rw [List.getElem?_set_ne (by omega)]; exact h j (by omega)
theorem inc (i : Nat) (h : i < 1000000000000000) : wrap64 ((i : Int) + 1) = ((i + 1 : Nat) : Int) := by rw [w64 _ (by omega) (by omega)]; omega

theorem bal (s : ByteArray) : s.toList = s.data.toList := ByteArray.toList_eq s
theorem bal_nil (s : ByteArray) : s.toList = ([] : List UInt8) ↔ s.size = 0 := by
  rw [bal, ← data_length]
  exact List.length_eq_zero_iff.symm

theorem i_within (n a b : Int) : impl_within.f n a b = some (decide (a ≤ n ∧ n ≤ b)) := by
  unfold impl_within.f
  by_cases h : n ≥ a
  · rw [if_pos h]; simp [show a ≤ n from h]
  · rw [if_neg h]; simp [show ¬ a ≤ n from h]

theorem s_In (n a b : Int) : spec_l1In.f n a b = some (decide (a ≤ n ∧ n ≤ b)) := by
  unfold spec_l1In.f
  by_cases h : n ≥ a
  · rw [if_pos h]; simp [show a ≤ n from h]
  · rw [if_neg h]; simp [show ¬ a ≤ n from h]

theorem sz_cmd (k r n z : Int) (d : ByteArray) (a : Int) (hd : d.size ≤ 9223372036854775807) (h0 : 0 ≤ a) (h1 : a ≤ 1048576) : ∃ t, laws_szCmd.f k r n z d a = some t ∧ t ≤ a ∧ (t < 0 ∨ 0 ≤ t) := by
  unfold laws_szCmd.f
  rw [w64 (a - (d.size : Int)) (by omega) (by omega)]
  by_cases h : a - (d.size : Int) < 0
  · rw [if_pos h]; exact ⟨_, rfl, by omega, by omega⟩
  · rw [if_neg h]; exact ⟨_, rfl, by omega, by omega⟩
theorem sz_entries (l : List S53) (a : Int) (ha : 0 ≤ a) (ha2 : a ≤ 1048576) (hl : l.length ≤ 9223372036854775807) (hs : ∀ x ∈ l, x.f1.f4.size ≤ 9223372036854775807) : ∃ r, Ev (fun k => laws_szEntryS.f k l a) r ∧ (0 ≤ r → l.length ≤ 1048576) ∧ r ≤ a := by
  unfold laws_szEntryS.f
  rw [w64 (a - (l.length : Int)) (by omega) (by omega)]
  by_cases h : a - (l.length : Int) < 0
  · simp only [if_pos h]; exact ⟨_, Ev.now _, fun h => by omega, by omega⟩
  · simp only [if_neg h]
    have key := up_ind l.length (fun i => ∀ b : Int, 0 ≤ b → b ≤ a → ∃ r, Ev (fun k => laws_szEntryS.l0 k l b (i : Int)) r ∧ r ≤ a)
      (by
        intro b h1 h2
        refine ⟨b, Ev.step (fun k => by rw [laws_szEntryS.l0]) ?_, h2⟩
        simp only [Int.lt_irrefl, if_false]
        exact Ev.now _)
      (by
        intro i hi ih b h1 h2
        have hx : (rd_T53 l (i : Int)).f1.f4.size ≤ 9223372036854775807 := hs _ (getD_mem _ _ _ (by omega))
        obtain ⟨t, et, ht, hc⟩ := sz_cmd (rd_T53 l (i : Int)).f1.f0 (rd_T53 l (i : Int)).f1.f1 (rd_T53 l (i : Int)).f1.f2 (rd_T53 l (i : Int)).f1.f3 (rd_T53 l (i : Int)).f1.f4 b hx h1 (by omega)
        by_cases h3 : t < 0
        · refine ⟨-1, Ev.step (fun k => by rw [laws_szEntryS.l0]) ?_, by omega⟩
          unfold laws_szEntry.f
          rw [et]
          simp only [if_pos (show (i : Int) < (l.length : Int) by omega), if_pos (show 0 ≤ (i : Int) by omega), Option.bind_some, if_pos h3, if_pos (show (-1 : Int) < 0 by omega)]
          exact Ev.now _
        · obtain ⟨r, er, hr⟩ := ih t (by omega) (by omega)
          refine ⟨r, Ev.step (fun k => by rw [laws_szEntryS.l0]) ?_, hr⟩
          unfold laws_szEntry.f
          rw [et, inc i (by omega)]
          simp only [if_pos (show (i : Int) < (l.length : Int) by omega), if_pos (show 0 ≤ (i : Int) by omega), Option.bind_some, if_neg h3]
          exact er)
    obtain ⟨r, e, hr⟩ := key 0 (by omega) (a - (l.length : Int)) (by omega) (by omega)
    exact ⟨r, e, fun _ => by omega, hr⟩

def cvE (x : S53) : S40 := ⟨x.f0, ⟨x.f1.f0, x.f1.f1, x.f1.f2, x.f1.f3, x.f1.f4⟩⟩
theorem to_entries (l : List S53) (hl : l.length ≤ 1048576) : Ev (fun k => laws_toEntryS.f k l) (l.map cvE) := by
  unfold laws_toEntryS.f
  simp only [if_pos (show 0 ≤ (l.length : Int) by omega), if_pos (show ((l.length : Int) : Int).toNat ≤ 5026338869833 by omega)]
  have key := up_ind l.length (fun i => ∀ ys : List S40, ys.length = l.length → (∀ j, j < i → ys[j]? = some (cvE (l.getD j z53))) → Ev (fun k => laws_toEntryS.l0 k l ys (i : Int)) (l.map cvE))
    (by
      intro ys hy h
      refine Ev.step (fun k => by rw [laws_toEntryS.l0]) ?_
      simp only [Int.lt_irrefl, if_false]
      rw [eq_fill (fun j => cvE (l.getD j z53)) l.length ys hy h, map_rd]
      exact Ev.now _)
    (by
      intro i hi ih ys hy h
      refine Ev.step (fun k => by rw [laws_toEntryS.l0]) ?_
      unfold laws_toEntry.f laws_toCmd.f
      simp only [Option.bind_some, if_pos (show (i : Int) < (l.length : Int) by omega), if_pos (show 0 ≤ (i : Int) by omega), if_pos (show (i : Int) < (ys.length : Int) by omega)]
      rw [inc i (by omega)]
      exact ih _ (by rw [List.length_set]; exact hy) (set_fill (fun j => cvE (l.getD j z53)) i ys h (by omega)))
  exact key 0 (by omega) (List.replicate ((l.length : Int) : Int).toNat z40) (by simp) (fun j hj => by omega)

theorem eq_cmd (k r n z : Int) (d : ByteArray) : laws_eqCmd.f k r n z d k r n z d = some true := by
  unfold laws_eqCmd.f; simp
theorem eq_entries (l : List S40) (hl : l.length ≤ 1048576) : Ev (fun k => laws_eqEntryS.f k l l) true := by
  unfold laws_eqEntryS.f
  simp only [if_true]
  have key := up_ind l.length (fun i => Ev (fun k => laws_eqEntryS.l0 k l l (i : Int)) true)
    (by
      refine Ev.step (fun k => by rw [laws_eqEntryS.l0]) ?_
      simp only [Int.lt_irrefl, if_false]
      exact Ev.now _)
    (by
      intro i hi ih
      refine Ev.step (fun k => by rw [laws_eqEntryS.l0]) ?_
      unfold laws_eqEntry.f
      simp only [eq_cmd, if_pos (show (i : Int) < (l.length : Int) by omega), if_pos (show 0 ≤ (i : Int) by omega), if_true, Option.bind_some]
      rw [inc i (by omega)]
      exact ih)
  exact key 0 (by omega)

theorem sz_msg (a0 a1 a2 a3 a4 a5 : Int) (a6 : Bool) (a7 a8 : Int) (a9 : ByteArray) (b0 b1 b2 b3 : Int) (b4 : ByteArray) (l : List S53) (a : Int) (h9 : a9.size ≤ 9223372036854775807) (hb : b4.size ≤ 9223372036854775807) (hl : l.length ≤ 9223372036854775807) (hs : ∀ x ∈ l, x.f1.f4.size ≤ 9223372036854775807) (h0 : 0 ≤ a) (h1 : a ≤ 1048576) :
    ∃ r, Ev (fun k => laws_szMsg.f k a0 a1 a2 a3 a4 a5 a6 a7 a8 a9 b0 b1 b2 b3 b4 l a) r ∧ (0 ≤ r → l.length ≤ 1048576) ∧ r ≤ a := by
  unfold laws_szMsg.f
  rw [w64 (a - (a9.size : Int)) (by omega) (by omega)]
  by_cases h : a - (a9.size : Int) < 0
  · simp only [if_pos h]; exact ⟨_, Ev.now _, fun h => by omega, by omega⟩
  · simp only [if_neg h]
    obtain ⟨t, et, ht, _⟩ := sz_cmd b0 b1 b2 b3 b4 (a - (a9.size : Int)) hb (by omega) (by omega)
    rw [et]
    simp only [Option.bind_some]
    by_cases h2 : t < 0
    · simp only [if_pos h2]; exact ⟨_, Ev.now _, fun h => by omega, by omega⟩
    · simp only [if_neg h2]
      obtain ⟨r, er, hr1, hr2⟩ := sz_entries l t (by omega) (by omega) hl hs
      by_cases h3 : r < 0
      · exact ⟨-1, Ev.bind er (by simp only [if_pos h3]; exact Ev.now _), fun h => by omega, by omega⟩
      · exact ⟨r, Ev.bind er (by simp only [if_neg h3]; exact Ev.now _), hr1, by omega⟩
theorem to_msg (a0 a1 a2 a3 a4 a5 : Int) (a6 : Bool) (a7 a8 : Int) (a9 : ByteArray) (b0 b1 b2 b3 : Int) (b4 : ByteArray) (l : List S53) (hl : l.length ≤ 1048576) :
    Ev (fun k => laws_toMsg.f k a0 a1 a2 a3 a4 a5 a6 a7 a8 a9 b0 b1 b2 b3 b4 l) (a0, a1, a2, a3, a4, a5, a6, a7, a8, a9, b0, b1, b2, b3, b4, l.map cvE) := by
  unfold laws_toMsg.f laws_toCmd.f
  simp only [Option.bind_some]
  exact Ev.bind (to_entries l hl) (Ev.now _)
theorem eq_msg (a0 a1 a2 a3 a4 a5 : Int) (a6 : Bool) (a7 a8 : Int) (a9 : ByteArray) (b0 b1 b2 b3 : Int) (b4 : ByteArray) (l : List S40) (hl : l.length ≤ 1048576) :
    Ev (fun k => laws_eqMsg.f k a0 a1 a2 a3 a4 a5 a6 a7 a8 a9 b0 b1 b2 b3 b4 l a0 a1 a2 a3 a4 a5 a6 a7 a8 a9 b0 b1 b2 b3 b4 l) true := by
  unfold laws_eqMsg.f
  rw [eq_cmd]
  simp only [if_true, bne_self_eq_false, Bool.false_eq_true, if_false, Option.bind_some]
  refine Ev.bind (eq_entries l hl) ?_
  simp only [if_true]
  exact Ev.now _

def eqE (x y : S40) : Bool := x.f0 == y.f0 && (x.f1.f0 == y.f1.f0 && (x.f1.f1 == y.f1.f1 && (x.f1.f2 == y.f1.f2 && (x.f1.f3 == y.f1.f3 && x.f1.f4.toList == y.f1.f4.toList))))
def eqEs (l m : List S40) : Nat → Nat → Bool
  | 0, _ => true
  | d + 1, i => eqE (rd_T40 l (i : Int)) (rd_T40 m (i : Int)) && eqEs l m d (i + 1)
theorem neqE (x y : S40) : (!((x.f0) == (y.f0)) || ((!((x.f1.f0) == (y.f1.f0)) || (!((x.f1.f1) == (y.f1.f1)) || (!((x.f1.f2) == (y.f1.f2)) || (!((x.f1.f3) == (y.f1.f3)) || (!(((x.f1.f4).toList) == ((y.f1.f4).toList))))))))) = !eqE x y := by
  unfold eqE; simp only [Bool.not_and]
theorem i_equal (l m : List S40) (hl : l.length ≤ 1048576) : Ev (fun k => impl_Entry.f k l m) (decide (l.length = m.length) && eqEs l m l.length 0) := by
  unfold impl_Entry.f
  by_cases h : l.length = m.length
  · simp only [if_pos (show (l.length : Int) = (m.length : Int) by omega), decide_eq_true h, Bool.true_and]
    have key : ∀ (d i : Nat), i + d = l.length → Ev (fun k => impl_Entry.l0 k l m (l.length : Int) (i : Int)) (eqEs l m d i) := by
      intro d
      induction d with
      | zero =>
        intro i hi
        refine Ev.step (fun k => by rw [impl_Entry.l0]) ?_
        simp only [if_neg (show ¬ (i : Int) < (l.length : Int) by omega)]
        exact Ev.now _
      | succ d ih =>
        intro i hi
        refine Ev.step (fun k => by rw [impl_Entry.l0]) ?_
        simp only [neqE, if_pos (show (i : Int) < (l.length : Int) by omega), if_pos (show 0 ≤ (i : Int) by omega), if_pos (show (i : Int) < (m.length : Int) by omega), eqEs]
        rw [inc i (by omega)]
        cases eqE (rd_T40 l (i : Int)) (rd_T40 m (i : Int))
        · simp only [Bool.not_false, if_true, Bool.false_and]; exact Ev.now _
        · simp only [Bool.not_true, Bool.false_eq_true, if_false, Bool.true_and]; exact ih (i + 1) (by omega)
    exact key l.length 0 (by omega)
  · simp only [if_neg (show ¬ (l.length : Int) = (m.length : Int) by omega), decide_eq_false h, Bool.false_and]
    exact Ev.now _
section
variable (a0 a1 a2 a3 a4 a5 : Int) (a6 : Bool) (a7 a8 : Int) (a9 : ByteArray) (b0 b1 b2 b3 : Int) (b4 : ByteArray) (l : List S40) (c0 c1 c2 c3 c4 c5 : Int) (c6 : Bool) (c7 c8 : Int) (c9 : ByteArray) (d0 d1 d2 d3 : Int) (d4 : ByteArray) (m : List S40)
def SameP : Prop := a0 = c0 ∧ a1 = c1 ∧ a2 = c2 ∧ a3 = c3 ∧ a4 = c4 ∧ a5 = c5 ∧ a6 = c6 ∧ a7 = c7 ∧ a8 = c8 ∧ a9.toList = c9.toList ∧ (b0 == d0 && (b1 == d1 && (b2 == d2 && (b3 == d3 && (b4.toList == d4.toList))))) = true
noncomputable def sameM : Bool := @decide (SameP a0 a1 a2 a3 a4 a5 a6 a7 a8 a9 b0 b1 b2 b3 b4 c0 c1 c2 c3 c4 c5 c6 c7 c8 c9 d0 d1 d2 d3 d4) (Classical.propDecidable _) && (decide (l.length = m.length) && eqEs l m l.length 0)
theorem sameM_no (h : ¬ SameP a0 a1 a2 a3 a4 a5 a6 a7 a8 a9 b0 b1 b2 b3 b4 c0 c1 c2 c3 c4 c5 c6 c7 c8 c9 d0 d1 d2 d3 d4) : sameM a0 a1 a2 a3 a4 a5 a6 a7 a8 a9 b0 b1 b2 b3 b4 l c0 c1 c2 c3 c4 c5 c6 c7 c8 c9 d0 d1 d2 d3 d4 m = false := by
  unfold sameM; rw [@decide_eq_false _ (Classical.propDecidable _) h, Bool.false_and]
theorem sameM_yes (h : SameP a0 a1 a2 a3 a4 a5 a6 a7 a8 a9 b0 b1 b2 b3 b4 c0 c1 c2 c3 c4 c5 c6 c7 c8 c9 d0 d1 d2 d3 d4) : sameM a0 a1 a2 a3 a4 a5 a6 a7 a8 a9 b0 b1 b2 b3 b4 l c0 c1 c2 c3 c4 c5 c6 c7 c8 c9 d0 d1 d2 d3 d4 m = (decide (l.length = m.length) && eqEs l m l.length 0) := by
  unfold sameM; rw [@decide_eq_true _ (Classical.propDecidable _) h, Bool.true_and]
theorem i_MsgSame (hl : l.length ≤ 1048576) : Ev (fun k => impl_MsgSame.f k a0 a1 a2 a3 a4 a5 a6 a7 a8 a9 b0 b1 b2 b3 b4 l c0 c1 c2 c3 c4 c5 c6 c7 c8 c9 d0 d1 d2 d3 d4 m) (sameM a0 a1 a2 a3 a4 a5 a6 a7 a8 a9 b0 b1 b2 b3 b4 l c0 c1 c2 c3 c4 c5 c6 c7 c8 c9 d0 d1 d2 d3 d4 m) := by
  unfold impl_MsgSame.f
  by_cases hS : SameP a0 a1 a2 a3 a4 a5 a6 a7 a8 a9 b0 b1 b2 b3 b4 c0 c1 c2 c3 c4 c5 c6 c7 c8 c9 d0 d1 d2 d3 d4
  · rw [sameM_yes _ _ _ _ _ _ _ _ _ _ _ _ _ _ _ _ _ _ _ _ _ _ _ _ _ _ _ _ _ _ _ _ hS]
    obtain ⟨h0, h1, h2, h3, h4, h5, h6, h7, h8, h9, hc⟩ := hS
    simp only [if_pos h0, if_pos h1, if_pos h2, if_pos h3, if_pos h4, if_pos h5, if_pos (show (a6 == c6) = true by simp [h6]), if_pos h7, if_pos h8, if_pos h9, if_pos hc]
    exact Ev.bind (i_equal l m hl) (Ev.now _)
  · rw [sameM_no _ _ _ _ _ _ _ _ _ _ _ _ _ _ _ _ _ _ _ _ _ _ _ _ _ _ _ _ _ _ _ _ hS]
    unfold SameP at hS
    by_cases h0 : a0 = c0 <;> simp only [h0, if_true, if_false, ite_self] <;> first | exact Ev.now _ | skip
    by_cases h1 : a1 = c1 <;> simp only [h1, if_true, if_false, ite_self] <;> first | exact Ev.now _ | skip
    by_cases h2 : a2 = c2 <;> simp only [h2, if_true, if_false, ite_self] <;> first | exact Ev.now _ | skip
    by_cases h3 : a3 = c3 <;> simp only [h3, if_true, if_false, ite_self] <;> first | exact Ev.now _ | skip
    by_cases h4 : a4 = c4 <;> simp only [h4, if_true, if_false, ite_self] <;> first | exact Ev.now _ | skip
    by_cases h6 : (a6 == c6) = true <;> simp only [h6, if_true, if_false, ite_self, Bool.false_eq_true] <;> first | exact Ev.now _ | skip
    by_cases h7 : a7 = c7 <;> simp only [h7, if_true, if_false, ite_self] <;> first | exact Ev.now _ | skip
    by_cases h8 : a8 = c8 <;> simp only [h8, if_true, if_false, ite_self] <;> first | exact Ev.now _ | skip
    by_cases h9 : a9.toList = c9.toList <;> simp only [h9, if_true, if_false, ite_self] <;> first | exact Ev.now _ | skip
    by_cases h5 : a5 = c5 <;> simp only [h5, if_true, if_false, ite_self] <;> first | exact Ev.now _ | skip
    by_cases hc : (b0 == d0 && (b1 == d1 && (b2 == d2 && (b3 == d3 && (b4.toList == d4.toList))))) = true
    · exact absurd ⟨h0, h1, h2, h3, h4, h5, by simpa using h6, h7, h8, h9, hc⟩ hS
    · simp only [if_neg hc]; exact Ev.now _
end

/-- What CmdOk tells. -/
def cOk (q r n z : Int) (d : ByteArray) : Bool := decide ((q = 1 ∧ r = 0 ∧ n = 0 ∧ z = 0 ∧ d.toList = []) ∨ ((1 ≤ r ∧ r ≤ 1000) ∧ ((q = 2 ∧ (0 ≤ z ∧ z ≤ 1000) ∧ (d.size : Int) = 32 ∧ n = 0) ∨ (q = 3 ∧ (0 ≤ n ∧ n ≤ 4) ∧ z = 0 ∧ d.toList = []) ∨ ((q = 4 ∨ q = 5) ∧ n = 0 ∧ z = 0 ∧ d.toList = []))))
theorem ev_eq {g : Nat → Option Bool} {a b : Bool} (h : Ev g a) (e : a = b) : Ev g b := e ▸ h
theorem nil_list : (⟨#[]⟩ : ByteArray).toList = [] := (bal_nil _).2 rfl
theorem s_CmdOk (q r n z : Int) (d : ByteArray) : Ev (fun k => spec_CmdOk.f k q r n z d) (cOk q r n z d) := by
  unfold spec_CmdOk.f
  rw [s_In, s_In]
  simp only [Option.bind_some]
  by_cases h1 : q = 1
  · subst h1
    simp only [if_true]
    refine ev_eq (Ev.now _) ?_
    unfold cOk
    rw [Bool.eq_iff_iff]
    simp
  · simp only [if_neg h1]
    have j : ∀ b : Bool, b = true → Ev (fun k => spec_CmdOk.j0 k b q r n z d q 0 0 0 (⟨#[]⟩ : ByteArray)) false := by
      intro b hb
      refine Ev.step (fun k => by rw [spec_CmdOk.j0]) ?_
      simp only [hb, if_true]
      exact Ev.now _
    by_cases h2 : 2 ≤ q ∧ q ≤ 5
    · simp only [decide_eq_true h2, if_true]
      by_cases h3 : 1 ≤ r ∧ r ≤ 1000
      · simp only [decide_eq_true h3, Bool.not_true]
        refine Ev.step (fun k => by rw [spec_CmdOk.j0]) ?_
        simp only [Bool.false_eq_true, if_false, s_In, Option.bind_some, nil_list]
        by_cases q2 : q = 2
        · subst q2
          simp only [if_true]
          by_cases hz : 0 ≤ z ∧ z ≤ 1000
          · simp only [decide_eq_true hz, if_true]
            by_cases hd : (d.size : Int) = 32
            · simp only [if_pos hd]
              refine ev_eq (Ev.now _) ?_
              unfold cOk
              rw [Bool.eq_iff_iff]
              simp [h3, hz, hd]
            · simp only [if_neg hd]
              refine ev_eq (Ev.now _) ?_
              unfold cOk
              simp [hd]
          · simp only [decide_eq_false hz, Bool.false_eq_true, if_false]
            refine ev_eq (Ev.now _) ?_
            unfold cOk
            simp [hz]
        · simp only [if_neg q2]
          by_cases q3 : q = 3
          · subst q3
            simp only [if_true]
            by_cases hn : 0 ≤ n ∧ n ≤ 4
            · simp only [decide_eq_true hn, if_true]
              refine ev_eq (Ev.now _) ?_
              unfold cOk
              rw [Bool.eq_iff_iff]
              simp [h3, hn]
            · simp only [decide_eq_false hn, Bool.false_eq_true, if_false]
              refine ev_eq (Ev.now _) ?_
              unfold cOk
              simp [hn]
          · simp only [if_neg q3]
            refine ev_eq (Ev.now _) ?_
            have h4 : q = 4 ∨ q = 5 := by omega
            unfold cOk
            rw [Bool.eq_iff_iff]
            simp [h1, q2, q3, h3, h4]
      · simp only [decide_eq_false h3, Bool.not_false]
        refine ev_eq (j true rfl) ?_
        unfold cOk
        simp [h1, h3]
    · simp only [decide_eq_false h2, Bool.false_eq_true, if_false]
      refine ev_eq (j true rfl) ?_
      have a2 : ¬ q = 2 := by omega
      have a3 : ¬ q = 3 := by omega
      have a4 : ¬ q = 4 := by omega
      have a5 : ¬ q = 5 := by omega
      unfold cOk
      simp [h1, a2, a3, a4, a5]
theorem i_CmdOk (q r n z : Int) (d : ByteArray) : impl_CmdOk.f q r n z d = some (cOk q r n z d) := by
  unfold impl_CmdOk.f impl_isRelease.f impl_isSize.f impl_isNode.f
  simp only [i_within, Option.bind_some]
  unfold cOk
  by_cases h1 : q = 1
  · subst h1
    by_cases hr : r = 0 <;> simp [hr]
    rw [Bool.eq_iff_iff]
    simp
  · simp only [if_neg h1]
    by_cases h3 : 1 ≤ r ∧ r ≤ 1000
    · simp only [decide_eq_true h3, if_true]
      by_cases q2 : q = 2
      · subst q2
        by_cases hz : 0 ≤ z ∧ z ≤ 1000
        · by_cases hd : (d.size : Int) = 32
          · simp [h3, hz, hd]
            rw [Bool.eq_iff_iff]
            simp
          · simp [hz, hd]
        · simp [hz]
      · by_cases q3 : q = 3
        · subst q3
          by_cases hn : 0 ≤ n ∧ n ≤ 4
          · simp [h3, hn]
            rw [Bool.eq_iff_iff]
            simp
          · simp [hn]
        · by_cases q4 : q = 4
          · subst q4
            simp [h3]
            rw [Bool.eq_iff_iff]
            simp
          · by_cases q5 : q = 5
            · subst q5
              simp [h3]
              rw [Bool.eq_iff_iff]
              simp
            · simp [h1, q2, q3, q4, q5]
    · simp only [decide_eq_false h3, Bool.false_eq_true, if_false]
      simp [h1, h3]

def inB (s : ByteArray) (b : Int) : Bool := s.data.toList.any fun c => (c.toNat : Int) == b
def numB (h : Bool) (x lo hi : Int) : Bool := if h then decide (lo ≤ x ∧ x ≤ hi) else decide (x = 0)
def hasS (a : Int) : ByteArray := if a = 1 then ⟨#[102, 116, 97, 115]⟩ else if a = 2 then ⟨#[102, 116, 121]⟩ else if a = 3 then ⟨#[102, 116, 97, 115, 99, 101]⟩ else if a = 4 then ⟨#[102, 116, 121, 97]⟩ else if a = 5 then ⟨#[102, 114, 112]⟩ else if a = 6 then ⟨#[102, 114, 112, 98]⟩ else if a = 7 then ⟨#[102, 100]⟩ else ⟨#[]⟩
def fldS (a : Int) : ByteArray := if a = 1 then ⟨#[102, 116, 97, 120]⟩ else if a = 2 then ⟨#[102, 116, 121]⟩ else if a = 3 then ⟨#[102, 116, 97, 120, 99, 101]⟩ else if a = 4 then ⟨#[102, 116, 121, 97]⟩ else if a = 5 then ⟨#[102, 114, 112]⟩ else if a = 6 then ⟨#[102, 114, 112, 98]⟩ else if a = 7 then ⟨#[102, 100]⟩ else ⟨#[]⟩
def inr (lo hi x : Int) : Bool := decide (lo ≤ x ∧ x ≤ hi)
def entT (e : S40) : Bool := inr 1 1000000000 e.f0 && cOk e.f1.f0 e.f1.f1 e.f1.f2 e.f1.f3 e.f1.f4
theorem p_in (s : ByteArray) (b : Int) (hs : s.size ≤ 1000000) : Ev (fun k => spec_l8In.f k s b) (inB s b) := by
  unfold spec_l8In.f inB
  have key := up_ind s.size (fun i => Ev (fun k => spec_l8In.l0 k s b (i : Int)) ((s.data.toList.drop i).any fun c => (c.toNat : Int) == b))
    (by
      refine Ev.step (fun k => by rw [spec_l8In.l0]) ?_
      simp only [Int.lt_irrefl, if_false, show s.data.toList.drop s.size = [] from List.drop_eq_nil_of_le (by simp), List.any_nil]
      exact Ev.now _)
    (by
      intro i hi ih
      refine Ev.step (fun k => by rw [spec_l8In.l0]) ?_
      simp only [if_pos (show (i : Int) < (s.size : Int) by omega), if_pos (show 0 ≤ (i : Int) by omega)]
      have e : bt s (i : Int) = (s[i].toNat : Int) := by unfold bt; rw [dif_pos (by omega)]; rfl
      rw [List.drop_eq_getElem_cons (by simpa using hi), List.any_cons, e, inc i (by omega)]
      have e2 : s.data.toList[i]'(by simpa using hi) = s[i] := rfl
      rw [e2]
      by_cases h : (s[i].toNat : Int) = b
      · simp only [if_pos h, beq_iff_eq.mpr h, Bool.true_or]
        exact Ev.now _
      · simp only [if_neg h, beq_eq_false_iff_ne.mpr h, Bool.false_or]
        exact ih)
  exact key 0 (by omega)
theorem p_num (h : Bool) (x lo hi : Int) : spec_l8Num.f h x lo hi = some (numB h x lo hi) := by
  unfold spec_l8Num.f numB
  rw [s_In]
  simp only [Option.bind_some]
  cases h
  · simp only [Bool.false_eq_true, if_false]
    by_cases h : x = 0 <;> simp [h]
  · simp only [if_true]
    by_cases h : lo ≤ x ∧ x ≤ hi <;> simp [h]
theorem p_has (a : Int) : spec_l8Has.f a = some (hasS a) := by
  unfold spec_l8Has.f
  rw [s_In]
  simp only [Option.bind_some]
  by_cases h : 1 ≤ a ∧ a ≤ 7
  · simp only [decide_eq_true h, if_true]
    rcases (show a = 1 ∨ a = 2 ∨ a = 3 ∨ a = 4 ∨ a = 5 ∨ a = 6 ∨ a = 7 by omega) with rfl | rfl | rfl | rfl | rfl | rfl | rfl <;> rfl
  · simp only [decide_eq_false h, Bool.false_eq_true, if_false]
    unfold hasS
    rw [if_neg (by omega), if_neg (by omega), if_neg (by omega), if_neg (by omega), if_neg (by omega), if_neg (by omega), if_neg (by omega)]
theorem p_fld (a : Int) : impl_fieldsOf.f a = some (fldS a) := by
  unfold impl_fieldsOf.f fldS
  repeat' split
  all_goals rfl
theorem p_ent (t q r n z : Int) (d : ByteArray) : Ev (fun k => spec_l6Entry.f k t q r n z d) (inr 1 1000000000 t && cOk q r n z d) := by
  unfold spec_l6Entry.f inr
  rw [s_In]
  simp only [Option.bind_some]
  by_cases h : 1 ≤ t ∧ t ≤ 1000000000
  · simp only [decide_eq_true h, if_true, Bool.true_and]
    exact Ev.bind (s_CmdOk q r n z d) (Ev.now _)
  · simp only [decide_eq_false h, Bool.false_eq_true, if_false, Bool.false_and]
    exact Ev.now _
theorem p_entryOk (t q r n z : Int) (d : ByteArray) : impl_entryOk.f t q r n z d = some (inr 1 1000000000 t && cOk q r n z d) := by
  unfold impl_entryOk.f inr
  rw [i_within]
  simp only [Option.bind_some, i_CmdOk]
  by_cases h : 1 ≤ t ∧ t ≤ 1000000000
  · simp only [decide_eq_true h, if_true, Bool.true_and]
  · simp only [decide_eq_false h, Bool.false_eq_true, if_false, Bool.false_and]
theorem p_ents (l : List S40) (hl : l.length ≤ 9223372036854775807) : Ev (fun k => impl_entriesOk.f k l) (decide ((l.length : Int) ≤ 6) && l.all entT) := by
  unfold impl_entriesOk.f
  have key := up_ind l.length (fun i => Ev (fun k => impl_entriesOk.l0 k l l (l.length : Int) (i : Int)) (decide ((l.length : Int) ≤ 6) && (l.drop i).all entT))
    (by
      refine Ev.step (fun k => by rw [impl_entriesOk.l0]) ?_
      simp only [Int.lt_irrefl, if_false, List.drop_length, List.all_nil, Bool.and_true]
      exact Ev.now _)
    (by
      intro i hi ih
      refine Ev.step (fun k => by rw [impl_entriesOk.l0]) ?_
      simp only [if_pos (show (i : Int) < (l.length : Int) by omega), if_pos (show 0 ≤ (i : Int) by omega), p_entryOk, Option.bind_some]
      have e : rd_T40 l (i : Int) = l[i] := by
        unfold rd_T40
        rw [List.getD_eq_getElem?_getD, Int.toNat_natCast, List.getElem?_eq_getElem hi]
        rfl
      rw [List.drop_eq_getElem_cons hi, List.all_cons, e, w64 ((i : Int) + 1) (by omega) (by omega), show (i : Int) + 1 = ((i + 1 : Nat) : Int) by omega]
      have e3 : (inr 1 1000000000 l[i].f0 && cOk l[i].f1.f0 l[i].f1.f1 l[i].f1.f2 l[i].f1.f3 l[i].f1.f4) = entT l[i] := rfl
      rw [e3]
      cases entT l[i]
      · simp only [Bool.false_eq_true, if_false, Bool.false_and, Bool.and_false]
        exact Ev.now _
      · simp only [if_true, Bool.true_and]
        exact ih)
  exact key 0 (by omega)
theorem p_node (x : Int) : impl_isNode.f x = some (inr 0 4 x) := by unfold impl_isNode.f inr; rw [i_within]; rfl
theorem p_whole (x : Int) : impl_isWhole.f x = some (inr 0 1000000000 x) := by unfold impl_isWhole.f inr; rw [i_within]; rfl
theorem p_within (x lo hi : Int) : impl_within.f x lo hi = some (inr lo hi x) := by unfold inr; rw [i_within]
theorem p_rel (x : Int) : impl_isRelease.f x = some (inr 1 1000 x) := by unfold impl_isRelease.f inr; rw [i_within]; rfl
theorem p_siz (x : Int) : impl_isSize.f x = some (inr 0 1000 x) := by unfold impl_isSize.f inr; rw [i_within]; rfl

end Go.Proofs.Ytngilepbpfdigaa.Pure
namespace Go.Proofs.Ytngilepbpfdigaa.QFnExactMsgFits
open Go.RowKit Go.Proofs.YtngilepbpfdigaaW.PrintWords Go.Proofs.YtngilepbpfdigaaW.PrintLast Go.Proofs.YtngilepbpfdigaaW.PrintMore Go.Proofs.Ytngilepbpfdigaa.Pure
set_option linter.unusedVariables false
set_option linter.unusedSimpArgs false
abbrev X26 := Int × Int × Int × Int × Int × Int × Bool × Int × Int × ByteArray × Int × Int × Int × Int × ByteArray × List S53
/-- What the cells of a value of type 26 say, in world w. -/
def M26 (w : World) (x : X26) (cs : Array Value) : Prop := ∃ (A : Option Addr) (c : Nat), cs = #[.int .i64 x.1, .int .i64 x.2.1, .int .i64 x.2.2.1, .int .i64 x.2.2.2.1, .int .i64 x.2.2.2.2.1, .int .i64 x.2.2.2.2.2.1, .bool x.2.2.2.2.2.2.1, .int .i64 x.2.2.2.2.2.2.2.1, .int .i64 x.2.2.2.2.2.2.2.2.1, .string x.2.2.2.2.2.2.2.2.2.1, .int .i64 x.2.2.2.2.2.2.2.2.2.2.1, .int .i64 x.2.2.2.2.2.2.2.2.2.2.2.1, .int .i64 x.2.2.2.2.2.2.2.2.2.2.2.2.1, .int .i64 x.2.2.2.2.2.2.2.2.2.2.2.2.2.1, .string x.2.2.2.2.2.2.2.2.2.2.2.2.2.2.1, .slice A x.2.2.2.2.2.2.2.2.2.2.2.2.2.2.2.length c] ∧ x.2.2.2.2.2.2.2.2.2.2.2.2.2.2.2.length ≤ c ∧ Kd.C k53 w A x.2.2.2.2.2.2.2.2.2.2.2.2.2.2.2.length x.2.2.2.2.2.2.2.2.2.2.2.2.2.2.2
theorem M26.below {w w' : World} {x : X26} {cs : Array Value} (h : M26 w x cs) (hb : Below w.heap.size w w') : M26 w' x cs := by
  obtain ⟨A, c, e, hc, hr⟩ := h
  exact ⟨A, c, e, hc, Kd.C_below hr hb⟩
theorem M26.sz {w : World} {x : X26} {cs : Array Value} (h : M26 w x cs) : (Try.prog.info? 26).map (·.size) = some cs.size := by
  obtain ⟨A, c, rfl, hc, hr⟩ := h
  exact (show (Try.prog.info? 26).map (·.size) = some 16 by kernel_rfl)
theorem M26.size {w : World} {x : X26} {cs : Array Value} (h : M26 w x cs) : cs.size = 16 := by
  obtain ⟨A, c, rfl, hc, hr⟩ := h
  rfl
theorem M26.one {w : World} {x : X26} {cs : Array Value} (h : M26 w x cs) : cs.all (·.oneCell') = true := by
  obtain ⟨A, c, rfl, hc, hr⟩ := h
  simp [Value.oneCell']
abbrev X32 := Int × Int × Int × Int × Int × Int × Bool × Int × Int × ByteArray × Int × Int × Int × Int × ByteArray × List S40
/-- What the cells of a value of type 32 say, in world w. -/
def M32 (w : World) (x : X32) (cs : Array Value) : Prop := ∃ (A : Option Addr) (c : Nat), cs = #[.int .i64 x.1, .int .i64 x.2.1, .int .i64 x.2.2.1, .int .i64 x.2.2.2.1, .int .i64 x.2.2.2.2.1, .int .i64 x.2.2.2.2.2.1, .bool x.2.2.2.2.2.2.1, .int .i64 x.2.2.2.2.2.2.2.1, .int .i64 x.2.2.2.2.2.2.2.2.1, .string x.2.2.2.2.2.2.2.2.2.1, .int .i64 x.2.2.2.2.2.2.2.2.2.2.1, .int .i64 x.2.2.2.2.2.2.2.2.2.2.2.1, .int .i64 x.2.2.2.2.2.2.2.2.2.2.2.2.1, .int .i64 x.2.2.2.2.2.2.2.2.2.2.2.2.2.1, .string x.2.2.2.2.2.2.2.2.2.2.2.2.2.2.1, .slice A x.2.2.2.2.2.2.2.2.2.2.2.2.2.2.2.length c] ∧ x.2.2.2.2.2.2.2.2.2.2.2.2.2.2.2.length ≤ c ∧ Kd.C k40 w A x.2.2.2.2.2.2.2.2.2.2.2.2.2.2.2.length x.2.2.2.2.2.2.2.2.2.2.2.2.2.2.2
theorem M32.below {w w' : World} {x : X32} {cs : Array Value} (h : M32 w x cs) (hb : Below w.heap.size w w') : M32 w' x cs := by
  obtain ⟨A, c, e, hc, hr⟩ := h
  exact ⟨A, c, e, hc, Kd.C_below hr hb⟩
theorem M32.sz {w : World} {x : X32} {cs : Array Value} (h : M32 w x cs) : (Try.prog.info? 32).map (·.size) = some cs.size := by
  obtain ⟨A, c, rfl, hc, hr⟩ := h
  exact (show (Try.prog.info? 32).map (·.size) = some 16 by kernel_rfl)
theorem M32.size {w : World} {x : X32} {cs : Array Value} (h : M32 w x cs) : cs.size = 16 := by
  obtain ⟨A, c, rfl, hc, hr⟩ := h
  rfl
theorem M32.one {w : World} {x : X32} {cs : Array Value} (h : M32 w x cs) : cs.all (·.oneCell') = true := by
  obtain ⟨A, c, rfl, hc, hr⟩ := h
  simp [Value.oneCell']
theorem has_t (a : Int) (w : World) : Calls Try.prog 19 #[.int .i64 a] w fun e w' => e = .returned (.string (hasS a)) ∧ Below w.heap.size w w' := spec_l8Has.calls a _ w (p_has a)
theorem hasS_size (a : Int) : (hasS a).size ≤ 6 := by
  unfold hasS
  repeat' split
  all_goals decide
theorem in_t (a b : Int) (w : World) : Calls Try.prog 21 #[.string (hasS a), .int .u8 b] w fun e w' => e = .returned (.bool (inB (hasS a) b)) ∧ Drawn0 w w' := by
  obtain ⟨K, h⟩ := p_in (hasS a) b (Nat.le_trans (hasS_size a) (by decide))
  exact spec_l8In.calls K _ _ _ w (h K (Nat.le_refl _))
theorem num_t (h : Bool) (x lo hi : Int) (w : World) : Calls Try.prog 20 #[.bool h, .int .i64 x, .int .i64 lo, .int .i64 hi] w fun e w' => e = .returned (.bool (numB h x lo hi)) ∧ Drawn0 w w' := spec_l8Num.calls h x lo hi _ w (p_num h x lo hi)
theorem cmd_t (k r n z : Int) (d : ByteArray) (w : World) : Calls Try.prog 22 #[.agg #[.int .i64 k, .int .i64 r, .int .i64 n, .int .i64 z, .string d]] w fun e w' => e = .returned (.bool (cOk k r n z d)) ∧ Below w.heap.size w w' := by
  obtain ⟨K, h⟩ := s_CmdOk k r n z d
  exact spec_CmdOk.calls K _ _ _ _ _ _ w (h K (Nat.le_refl _))
theorem ent_t (e : S40) (w : World) : Calls Try.prog 23 #[.agg #[.int .i64 e.f0, .int .i64 e.f1.f0, .int .i64 e.f1.f1, .int .i64 e.f1.f2, .int .i64 e.f1.f3, .string e.f1.f4]] w fun e' w' => e' = .returned (.bool (entT e)) ∧ Below w.heap.size w w' := by
  obtain ⟨K, h⟩ := p_ent e.f0 e.f1.f0 e.f1.f1 e.f1.f2 e.f1.f3 e.f1.f4
  exact spec_l6Entry.calls K _ _ _ _ _ _ _ w (h K (Nat.le_refl _))
theorem node_t (x : Int) (w : World) : Calls Try.prog 30 #[.int .i64 x] w fun e w' => e = .returned (.bool (inr 0 4 x)) ∧ Drawn0 w w' := impl_isNode.calls x _ w (p_node x)
theorem whole_t (x : Int) (w : World) : Calls Try.prog 31 #[.int .i64 x] w fun e w' => e = .returned (.bool (inr 0 1000000000 x)) ∧ Drawn0 w w' := impl_isWhole.calls x _ w (p_whole x)
theorem with_t (x lo hi : Int) (w : World) : Calls Try.prog 32 #[.int .i64 x, .int .i64 lo, .int .i64 hi] w fun e w' => e = .returned (.bool (inr lo hi x)) ∧ Drawn0 w w' := impl_within.calls x lo hi _ w (p_within x lo hi)
theorem rel_t (x : Int) (w : World) : Calls Try.prog 33 #[.int .i64 x] w fun e w' => e = .returned (.bool (inr 1 1000 x)) ∧ Drawn0 w w' := impl_isRelease.calls x _ w (p_rel x)
theorem siz_t (x : Int) (w : World) : Calls Try.prog 34 #[.int .i64 x] w fun e w' => e = .returned (.bool (inr 0 1000 x)) ∧ Drawn0 w w' := impl_isSize.calls x _ w (p_siz x)
theorem icmd_t (k r n z : Int) (d : ByteArray) (w : World) : Calls Try.prog 35 #[.agg #[.int .i64 k, .int .i64 r, .int .i64 n, .int .i64 z, .string d]] w fun e w' => e = .returned (.bool (cOk k r n z d)) ∧ Below w.heap.size w w' := impl_CmdOk.calls k r n z d _ w (i_CmdOk k r n z d)
theorem ents_t (A : Option Addr) (c : Nat) (l : List S40) (w : World) (hr : Kd.C k40 w A l.length l) (hc : l.length ≤ c) : Calls Try.prog 36 #[.slice A l.length c] w fun e w' => e = .returned (.bool (decide ((l.length : Int) ≤ 6) && l.all entT)) ∧ Below w.heap.size w w' := by
  obtain ⟨K, h⟩ := p_ents l hr.2.1
  exact impl_entriesOk.calls K A c l _ w hr hc (h K (Nat.le_refl _))
theorem fld_t (a : Int) (w : World) : Calls Try.prog 24 #[.int .i64 a] w fun e w' => e = .returned (.string (fldS a)) ∧ Drawn0 w w' := impl_fieldsOf.calls a _ w (p_fld a)
noncomputable def smB (x y : X32) : Bool := sameM x.1 x.2.1 x.2.2.1 x.2.2.2.1 x.2.2.2.2.1 x.2.2.2.2.2.1 x.2.2.2.2.2.2.1 x.2.2.2.2.2.2.2.1 x.2.2.2.2.2.2.2.2.1 x.2.2.2.2.2.2.2.2.2.1 x.2.2.2.2.2.2.2.2.2.2.1 x.2.2.2.2.2.2.2.2.2.2.2.1 x.2.2.2.2.2.2.2.2.2.2.2.2.1 x.2.2.2.2.2.2.2.2.2.2.2.2.2.1 x.2.2.2.2.2.2.2.2.2.2.2.2.2.2.1 x.2.2.2.2.2.2.2.2.2.2.2.2.2.2.2 y.1 y.2.1 y.2.2.1 y.2.2.2.1 y.2.2.2.2.1 y.2.2.2.2.2.1 y.2.2.2.2.2.2.1 y.2.2.2.2.2.2.2.1 y.2.2.2.2.2.2.2.2.1 y.2.2.2.2.2.2.2.2.2.1 y.2.2.2.2.2.2.2.2.2.2.1 y.2.2.2.2.2.2.2.2.2.2.2.1 y.2.2.2.2.2.2.2.2.2.2.2.2.1 y.2.2.2.2.2.2.2.2.2.2.2.2.2.1 y.2.2.2.2.2.2.2.2.2.2.2.2.2.2.1 y.2.2.2.2.2.2.2.2.2.2.2.2.2.2.2
theorem im_t (x y : X32) (cs ds : Array Value) (w : World) (hx : M32 w x cs) (hy : M32 w y ds) (hl : x.2.2.2.2.2.2.2.2.2.2.2.2.2.2.2.length ≤ 1048576) : Calls Try.prog 8 #[.agg cs, .agg ds] w fun e w' => e = .returned (.bool (smB x y)) ∧ Below w.heap.size w w' := by
  obtain ⟨A0, c0, rfl, hc0, hr0⟩ := hx
  obtain ⟨A1, c1, rfl, hc1, hr1⟩ := hy
  obtain ⟨K, h⟩ := i_MsgSame x.1 x.2.1 x.2.2.1 x.2.2.2.1 x.2.2.2.2.1 x.2.2.2.2.2.1 x.2.2.2.2.2.2.1 x.2.2.2.2.2.2.2.1 x.2.2.2.2.2.2.2.2.1 x.2.2.2.2.2.2.2.2.2.1 x.2.2.2.2.2.2.2.2.2.2.1 x.2.2.2.2.2.2.2.2.2.2.2.1 x.2.2.2.2.2.2.2.2.2.2.2.2.1 x.2.2.2.2.2.2.2.2.2.2.2.2.2.1 x.2.2.2.2.2.2.2.2.2.2.2.2.2.2.1 x.2.2.2.2.2.2.2.2.2.2.2.2.2.2.2 y.1 y.2.1 y.2.2.1 y.2.2.2.1 y.2.2.2.2.1 y.2.2.2.2.2.1 y.2.2.2.2.2.2.1 y.2.2.2.2.2.2.2.1 y.2.2.2.2.2.2.2.2.1 y.2.2.2.2.2.2.2.2.2.1 y.2.2.2.2.2.2.2.2.2.2.1 y.2.2.2.2.2.2.2.2.2.2.2.1 y.2.2.2.2.2.2.2.2.2.2.2.2.1 y.2.2.2.2.2.2.2.2.2.2.2.2.2.1 y.2.2.2.2.2.2.2.2.2.2.2.2.2.2.1 y.2.2.2.2.2.2.2.2.2.2.2.2.2.2.2 hl
  exact impl_MsgSame.calls K x.1 x.2.1 x.2.2.1 x.2.2.2.1 x.2.2.2.2.1 x.2.2.2.2.2.1 x.2.2.2.2.2.2.1 x.2.2.2.2.2.2.2.1 x.2.2.2.2.2.2.2.2.1 x.2.2.2.2.2.2.2.2.2.1 x.2.2.2.2.2.2.2.2.2.2.1 x.2.2.2.2.2.2.2.2.2.2.2.1 x.2.2.2.2.2.2.2.2.2.2.2.2.1 x.2.2.2.2.2.2.2.2.2.2.2.2.2.1 x.2.2.2.2.2.2.2.2.2.2.2.2.2.2.1 A0 c0 x.2.2.2.2.2.2.2.2.2.2.2.2.2.2.2 y.1 y.2.1 y.2.2.1 y.2.2.2.1 y.2.2.2.2.1 y.2.2.2.2.2.1 y.2.2.2.2.2.2.1 y.2.2.2.2.2.2.2.1 y.2.2.2.2.2.2.2.2.1 y.2.2.2.2.2.2.2.2.2.1 y.2.2.2.2.2.2.2.2.2.2.1 y.2.2.2.2.2.2.2.2.2.2.2.1 y.2.2.2.2.2.2.2.2.2.2.2.2.1 y.2.2.2.2.2.2.2.2.2.2.2.2.2.1 y.2.2.2.2.2.2.2.2.2.2.2.2.2.2.1 A1 c1 y.2.2.2.2.2.2.2.2.2.2.2.2.2.2.2 _ w hr0 hc0 hr1 hc1 (h K (Nat.le_refl _))
theorem store_new {W w1 : World} {g t : Nat} {old ds : Array Value} (hg : g = W.heap.size) (hbox : w1.heap[g]? = some (.cells old t (0, 0))) (hb : Below W.heap.size W w1) :
    Below W.heap.size W (w1.setRow g ds) ∧ (w1.setRow g ds).heap[g]? = some (.cells ds t (0, 0)) :=
  ⟨hb.trans ⟨rfl, rfl, rfl, by simp, fun k hk => setRow_other _ _ _ _ (by omega)⟩, setRow_heap w1 g old ds t (0, 0) hbox⟩
theorem load_run {P : Program} {o : Oper} {a : Act} {w : World} (ty : TypeId) (x : Operand) (ho : o.op = .load ty x)
    (g : Nat) (hx : a.eval x = .pointer (some ⟨g, 0, none⟩)) (t : TypeId) (cs : Array Value) (fr : Nat × Nat) (d : TypeDesc) (hg : w.heap[g]? = some (.cells cs t fr))
    (hu : P.underlying ty = some d) (hd : (match d with | .struct _ | .array _ _ => true | _ => false) = true) (hi : (P.info? ty).map (·.size) = some cs.size) : (execOp a.eval o).run P w = .ok (.value (.agg cs)) w := by
  unfold execOp
  simp only [ho, hx, Instr.loadAt, Instr.sureAddr, Sem.run_bind, Sem.run_pure, Result.andThen_ok, run_loadVar_row w g t ty cs fr d hg hu hd hi]

end Go.Proofs.Ytngilepbpfdigaa.QFnExactMsgFits
