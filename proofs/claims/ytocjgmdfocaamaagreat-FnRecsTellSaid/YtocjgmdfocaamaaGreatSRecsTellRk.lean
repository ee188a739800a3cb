/- Words for the walk of what a node tells: records that are laid on, rows that agree; a state that several ways lead to. -/
import Derived.Test.YtocjgmdfocaamaaGreatSRecsTellRj
set_option linter.unusedVariables false
set_option linter.unusedSimpArgs false
namespace Go.Sy
section
variable {P : Program} {N : Cx}
theorem AW.joinS {x y : Code} {σ : Sg} {K : Exit → Sg → Prop} {β : Type} (S : β → Sg) (R : β → Prop) (h1 : AW P N x σ (thenK (fun s => ∃ b, R b ∧ Sub N s (S b)) K)) (h2 : ∀ b, R b → AW P N y (S b) K) : AW P N (.seq x y) σ K :=
  AW.seq (AW.mono h1 fun e s h => by
    cases e with
    | normal =>
      obtain ⟨b, hr, hs⟩ := h
      exact AW.weak hs (h2 b hr)
    | _ => exact h)
end
def NodeNums (r : Raft) : Prop := (r.of_ = 1 ∨ r.of_ = 3 ∨ r.of_ = 5) ∧ (0 ≤ r.id ∧ r.id < r.of_) ∧ (0 ≤ r.hard.term ∧ r.hard.term ≤ 1000000000) ∧ r.hard.log.length ≤ 80 ∧ SmallR r
theorem ok_nums {r : Raft} (h : raftOk r = true) : NodeNums r := by
  have := NodeIn.nums (n := r.of_) ⟨h, rfl⟩
  exact ⟨this.1, this.2.1, this.2.2.2.1, this.2.2.2.2.1, this.2.2.2.2.2⟩
theorem heard_y {r : Raft} {m : Msg} (h : m.kind = 2) : heardR r m = yess r m := by unfold heardR; rw [if_pos h]
theorem heard_s {r : Raft} {m : Msg} (h0 : ¬ m.kind = 2) (h : m.kind = 3) : heardR r m = sends r m := by unfold heardR; rw [if_neg h0, if_pos h]
theorem heard_g {r : Raft} {m : Msg} (h0 : ¬ m.kind = 2) (h1 : ¬ m.kind = 3) (h : m.kind = 4) : heardR r m = gots r m := by unfold heardR; rw [if_neg h0, if_neg h1, if_pos h]
theorem heard_a {r : Raft} {m : Msg} (h0 : ¬ m.kind = 2) (h1 : ¬ m.kind = 3) (h : ¬ m.kind = 4) : heardR r m = (askR r m, askRecs r m, askOuts r m) := by unfold heardR; rw [if_neg h0, if_neg h1, if_neg h]
def recEqA (a b : Rec) : Bool := (a.kind == b.kind) && ((a.term == b.term) && ((a.vote == b.vote) && ((a.at_ == b.at_) && ((entEq a.entry b.entry) && true))))
theorem rec1 (x : Rec) (z : Ent) : recEqA x ⟨x.kind, x.term, x.vote, 0, z⟩ = (x.at_ == 0 && entEq x.entry z) := by simp [recEqA]
theorem rec2 (x : Rec) : recEqA x ⟨x.kind, 0, 0, x.at_, x.entry⟩ = (x.term == 0 && x.vote == 0) := by simp [recEqA, entEq_refl]
theorem rec3 (x : Rec) (z : Ent) : recEqA x ⟨x.kind, 0, 0, x.at_, z⟩ = (x.term == 0 && (x.vote == 0 && entEq x.entry z)) := by simp [recEqA]
theorem recOk_1 {x : Rec} (h : x.kind = 1) : recOk x = (inR x.term 0 1000000000 && (inR x.vote 0 5 && (x.at_ == 0 && entEq x.entry zEnt))) := by unfold recOk; rw [if_pos h]
theorem recOk_2 {x : Rec} (h0 : ¬ x.kind = 1) (h : x.kind = 2) : recOk x = (inR x.at_ 1 80 && (entOk x.entry && (x.term == 0 && x.vote == 0))) := by unfold recOk; rw [if_neg h0, if_pos h]
theorem recOk_3 {x : Rec} (h0 : ¬ x.kind = 1) (h1 : ¬ x.kind = 2) (h : x.kind = 3) : recOk x = (inR x.at_ 0 80 && (x.term == 0 && (x.vote == 0 && entEq x.entry zEnt))) := by unfold recOk; rw [if_neg h0, if_neg h1, if_pos h]
theorem recOk_0 {x : Rec} (h0 : ¬ x.kind = 1) (h1 : ¬ x.kind = 2) (h : ¬ x.kind = 3) : recOk x = false := by unfold recOk; rw [if_neg h0, if_neg h1, if_neg h]
theorem ha_z {h : Hard} {x : Rec} (h0 : hardOk h = false) : hApply h x = (zHard, false) := by unfold hApply; rw [if_neg (by rw [h0]; decide)]
theorem ha_no {h : Hard} {x : Rec} (h0 : hardOk h = true) (h1 : recGood h x = false ∨ hardOk (recOut h x) = false) : hApply h x = (h, false) := by
  unfold hApply
  rw [if_pos h0, if_neg]
  rintro ⟨a, b⟩
  rcases h1 with q | q
  · rw [a] at q; cases q
  · rw [b] at q; cases q
theorem recOut_1 {h : Hard} {x : Rec} (hk : x.kind = 1) : recOut h x = ⟨x.term, x.vote, h.log⟩ := by unfold recOut; rw [if_pos hk]
theorem recOut_2 {h : Hard} {x : Rec} (h0 : ¬ x.kind = 1) (hk : x.kind = 2) : recOut h x = ⟨h.term, h.vote, h.log ++ [x.entry]⟩ := by unfold recOut; rw [if_neg h0, if_pos hk]
theorem recOut_3 {h : Hard} {x : Rec} (h0 : ¬ x.kind = 1) (h1 : ¬ x.kind = 2) (hk : x.kind = 3) : recOut h x = ⟨h.term, h.vote, h.log.take x.at_.toNat⟩ := by unfold recOut; rw [if_neg h0, if_neg h1, if_pos hk]
theorem recGood_no {h : Hard} {x : Rec} (hr : recOk x = false) : recGood h x = false := by unfold recGood; rw [hr]; rfl
theorem recGood_ok {h : Hard} {x : Rec} (hg : recGood h x = true) : recOk x = true := by
  unfold recGood at hg
  rw [Bool.and_eq_true] at hg
  exact hg.1
theorem good_1 {h : Hard} {x : Rec} (hk : x.kind = 1) : recGood h x = (recOk x && (decide (x.term > h.term) || (x.term == h.term && (h.vote == 0 || h.vote == x.vote)))) := by unfold recGood; rw [if_pos hk]
theorem good_2 {h : Hard} {x : Rec} (h0 : ¬ x.kind = 1) (hk : x.kind = 2) : recGood h x = (recOk x && (x.at_ == (h.log.length : Int) + 1)) := by unfold recGood; rw [if_neg h0, if_pos hk]
theorem good_3 {h : Hard} {x : Rec} (h0 : ¬ x.kind = 1) (h1 : ¬ x.kind = 2) (hk : x.kind = 3) : recGood h x = (recOk x && decide (x.at_ ≤ h.log.length)) := by unfold recGood; rw [if_neg h0, if_neg h1, if_pos hk]
theorem cut_at {h : Hard} {x : Rec} (hk : x.kind = 3) (hg : recGood h x = true) : 0 ≤ x.at_ ∧ x.at_ ≤ h.log.length := by
  have hr := recGood_ok hg
  rw [good_3 (by omega) (by omega) hk, Bool.and_eq_true, decide_eq_true_eq] at hg
  rw [recOk_3 (by omega) (by omega) hk] at hr
  simp only [Bool.and_eq_true, inR_iff] at hr
  exact ⟨hr.1.1, hg.2⟩
theorem saves_step {h n : Hard} {l : List Rec} {i : Nat} {x : Rec} (hs : saves h (l.drop i) n) (he : l[i]? = some x) : (hApply h x).2 = true ∧ saves (hApply h x).1 (l.drop (i + 1)) n := by
  rw [dropCons he] at hs; exact hs
theorem saves_end {h n : Hard} {l : List Rec} {i : Nat} (hs : saves h (l.drop i) n) (hi : l.length ≤ i) : h = n := by
  rw [List.drop_of_length_le hi] at hs; exact hs
theorem keep_at {l m : List Ent} {c : Int} {i : Nat} {x y : Ent} (h : l.take c.toNat = m.take c.toNat) (hi : (i : Int) < c) (hx : l[i]? = some x) (hy : m[i]? = some y) : entEq x y = true := by
  have h1 : (l.take c.toNat)[i]? = some x := by rw [List.getElem?_take, if_pos (by omega)]; exact hx
  have h2 : (m.take c.toNat)[i]? = some y := by rw [List.getElem?_take, if_pos (by omega)]; exact hy
  rw [h] at h1
  rw [Option.some.inj (h1.symm.trans h2)]
  exact entEq_refl _
theorem same_ent {l m : List Ent} {i : Nat} {x y : Ent} (h : l = m) (hx : l[i]? = some x) (hy : m[i]? = some y) (h2 : entEq x y = false) : False := by
  subst h
  rw [Option.some.inj (hx.symm.trans hy), entEq_refl] at h2
  exact Bool.noConfusion h2
theorem hard_len {h : Hard} (q : hardOk h = true) : h.log.length ≤ 80 := by
  simp only [hardOk, Bool.and_eq_true, decide_eq_true_eq] at q
  omega
theorem ok_small {r : Raft} (h : raftOk r = true) : SmallR r := (ok_nums h).2.2.2.2
theorem saves_len {h n : Hard} {l : List Rec} (hs : saves h l n) (hn : hardOk n = true) : h.log.length ≤ 80 := by
  cases l with
  | nil => cases hs; exact hard_len hn
  | cons x l =>
    have h1 := hs.1
    refine hard_len ?_
    cases q : hardOk h with
    | true => rfl
    | false => rw [ha_z q] at h1; cases h1
theorem takeE_rcs : ∀ (l : List Ent) (b : Int) (log : List Ent) (rc : List Rec), (takeE l b log rc).2.1.length ≤ rc.length + 2 * l.length
  | [], b, log, rc => by simp [takeE]
  | e :: l, b, log, rc => by
    unfold takeE
    split
    · split
      · have := takeE_rcs l (b + 1) log rc; simp only [List.length_cons]; omega
      · have := takeE_rcs l (b + 1) (log.take b.toNat ++ [e]) (rc ++ [cutRec b] ++ [putRec (b + 1) e])
        simp only [List.length_append, List.length_cons, List.length_nil] at this ⊢; omega
    · split
      · simp
      · have := takeE_rcs l (b + 1) (log ++ [e]) (rc ++ [putRec (b + 1) e])
        simp only [List.length_append, List.length_cons, List.length_nil] at this ⊢; omega
theorem heard_lens {r : Raft} {m : Msg} (ho : raftOk r = true) : (heardR r m).2.1.length ≤ 2 * m.entries.length + 2 ∧ (heardR r m).2.2.length ≤ 10 := by
  have hn := raftOk1_nums (raftOk_1 ho)
  unfold heardR
  split
  · unfold yess
    split
    · split
      · simp
      split
      · simp
      split
      · have h1 := sendAll_length (r := leadR (yesR r m)) (by rw [leadR_id, leadR_of]; show 0 ≤ r.id ∧ r.id < r.of_; omega)
        rw [leadR_of] at h1
        have h2 : (yesR r m).of_ = r.of_ := rfl
        refine ⟨?_, by dsimp only; omega⟩
        dsimp only
        unfold leadRecs
        split <;> simp
      · simp
    · simp
  split
  · unfold sends
    split
    · split
      · simp
      split
      · simp
      split
      · refine ⟨?_, by simp⟩
        have h1 := takeE_rcs m.entries m.at_ r.hard.log []
        have h2 : (sendRc r m).length ≤ 1 := by unfold sendRc; split <;> simp
        simp only [List.length_append]
        unfold sendT
        simp only [List.length_nil] at h1
        omega
      · refine ⟨?_, by simp⟩
        unfold sendRc
        dsimp only
        split <;> simp
    · simp
  split
  · unfold gots
    split
    · split
      · simp
      split
      · simp
      split
      · split <;> simp
      · simp
    · simp
  · unfold askRecs askOuts
    constructor
    · dsimp only; (repeat' split) <;> simp
    · dsimp only; split <;> simp
end Go.Sy

