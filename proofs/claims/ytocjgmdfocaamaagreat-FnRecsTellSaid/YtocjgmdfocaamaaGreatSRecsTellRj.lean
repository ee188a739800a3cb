/- What a node must save for a message that it hears makes, from what it had, just what it has then. -/
import Derived.Test.YtocjgmdfocaamaaGreatSRecsTellRi
set_option linter.unusedVariables false
set_option linter.unusedSimpArgs false
namespace Go.Sy
def heardR (r : Raft) (m : Msg) : Raft × List Rec × List Out :=
  if m.kind = 2 then yess r m else if m.kind = 3 then sends r m else if m.kind = 4 then gots r m else (askR r m, askRecs r m, askOuts r m)
theorem cmdEq_r : ∀ c : Cmd, cmdEq c c = true := fun c => by simp [cmdEq]
theorem fits_yes {f t : Int} {y : Bool} (hf : 0 ≤ f ∧ f ≤ 4) (ht : 0 ≤ t ∧ t ≤ 1000000000) : msgFits ⟨2, f, t, 0, 0, 0, y, 0, 0, ⟨#[]⟩, zCmd, []⟩ = true := by
  have e : ∀ b, hasF ⟨2, f, t, 0, 0, 0, y, 0, 0, ⟨#[]⟩, zCmd, []⟩ b = hasU b [102, 116, 121] := fun b => rfl
  have h0 : (!((l8F 2).toList == [])) = true := by rw [ByteArray.toList_eq]; rfl
  simp only [msgFits, fits1, fits2, fits3, e, num8, hasU, h0, inR_iff.2 hf, inR_iff.2 ht]
  cases y <;> simp [cmdEq_r] <;> exact ⟨⟨rfl, by decide⟩, rfl⟩
theorem fits_got {f t a : Int} {y : Bool} (hf : 0 ≤ f ∧ f ≤ 4) (ht : 0 ≤ t ∧ t ≤ 1000000000) (ha : 0 ≤ a ∧ a ≤ 80) : msgFits ⟨4, f, t, a, 0, 0, y, 0, 0, ⟨#[]⟩, zCmd, []⟩ = true := by
  have e : ∀ b, hasF ⟨4, f, t, a, 0, 0, y, 0, 0, ⟨#[]⟩, zCmd, []⟩ b = hasU b [102, 116, 121, 97] := fun b => rfl
  have h0 : (!((l8F 4).toList == [])) = true := by rw [ByteArray.toList_eq]; rfl
  simp only [msgFits, fits1, fits2, fits3, e, num8, hasU, h0, inR_iff.2 hf, inR_iff.2 ht, inR_iff.2 ha]
  cases y <;> simp [cmdEq_r] <;> exact ⟨⟨rfl, by decide⟩, rfl⟩
structure Tell (r n : Raft) (rc : List Rec) (os : List Out) : Prop where
  saved : saves r.hard rc n.hard
  term : r.hard.term ≤ n.hard.term
  commit : r.commit ≤ n.commit
  keep : n.hard.log.take r.commit.toNat = r.hard.log.take r.commit.toNat ∧ r.commit ≤ n.hard.log.length
  sent : ∀ o ∈ os, msgFits o.msg = true ∧ o.msg.from_ = r.id ∧ o.msg.term = n.hard.term
theorem Tell.stay {r n : Raft} {os : List Out} (hc : 0 ≤ r.commit ∧ r.commit ≤ r.hard.log.length) (h1 : n.hard = r.hard) (h2 : r.commit ≤ n.commit) (hs : ∀ o ∈ os, msgFits o.msg = true ∧ o.msg.from_ = r.id ∧ o.msg.term = n.hard.term) : Tell r n [] os :=
  ⟨h1.symm, by rw [h1]; exact Int.le_refl _, h2, by rw [h1]; exact ⟨rfl, hc.2⟩, hs⟩
theorem Tell.vote {r n : Raft} {os : List Out} (hc : 0 ≤ r.commit ∧ r.commit ≤ r.hard.log.length) (h0 : hardOk r.hard = true) (h1 : hardOk n.hard = true) (hl : n.hard.log = r.hard.log) (ht : n.hard.term > r.hard.term ∨ (n.hard.term = r.hard.term ∧ (r.hard.vote = 0 ∨ r.hard.vote = n.hard.vote))) (h2 : r.commit ≤ n.commit)
    (hs : ∀ o ∈ os, msgFits o.msg = true ∧ o.msg.from_ = r.id ∧ o.msg.term = n.hard.term) : Tell r n [voteRec n] os := by
  refine ⟨?_, by omega, h2, by rw [hl]; exact ⟨rfl, hc.2⟩, hs⟩
  have e0 : r.hard = ⟨r.hard.term, r.hard.vote, r.hard.log⟩ := rfl
  have e1 : n.hard = ⟨n.hard.term, n.hard.vote, r.hard.log⟩ := by rw [← hl]
  have := save_vote (t := r.hard.term) (v := r.hard.vote) (t' := n.hard.term) (v' := n.hard.vote) (log := r.hard.log) h0 (by rw [← e1]; exact h1) ht
  rw [← e1] at this
  exact this
theorem rOk {r : Raft} (h : raftOk r = true) : hardOk r.hard = true := (raftOk_iff.1 h).2.2.2.1
theorem tell_ask {r : Raft} {m : Msg} (ho : raftOk r = true) : Tell r (askR r m) (askRecs r m) (askOuts r m) := by
  have hn := raftOk1_nums (raftOk_1 ho)
  unfold askR askRecs askOuts
  by_cases hh : hears r m 1 = true
  · rw [if_pos hh, if_pos hh, if_pos hh]
    have hk := ask1_ok (m := m) hh
    have hlog : (ask1 r m).hard.log = r.hard.log := ask1_of.2.2
    have hcm : (ask1 r m).commit = r.commit := by unfold ask1 ask0; (repeat' split) <;> rfl
    have htm : (ask1 r m).hard.term = (ask0 r m).hard.term := by unfold ask1; split <;> rfl
    have htv : (ask1 r m).hard.term > r.hard.term ∨ ((ask1 r m).hard.term = r.hard.term ∧ ((ask1 r m).hard.vote = r.hard.vote ∨ r.hard.vote = 0 ∨ r.hard.vote = (ask1 r m).hard.vote)) := by
      by_cases hy : askYes r m = true
      · have hv := ask1_yes hy
        unfold askYes yesB at hy
        simp only [Bool.and_eq_true, Bool.or_eq_true, beq_iff_eq] at hy
        unfold ask0 at hy
        by_cases ht : m.term > r.hard.term
        · left; omega
        · rw [if_neg ht] at hy
          right; omega
      · have e : ask1 r m = ask0 r m := by unfold ask1; rw [if_neg hy]
        rw [e]; unfold ask0
        split
        · left; assumption
        · right; exact ⟨rfl, .inl rfl⟩
    have hout : ∀ o ∈ [(⟨m.from_, ⟨2, r.id, (ask0 r m).hard.term, 0, 0, 0, askYes r m, 0, 0, ⟨#[]⟩, zCmd, []⟩⟩ : Out)], msgFits o.msg = true ∧ o.msg.from_ = r.id ∧ o.msg.term = (ask1 r m).hard.term := by
      intro o hm
      rw [List.mem_singleton] at hm
      subst hm
      have hn1 := raftOk1_nums (raftOk_1 hk)
      exact ⟨fits_yes (by omega) (by rw [← htm]; omega), rfl, htm.symm⟩
    by_cases hc : chgB (ask1 r m).hard.term (ask1 r m).hard.vote r = true
    · rw [if_pos hc]
      refine Tell.vote hn.2.2.2.1 (rOk ho) (rOk hk) hlog ?_ (by omega) hout
      simp only [chgB, Bool.or_eq_true, Bool.not_eq_true', beq_eq_false_iff_ne] at hc
      rcases htv with h | ⟨h, h2⟩
      · exact .inl h
      · refine .inr ⟨h, ?_⟩
        rcases h2 with h2 | h2
        · exact .inr h2.symm
        · exact h2
    · rw [if_neg hc]
      simp only [chgB, Bool.or_eq_true, Bool.not_eq_true', beq_eq_false_iff_ne, not_or, Classical.not_not] at hc
      refine Tell.stay hn.2.2.2.1 ?_ (by omega) hout
      have e0 : (ask1 r m).hard = ⟨(ask1 r m).hard.term, (ask1 r m).hard.vote, (ask1 r m).hard.log⟩ := rfl
      rw [e0, hc.1, hc.2, hlog]
  · rw [if_neg hh, if_neg hh, if_neg hh, same_ok ho]
    exact Tell.stay hn.2.2.2.1 rfl (Int.le_refl _) (fun o h => (List.not_mem_nil h).elim)
theorem nil_outs {P : Out → Prop} : ∀ o ∈ ([] : List Out), P o := fun o h => (List.not_mem_nil h).elim
theorem one_outs {P : Out → Prop} {x : Out} (h : P x) : ∀ o ∈ [x], P o := fun o hm => by rw [List.mem_singleton] at hm; subst hm; exact h
theorem tell_got {r : Raft} {m : Msg} (ho : raftOk r = true) : Tell r (gots r m).1 (gots r m).2.1 (gots r m).2.2 := by
  have hn := raftOk1_nums (raftOk_1 ho)
  have hk := gots_ok (m := m) ho
  unfold gots at hk ⊢
  by_cases hh : hears r m 4 = true
  · rw [if_pos hh] at hk ⊢
    by_cases h1 : m.term > r.hard.term
    · rw [if_pos h1] at hk ⊢
      exact Tell.vote hn.2.2.2.1 (rOk ho) (rOk hk) rfl (.inl h1) (Int.le_refl _) nil_outs
    rw [if_neg h1] at hk ⊢
    by_cases h2 : r.role ≠ 3 ∨ m.term ≠ r.hard.term
    · rw [if_pos h2]; exact Tell.stay hn.2.2.2.1 rfl (Int.le_refl _) nil_outs
    rw [if_neg h2] at hk ⊢
    by_cases h3 : m.yes = true
    · rw [if_pos h3]
      split
      · exact Tell.stay hn.2.2.2.1 rfl (commitGo_le (gotUp r m) _).1 nil_outs
      · exact Tell.stay hn.2.2.2.1 rfl (Int.le_refl _) nil_outs
    · rw [if_neg h3] at hk ⊢
      refine Tell.stay hn.2.2.2.1 rfl (Int.le_refl _) (one_outs ⟨?_, rfl, rfl⟩)
      have h3' : r.role = 3 := by omega
      have hp := hears_ok hh
      have hk' : raftOk (gotNo r m) = true := hk
      obtain ⟨_, _, _, _, _, _, _, _, _, h4⟩ := raftOk_iff.1 hk'
      rw [if_pos (show (gotNo r m).role = 3 from h3')] at h4
      have hlen := h4.1.1
      have hof : (gotNo r m).of_ = r.of_ := rfl
      have hk1 : m.from_.toNat < (gotNo r m).next.length := by
        have h5 : ((gotNo r m).next.length : Int) = r.of_ := hlen
        have h6 : m.from_ < r.of_ := hp.2.2.2.1
        have h7 : 0 ≤ m.from_ := hp.2.2.2.2.2.1
        generalize (gotNo r m).next.length = L at h5 ⊢
        omega
      have hx := h4.1.2 _ (List.getElem_mem hk1)
      refine sendOf_fits hk' ?_
      have e : nextOf (gotNo r m) m.from_ = (gotNo r m).next[m.from_.toNat] := by unfold nextOf; rw [List.getElem?_eq_getElem hk1]; rfl
      rw [e]; omega
  · rw [if_neg hh, same_ok ho]
    exact Tell.stay hn.2.2.2.1 rfl (Int.le_refl _) nil_outs
theorem tell_yes {r : Raft} {m : Msg} (ho : raftOk r = true) : Tell r (yess r m).1 (yess r m).2.1 (yess r m).2.2 := by
  have hn := raftOk1_nums (raftOk_1 ho)
  have hk0 := yess_ok (m := m) ho
  unfold yess at hk0 ⊢
  by_cases hh : hears r m 2 = true
  · rw [if_pos hh] at hk0 ⊢
    by_cases h1 : m.term > r.hard.term
    · rw [if_pos h1] at hk0 ⊢
      exact Tell.vote hn.2.2.2.1 (rOk ho) (rOk hk0) rfl (.inl h1) (Int.le_refl _) nil_outs
    rw [if_neg h1] at hk0 ⊢
    by_cases h2 : r.role ≠ 2 ∨ m.term ≠ r.hard.term ∨ m.yes = false
    · rw [if_pos h2]; exact Tell.stay hn.2.2.2.1 rfl (Int.le_refl _) nil_outs
    rw [if_neg h2] at hk0 ⊢
    by_cases h3 : 2 * (((yesR r m).yes.length : Int) + 1) > r.of_
    · rw [if_pos h3] at hk0 ⊢
      have hk : raftOk (leadR (yesR r m)) = true := hk0
      have hlt : (leadR (yesR r m)).hard.term = r.hard.term := leadR_term _
      have hli : (leadR (yesR r m)).id = r.id := leadR_id _
      have hrole : (leadR (yesR r m)).role = 3 := by unfold leadR; split <;> rfl
      have hcm : r.commit ≤ (leadR (yesR r m)).commit := by
        unfold leadR
        split
        · show r.commit ≤ (if r.of_ = 1 then (((r.hard.log ++ [noneE r.hard.term]).length : Nat) : Int) else r.commit)
          split
          · rw [List.length_append]; omega
          · exact Int.le_refl _
        · show r.commit ≤ (if r.of_ = 1 then ((r.hard.log.length : Nat) : Int) else r.commit)
          split
          · omega
          · exact Int.le_refl _
      have hout : ∀ o ∈ sendAll (leadR (yesR r m)), msgFits o.msg = true ∧ o.msg.from_ = r.id ∧ o.msg.term = (leadR (yesR r m)).hard.term := by
        intro o hm
        obtain ⟨e, h0, h1', _⟩ := sendUp_mem _ _ o hm
        obtain ⟨_, _, _, _, _, _, _, _, _, h4⟩ := raftOk_iff.1 hk
        rw [if_pos hrole] at h4
        have hlen := h4.1.1
        have hk1 : o.to.toNat < (leadR (yesR r m)).next.length := by omega
        have hx := h4.1.2 _ (List.getElem_mem hk1)
        have en : nextOf (leadR (yesR r m)) o.to = (leadR (yesR r m)).next[o.to.toNat] := by unfold nextOf; rw [List.getElem?_eq_getElem hk1]; rfl
        have hf := sendOf_fits (k := o.to) hk (by rw [en]; omega)
        rw [e]
        exact ⟨hf, hli, rfl⟩
      by_cases h8 : r.hard.log.length < 80
      · have el : (leadR (yesR r m)).hard = ⟨r.hard.term, r.hard.vote, r.hard.log ++ [noneE r.hard.term]⟩ := by
          unfold leadR; rw [if_pos (show (yesR r m).hard.log.length < 80 from h8)]; rfl
        have er : leadRecs (yesR r m) = [putRec ((r.hard.log.length : Int) + 1) (noneE r.hard.term)] := by
          unfold leadRecs; rw [if_pos (show (yesR r m).hard.log.length < 80 from h8)]; rfl
        have hkh := rOk hk
        rw [el] at hkh
        obtain ⟨q1, q2, q3, q4⟩ := hardOk_iff.1 hkh
        have he := logOk_get _ _ q4 (noneE r.hard.term) (by simp)
        have heo : entOk (noneE r.hard.term) = true := by
          simp only [entOk, Bool.and_eq_true, inR_iff]
          exact ⟨by have := he.1; have := hn.2.2.2.2.1; show 1 ≤ r.hard.term ∧ r.hard.term ≤ 1000000000; have q := he.1; exact ⟨q, this.2⟩, he.2.2⟩
        refine ⟨?_, by rw [hlt]; exact Int.le_refl _, by omega, ?_, hout⟩
        · rw [el, er]
          exact save_put rfl (rOk ho) h8 heo hkh
        · rw [el]
          refine ⟨?_, by rw [List.length_append]; omega⟩
          exact List.take_append_of_le_length (by omega)
      · have el : (leadR (yesR r m)).hard = r.hard := by
          unfold leadR; rw [if_neg (show ¬ (yesR r m).hard.log.length < 80 from h8)]; rfl
        have er : leadRecs (yesR r m) = [] := by
          unfold leadRecs; rw [if_neg (show ¬ (yesR r m).hard.log.length < 80 from h8)]
        rw [er]
        exact Tell.stay hn.2.2.2.1 el (by omega) hout
    · rw [if_neg h3]; exact Tell.stay hn.2.2.2.1 rfl (Int.le_refl _) nil_outs
  · rw [if_neg hh, same_ok ho]
    exact Tell.stay hn.2.2.2.1 rfl (Int.le_refl _) nil_outs
theorem tell_send {r : Raft} {m : Msg} (ho : raftOk r = true) : Tell r (sends r m).1 (sends r m).2.1 (sends r m).2.2 := by
  have hn := raftOk1_nums (raftOk_1 ho)
  have hk0 := sends_ok (m := m) ho
  have hh0 := rOk ho
  unfold sends at hk0 ⊢
  by_cases hB : sendB r m = true
  · rw [if_pos hB] at hk0 ⊢
    have hB' := hB
    simp only [sendB, Bool.and_eq_true, Bool.not_eq_true'] at hB'
    obtain ⟨hh, hrow, hcut⟩ := hB'
    obtain ⟨_, hm, _⟩ := hears_ok hh
    have hmn := msgFits_nums hm
    by_cases h1 : m.term < r.hard.term
    · rw [if_pos h1]
      exact Tell.stay hn.2.2.2.1 rfl (Int.le_refl _) (one_outs ⟨fits_got (by omega) (by omega) (by omega), rfl, rfl⟩)
    rw [if_neg h1] at hk0 ⊢
    by_cases h2 : m.term = r.hard.term ∧ r.role = 3
    · rw [if_pos h2]; exact Tell.stay hn.2.2.2.1 rfl (Int.le_refl _) nil_outs
    rw [if_neg h2] at hk0 ⊢
    have et : (send0 r m).hard.term = m.term := by
      unfold send0
      split
      · rfl
      · show r.hard.term = m.term; omega
    have el : (send0 r m).hard.log = r.hard.log := by unfold send0; split <;> rfl
    have ec : (send0 r m).commit = r.commit := by unfold send0; split <;> rfl
    have h0 : raftOk (send0 r m) = true := by
      unfold send0
      split
      · exact folT_ok ho (by omega) hmn.1.2
      · exact rest_ok ho
    have hs0 : saves r.hard (sendRc r m) (send0 r m).hard := by
      unfold sendRc send0
      by_cases q : m.term > r.hard.term
      · rw [if_pos q, if_pos q]
        exact (Tell.vote (os := []) hn.2.2.2.1 hh0 (rOk (folT_ok ho (by omega) hmn.1.2)) rfl (.inl q) (Int.le_refl _) nil_outs).saved
      · rw [if_neg q, if_neg q]; exact rfl
    have ev : 0 ≤ (send0 r m).hard.vote ∧ (send0 r m).hard.vote ≤ 5 := (hardOk_iff.1 (rOk h0)).2.1
    by_cases hf : fitsB r.hard.log m = true
    · rw [if_pos hf] at hk0 ⊢
      have hT := (sendT_saves hB hf (by omega) _ ev).2
      have hat : m.at_ ≤ r.hard.log.length := by simp only [fitsB, Bool.and_eq_true, decide_eq_true_eq] at hf; exact hf.1
      have hkeep := takeE_keep r.commit.toNat m.entries m.at_ r.hard.log [] hmn.2.1.1 hat (by omega) (by
        rw [show ((r.commit.toNat : Nat) : Int) = r.commit by omega]
        unfold cutsB at hcut
        rw [hf, Bool.true_and] at hcut
        exact hcut)
      have hlen := takeE_len m.entries m.at_ r.hard.log [] hmn.2.1.1 hat hn.2.2.2.2.2.2
      have e1 : (takeE m.entries m.at_ r.hard.log []) = sendT r m := rfl
      rw [e1] at hkeep hlen
      have hsv : saves r.hard (sendRc r m ++ (sendT r m).2.1) (sendR r m).hard := by
        refine saves_app hs0 ?_
        have a1 : (send0 r m).hard = ⟨m.term, (send0 r m).hard.vote, r.hard.log⟩ := by rw [← et, ← el]
        have a2 : (sendR r m).hard = ⟨m.term, (send0 r m).hard.vote, (sendT r m).1⟩ := by
          show (⟨(send0 r m).hard.term, (send0 r m).hard.vote, (sendT r m).1⟩ : Hard) = _
          rw [et]
        rw [a1, a2]; exact hT
      refine ⟨hsv, ?_, ?_, ?_, one_outs ⟨fits_got (by omega) (by omega) (by omega), rfl, et.symm⟩⟩
      · show r.hard.term ≤ (send0 r m).hard.term
        omega
      · show r.commit ≤ max r.commit (min m.commit (sendT r m).2.2)
        omega
      · refine ⟨hkeep.1, ?_⟩
        show r.commit ≤ ((sendT r m).1.length : Int)
        have := hkeep.2
        omega
    · rw [if_neg hf]
      have hat1 : 1 ≤ m.at_ := by
        rcases Int.lt_or_le m.at_ 1 with q | q
        · exfalso
          apply hf
          have e : m.at_ = 0 := by omega
          simp [fitsB, e]
        · exact q
      refine ⟨hs0, ?_, ?_, ?_, one_outs ⟨fits_got (by omega) (by omega) (by omega), rfl, et.symm⟩⟩
      · show r.hard.term ≤ (send0 r m).hard.term
        omega
      · show r.commit ≤ (send0 r m).commit
        omega
      · show (send0 r m).hard.log.take r.commit.toNat = _ ∧ r.commit ≤ ((send0 r m).hard.log.length : Int)
        rw [el]; exact ⟨rfl, hn.2.2.2.1.2⟩
  · rw [if_neg hB, same_ok ho]
    exact Tell.stay hn.2.2.2.1 rfl (Int.le_refl _) nil_outs
theorem tell {r : Raft} {m : Msg} (ho : raftOk r = true) : raftOk (heardR r m).1 = true ∧ Tell r (heardR r m).1 (heardR r m).2.1 (heardR r m).2.2 := by
  unfold heardR
  split
  · exact ⟨yess_ok ho, tell_yes ho⟩
  split
  · exact ⟨sends_ok ho, tell_send ho⟩
  split
  · exact ⟨gots_ok ho, tell_got ho⟩
  · exact ⟨askR_ok ho, tell_ask ho⟩
theorem same_un {r : Raft} (h : raftOk r = false) : same r = zRaft := by unfold same; rw [if_neg (by rw [h]; decide)]
theorem tell_no {r : Raft} {m : Msg} (ho : raftOk r = false) : (heardR r m).1.of_ = 0 ∧ (heardR r m).2.1 = [] ∧ (heardR r m).2.2 = [] := by
  have hh : ∀ k, hears r m k = false := fun k => hears_no (by rw [ho]; decide)
  have hs : sendB r m = false := sendB_not (.inl (hh 3))
  have e0 : (same r).of_ = 0 := by rw [same_un ho]; rfl
  unfold heardR
  split
  · unfold yess; rw [if_neg (by rw [hh]; decide)]; exact ⟨e0, rfl, rfl⟩
  split
  · unfold sends; rw [if_neg (by rw [hs]; decide)]; exact ⟨e0, rfl, rfl⟩
  split
  · unfold gots; rw [if_neg (by rw [hh]; decide)]; exact ⟨e0, rfl, rfl⟩
  · unfold askR askRecs askOuts
    rw [if_neg (by rw [hh]; decide), if_neg (by rw [hh]; decide), if_neg (by rw [hh]; decide)]
    exact ⟨e0, rfl, rfl⟩
end Go.Sy

