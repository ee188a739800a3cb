/- What a row of nodes that have spoken for a while keeps. -/
import Derived.Test.YtocjgmdfocaamaaGreatSRecsTellRf
set_option linter.unusedVariables false
set_option linter.unusedSimpArgs false
namespace Go.Sy
def OutsIn (n : Int) (l : List Out) : Prop := l.length ≤ 10 ∧ ∀ o ∈ l, 0 ≤ o.to ∧ o.to < n ∧ o.msg.entries.length ≤ 6
theorem outsIn_nil (n : Int) : OutsIn n [] := ⟨by simp, fun o h => by cases h⟩
theorem outsIn_one {n : Int} {o : Out} (h : 0 ≤ o.to ∧ o.to < n) (he : o.msg.entries.length ≤ 6) : OutsIn n [o] := ⟨by simp, fun q hq => by rw [List.mem_singleton.1 hq]; exact ⟨h.1, h.2, he⟩⟩
theorem sendUp_in (r : Raft) : ∀ k : Nat, ∀ o ∈ sendUp r k, 0 ≤ o.to ∧ o.to < k ∧ o.msg.entries.length ≤ 6
  | 0, o, h => by cases h
  | k + 1, o, h => by
    unfold sendUp at h
    rcases List.mem_append.1 h with h | h
    · have := sendUp_in r k o h; omega
    · split at h
      · cases h
      · rw [List.mem_singleton.1 h]
        exact ⟨by show (0 : Int) ≤ k; omega, by show (k : Int) < ((k + 1 : Nat) : Int); omega, by show ((r.hard.log.drop (nextOf r k - 1).toNat).take 6).length ≤ 6; rw [List.length_take]; omega⟩
theorem sendAll_in {r : Raft} (h : 0 ≤ r.of_ ∧ r.of_ ≤ 5) : OutsIn r.of_ (sendAll r) := by
  refine ⟨by have := sendUp_len r r.of_.toNat; show (sendUp r r.of_.toNat).length ≤ 10; omega, fun o ho => ?_⟩
  have := sendUp_in r _ o ho
  omega
theorem askUp_in (r : Raft) : ∀ k : Nat, ∀ o ∈ askUp r k, 0 ≤ o.to ∧ o.to < k ∧ o.msg.entries.length ≤ 6
  | 0, o, h => by cases h
  | k + 1, o, h => by
    unfold askUp at h
    rcases List.mem_append.1 h with h | h
    · have := askUp_in r k o h; omega
    · split at h
      · cases h
      · rw [List.mem_singleton.1 h]
        exact ⟨by show (0 : Int) ≤ k; omega, by show (k : Int) < ((k + 1 : Nat) : Int); omega, Nat.zero_le 6⟩
theorem asks_in {r : Raft} (h : 0 ≤ r.of_ ∧ r.of_ ≤ 5) : OutsIn r.of_ (asks r) := by
  refine ⟨by have := askUp_len r r.of_.toNat; show (askUp r r.of_.toNat).length ≤ 10; omega, fun o ho => ?_⟩
  have := askUp_in r _ o ho
  omega
def NodeIn (n : Int) (r : Raft) : Prop := raftOk r = true ∧ r.of_ = n
theorem NodeIn.nums {n : Int} {r : Raft} (h : NodeIn n r) : (n = 1 ∨ n = 3 ∨ n = 5) ∧ (0 ≤ r.id ∧ r.id < n) ∧ r.of_ = n ∧ (0 ≤ r.hard.term ∧ r.hard.term ≤ 1000000000) ∧ r.hard.log.length ≤ 80 ∧ SmallR r := by
  have h1 := raftOk1_nums (raftOk_1 h.1)
  obtain ⟨_, _, _, _, _, ha, _, hy, _, h3⟩ := raftOk_iff.1 h.1
  have h2 := raftOk1_len (raftOk_1 h.1)
  have e := h.2
  refine ⟨by omega, by omega, e, h1.2.2.2.2.1, h1.2.2.2.2.2.2, ?_⟩
  unfold SmallR
  split at h3
  · omega
  · rw [h3.1, h3.2]; simp only [List.length_nil]; omega
theorem sendAll_lead {r : Raft} (h : 0 ≤ r.of_ ∧ r.of_ ≤ 5) : OutsIn r.of_ (sendAll (leadR r)) := by
  have := sendAll_in (r := leadR r) (by rw [leadR_of]; exact h)
  rwa [leadR_of] at this
theorem stands_in {n : Int} {r : Raft} (h : NodeIn n r) : NodeIn n (stands r).1 ∧ OutsIn n (stands r).2.2 := by
  have hn := h.nums
  refine ⟨⟨stands_ok h.1, ?_⟩, ?_⟩
  · unfold stands
    split
    · split
      · rw [leadR_of]; exact h.2
      · exact h.2
    · show (same r).of_ = n
      rw [same_ok h.1]; exact h.2
  · unfold stands
    split
    · split
      · have := sendAll_lead (r := standR r) (by show 0 ≤ r.of_ ∧ r.of_ ≤ 5; omega)
        rw [show (standR r).of_ = n from h.2] at this; exact this
      · have := asks_in (r := standR r) (by show 0 ≤ r.of_ ∧ r.of_ ≤ 5; omega)
        rw [show (standR r).of_ = n from h.2] at this; exact this
    · exact outsIn_nil n
theorem prop_in {n : Int} {r : Raft} (c : Cmd) (h : NodeIn n r) : NodeIn n (propR r c) ∧ OutsIn n (propOuts r c) := by
  have hn := h.nums
  refine ⟨⟨prop_ok h.1, ?_⟩, ?_⟩
  · unfold propR
    split
    · exact h.2
    · rw [same_ok h.1]; exact h.2
  · unfold propOuts
    split
    · have := sendAll_in (r := had (put r (propE r c))) (by show 0 ≤ r.of_ ∧ r.of_ ≤ 5; omega)
      rw [show (had (put r (propE r c))).of_ = n from h.2] at this; exact this
    · exact outsIn_nil n
theorem beat_in {n : Int} {r : Raft} (h : NodeIn n r) : OutsIn n (beat r) := by
  have hn := h.nums
  have e := h.2
  unfold beat
  (repeat' split) <;> first | exact outsIn_nil n | (have := sendAll_in (r := r) (by omega); rw [e] at this; exact this) | (have := asks_in (r := r) (by omega); rw [e] at this; exact this)
def onR (r : Raft) (m : Msg) : Raft × List Rec × List Out :=
  if m.kind = 1 then (askR r m, askRecs r m, askOuts r m) else if m.kind = 2 then yess r m else if m.kind = 3 then sends r m else if m.kind = 4 then gots r m else (same r, [], [])
theorem sends_of {r : Raft} {m : Msg} (h : raftOk r = true) : (sends r m).1.of_ = r.of_ := by
  unfold sends
  split
  · split
    · rfl
    · split
      · rfl
      · split
        · unfold sendR send0; dsimp only; split <;> rfl
        · unfold send0; dsimp only; split <;> rfl
  · show (same r).of_ = _
    rw [same_ok h]
theorem entsOk_len {m : Msg} (h : msgFits m = true) : entsOk m.entries = true := by
  simp only [msgFits, Bool.and_eq_true] at h
  exact h.2.2.2
theorem rowB_go {m : Msg} (h : rowB m = true) : rowGo m.term (if m.at_ ≠ 0 then m.atTerm else 0) m.entries = true := h
theorem sendT_saves {r : Raft} {m : Msg} (h : sendB r m = true) (hf : fitsB r.hard.log m = true) (ht : r.hard.term ≤ m.term) (v : Int) (hv : 0 ≤ v ∧ v ≤ 5) :
    hardOk ⟨m.term, v, (sendT r m).1⟩ = true ∧ saves ⟨m.term, v, r.hard.log⟩ (sendT r m).2.1 ⟨m.term, v, (sendT r m).1⟩ := by
  simp only [sendB, Bool.and_eq_true] at h
  obtain ⟨hh, hrow, _⟩ := h
  obtain ⟨ho, hm, _⟩ := hears_ok hh
  have hn := msgFits_nums hm
  obtain ⟨_, _, _, hhard, _⟩ := raftOk_iff.1 ho
  obtain ⟨q1, q2, q3, q4⟩ := hardOk_iff.1 hhard
  simp only [fitsB, Bool.and_eq_true, Bool.or_eq_true, decide_eq_true_eq, beq_iff_eq] at hf
  have h0 : hardOk ⟨m.term, v, r.hard.log⟩ = true := hardOk_iff.2 ⟨hn.1, hv, q3, logOk_mono ht _ _ q4⟩
  refine takeE_saves m.term v m.entries m.at_ (if m.at_ ≠ 0 then m.atTerm else 0) r.hard.log hn.2.1.1 hf.1 h0 (rowB_go hrow) (entsOk_len hm) ?_
  split
  · rename_i hne
    have e1 := termAt_get (log := r.hard.log) (b := m.at_ - 1) (by omega) (by omega)
    rw [show m.at_ - 1 + 1 = m.at_ by omega] at e1
    rw [e1]
    rcases hf.2 with q | q
    · exact (hne q).elim
    · omega
  · rename_i he
    have he : m.at_ = 0 := by omega
    rw [he]
    exact Int.le_refl 0
theorem sends_ok {r : Raft} {m : Msg} (ho : raftOk r = true) : raftOk (sends r m).1 = true := by
  obtain ⟨h1, h2, h3, hh, hc, ha, hs, hy, hv, h4⟩ := raftOk_iff.1 ho
  obtain ⟨q1, q2, q3, q4⟩ := hardOk_iff.1 hh
  unfold sends
  split
  · rename_i hB
    have hB' := hB
    simp only [sendB, Bool.and_eq_true, Bool.not_eq_true'] at hB'
    obtain ⟨hhe, hrow, hcut⟩ := hB'
    obtain ⟨_, hm, _⟩ := hears_ok hhe
    have hn := msgFits_nums hm
    split
    · exact ho
    · rename_i ht
      have ht : r.hard.term ≤ m.term := by omega
      split
      · exact ho
      · rename_i hnl
        have h0 : raftOk (send0 r m) = true := by
          unfold send0
          split
          · exact folT_ok ho ht hn.1.2
          · exact rest_ok ho
        have et : (send0 r m).hard.term = m.term := by
          unfold send0
          split
          · rfl
          · show r.hard.term = m.term; omega
        have ev : 0 ≤ (send0 r m).hard.vote ∧ (send0 r m).hard.vote ≤ 5 := by
          obtain ⟨_, _, _, hh', _⟩ := raftOk_iff.1 h0
          exact (hardOk_iff.1 hh').2.1
        split
        · rename_i hf
          have hT := (sendT_saves hB hf ht _ ev).1
          have hkeep := takeE_keep r.commit.toNat m.entries m.at_ r.hard.log [] hn.2.1.1 (by simp only [fitsB, Bool.and_eq_true, decide_eq_true_eq] at hf; exact hf.1) (by omega) (by
            rw [show ((r.commit.toNat : Nat) : Int) = r.commit by omega]
            unfold cutsB at hcut
            rw [hf, Bool.true_and] at hcut
            exact hcut)
          have hlen := takeE_len m.entries m.at_ r.hard.log [] hn.2.1.1 (by simp only [fitsB, Bool.and_eq_true, decide_eq_true_eq] at hf; exact hf.1) q3
          refine follow_ok h0 rfl rfl ?_ ?_ ?_ ?_ ?_ ?_
          · show (send0 r m).role = 1
            unfold send0; split <;> rfl
          · show (send0 r m).yes = []
            unfold send0; split <;> rfl
          · show (send0 r m).next = []
            unfold send0; split <;> rfl
          · show (send0 r m).match_ = []
            unfold send0; split <;> rfl
          · show hardOk ⟨(send0 r m).hard.term, (send0 r m).hard.vote, (sendT r m).1⟩ = true
            rw [et]; exact hT
          · have e1 : (takeE m.entries m.at_ r.hard.log []) = sendT r m := rfl
            rw [e1] at hkeep hlen
            show 0 ≤ max r.commit (min m.commit (sendT r m).2.2) ∧ max r.commit (min m.commit (sendT r m).2.2) ≤ ((sendT r m).1.length : Int)
            omega
        · exact h0
  · show raftOk (same r) = true
    rw [same_ok ho]; exact ho
theorem on_in {n : Int} {r : Raft} (m : Msg) (h : NodeIn n r) : NodeIn n (onR r m).1 ∧ OutsIn n (onR r m).2.2 := by
  have hn := h.nums
  have ho := h.1
  have e := h.2
  unfold onR
  split
  · refine ⟨⟨askR_ok ho, ?_⟩, ?_⟩
    · show (askR r m).of_ = n
      unfold askR
      split
      · unfold ask1 ask0; (repeat' split) <;> exact e
      · rw [same_ok ho]; exact e
    · show OutsIn n (askOuts r m)
      unfold askOuts
      split
      · rename_i hh
        obtain ⟨_, _, _, h1, _, h2, _⟩ := hears_ok hh
        exact outsIn_one (by dsimp only; omega) (Nat.zero_le 6)
      · exact outsIn_nil n
  · split
    · refine ⟨⟨yess_ok ho, ?_⟩, ?_⟩
      · unfold yess
        split
        · split
          · exact e
          · split
            · exact e
            · split
              · show (leadR (yesR r m)).of_ = n; rw [leadR_of]; exact e
              · exact e
        · show (same r).of_ = n; rw [same_ok ho]; exact e
      · unfold yess
        split
        · split
          · exact outsIn_nil n
          · split
            · exact outsIn_nil n
            · split
              · have := sendAll_lead (r := yesR r m) (by show 0 ≤ r.of_ ∧ r.of_ ≤ 5; omega)
                rw [show (yesR r m).of_ = n from e] at this; exact this
              · exact outsIn_nil n
        · exact outsIn_nil n
    · split
      · refine ⟨⟨sends_ok ho, by rw [sends_of ho]; exact e⟩, ?_⟩
        unfold sends
        split
        · rename_i hB
          simp only [sendB, Bool.and_eq_true] at hB
          obtain ⟨_, _, _, h1, _, h2, _⟩ := hears_ok hB.1
          split
          · exact outsIn_one (by dsimp only; omega) (Nat.zero_le 6)
          · split
            · exact outsIn_nil n
            · split
              · exact outsIn_one (by dsimp only; omega) (Nat.zero_le 6)
              · exact outsIn_one (by dsimp only; omega) (Nat.zero_le 6)
        · exact outsIn_nil n
      · split
        · refine ⟨⟨gots_ok ho, ?_⟩, ?_⟩
          · unfold gots
            split
            · split
              · exact e
              · split
                · exact e
                · split
                  · split <;> exact e
                  · exact e
            · show (same r).of_ = n; rw [same_ok ho]; exact e
          · unfold gots
            split
            · rename_i hB
              obtain ⟨_, _, _, h1, _, h2, _⟩ := hears_ok hB
              split
              · exact outsIn_nil n
              · split
                · exact outsIn_nil n
                · split
                  · split <;> exact outsIn_nil n
                  · exact outsIn_one (by show 0 ≤ m.from_ ∧ m.from_ < n; omega) (by show (List.take 6 _).length ≤ 6; rw [List.length_take]; omega)
            · exact outsIn_nil n
        · refine ⟨⟨by show raftOk (same r) = true; rw [same_ok ho]; exact ho, by show (same r).of_ = n; rw [same_ok ho]; exact e⟩, outsIn_nil n⟩
def newR (id of_ : Int) (h : Hard) : Raft × Bool := if raftOk ⟨id, of_, 1, 0, h, [], [], []⟩ = true then (⟨id, of_, 1, 0, h, [], [], []⟩, true) else (zRaft, false)
theorem newR_in {id n : Int} (h : n = 1 ∨ n = 3 ∨ n = 5) (h0 : 0 ≤ id) (h1 : id < n) : NodeIn n (newR id n zHard).1 := by
  have : raftOk ⟨id, n, 1, 0, zHard, [], [], []⟩ = true := raftOk_iff.2 ⟨h, by dsimp only; omega, by simp, rfl, by simp [zHard], rfl, rfl, .inr rfl, .inl rfl, by rw [if_neg (by simp)]; exact ⟨rfl, rfl⟩⟩
  unfold newR
  rw [if_pos this]
  exact ⟨this, rfl⟩
theorem NodesIn.set {n : Int} {l : List Raft} (h : ∀ r ∈ l, NodeIn n r) (i : Nat) {q : Raft} (hq : NodeIn n q) : ∀ r ∈ l.set i q, NodeIn n r := fun r hr => by
  rcases List.mem_or_eq_of_mem_set hr with hr | rfl
  · exact h r hr
  · exact hq
def NetOk (ns : List Raft) (ml : List Out) : Prop := ∃ n : Int, (n = 1 ∨ n = 3 ∨ n = 5) ∧ (ns.length : Int) = n ∧ (∀ r ∈ ns, NodeIn n r) ∧ ml.length ≤ 30 ∧ ∀ o ∈ ml, 0 ≤ o.to ∧ o.to < n ∧ o.msg.entries.length ≤ 6
theorem l8F_six (k : Int) : (l8F k).size ≤ 6 := by
  unfold l8F
  split
  · rename_i h
    have h := inR_iff.1 h
    have : k.toNat = 1 ∨ k.toNat = 2 ∨ k.toNat = 3 ∨ k.toNat = 4 ∨ k.toNat = 5 ∨ k.toNat = 6 ∨ k.toNat = 7 := by omega
    rcases this with h | h | h | h | h | h | h <;> rw [h] <;> decide
  · decide
theorem nodes_app {n : Int} {l : List Raft} {q : Raft} (h : ∀ r ∈ l, NodeIn n r) (hq : NodeIn n q) : ∀ r ∈ l ++ [q], NodeIn n r := fun r hr => by
  rcases List.mem_append.1 hr with hr | hr
  · exact h r hr
  · rw [List.mem_singleton.1 hr]; exact hq
def MailIn (n : Int) (l : List Out) : Prop := ∀ o ∈ l, 0 ≤ o.to ∧ o.to < n ∧ o.msg.entries.length ≤ 6
theorem mail_app {n : Int} {l k : List Out} (h : MailIn n l) (hq : MailIn n k) : MailIn n (l ++ k) := fun r hr => (List.mem_append.1 hr).elim (h r) (hq r)
theorem mail_cut {n : Int} {l : List Out} (h : MailIn n l) (a b c : Nat) : MailIn n (l.take a ++ (l.drop b).take c) := fun r hr => by
  rcases List.mem_append.1 hr with hr | hr
  · exact h r (List.mem_of_mem_take hr)
  · exact h r (List.mem_of_mem_drop (List.mem_of_mem_take hr))
theorem mail_take {n : Int} {l : List Out} (h : MailIn n l) (a : Nat) : MailIn n (l.take a) := fun r hr => h r (List.mem_of_mem_take hr)
theorem raftOk_lens {r : Raft} (h : raftOk r = true) : r.yes.length ≤ 5 ∧ r.next.length ≤ 5 ∧ r.match_.length ≤ 5 := by
  have h1 := raftOk1_nums (raftOk_1 h)
  obtain ⟨_, _, _, _, _, ha, _, hy, _, h3⟩ := raftOk_iff.1 h
  have h2 := raftOk1_len (raftOk_1 h)
  split at h3
  · omega
  · rw [h3.1, h3.2]; simp only [List.length_nil]; omega
end Go.Sy

