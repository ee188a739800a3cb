/- What a node's steps keep: each step of a right node is a right node; what must be saved makes just what it has then. -/
import Derived.Test.YtocjgmdfocaamaaGreatSRecsTellDw
set_option linter.unusedVariables false
set_option linter.unusedSimpArgs false
namespace Go.Sy
theorem hardOk_iff {h : Hard} : hardOk h = true ↔ (0 ≤ h.term ∧ h.term ≤ 1000000000) ∧ (0 ≤ h.vote ∧ h.vote ≤ 5) ∧ h.log.length ≤ 80 ∧ logOk h.term 0 h.log = true := by
  simp only [hardOk, Bool.and_eq_true, inR_iff, decide_eq_true_eq, and_assoc]
theorem logOk_mono {t t' : Int} (h : t ≤ t') : ∀ (l : List Ent) (p : Int), logOk t p l = true → logOk t' p l = true
  | [], _, _ => rfl
  | e :: l, p, q => by
    simp only [logOk, Bool.and_eq_true, decide_eq_true_eq] at q ⊢
    exact ⟨⟨⟨⟨q.1.1.1.1, by omega⟩, q.1.1.2⟩, q.1.2⟩, logOk_mono h l _ q.2⟩
def lastG (p : Int) : List Ent → Int
  | [] => p
  | e :: l => lastG e.term l
theorem lastG_cons (p : Int) (e : Ent) (l : List Ent) : lastG p (e :: l) = lastG e.term l := rfl
theorem lastG_app (p : Int) (e : Ent) : ∀ l : List Ent, lastG p (l ++ [e]) = e.term
  | [] => rfl
  | a :: l => lastG_app a.term e l
theorem logOk_app {t : Int} {e : Ent} (h1 : 1 ≤ e.term) (h2 : e.term ≤ t) (h3 : cmdOk e.cmd = true) : ∀ (l : List Ent) (p : Int), logOk t p l = true → lastG p l ≤ e.term → logOk t p (l ++ [e]) = true
  | [], p, _, q => by simp only [List.nil_append, logOk, Bool.and_eq_true, decide_eq_true_eq]; exact ⟨⟨⟨⟨h1, h2⟩, h3⟩, q⟩, trivial⟩
  | a :: l, p, h, q => by
    simp only [List.cons_append, logOk, Bool.and_eq_true, decide_eq_true_eq] at h ⊢
    exact ⟨h.1, logOk_app h1 h2 h3 l _ h.2 q⟩
theorem logOk_take {t : Int} : ∀ (l : List Ent) (p : Int) (k : Nat), logOk t p l = true → logOk t p (l.take k) = true
  | [], p, k, _ => by simp [logOk]
  | a :: l, p, 0, _ => rfl
  | a :: l, p, k + 1, h => by
    simp only [List.take_succ_cons, logOk, Bool.and_eq_true, decide_eq_true_eq] at h ⊢
    exact ⟨h.1, logOk_take l _ k h.2⟩
theorem logOk_last {t : Int} : ∀ (l : List Ent) (p : Int), logOk t p l = true → p ≤ t → p ≤ lastG p l ∧ lastG p l ≤ t
  | [], p, _, h => ⟨Int.le_refl _, h⟩
  | a :: l, p, h, hp => by
    simp only [logOk, Bool.and_eq_true, decide_eq_true_eq] at h
    have := logOk_last l a.term h.2 (by omega)
    rw [lastG_cons]
    omega
theorem logOk_get {t : Int} : ∀ (l : List Ent) (p : Int), logOk t p l = true → ∀ e ∈ l, 1 ≤ e.term ∧ e.term ≤ t ∧ cmdOk e.cmd = true
  | a :: l, p, h, e, he => by
    simp only [logOk, Bool.and_eq_true, decide_eq_true_eq] at h
    rcases List.mem_cons.1 he with rfl | he
    · exact ⟨h.1.1.1.1, h.1.1.1.2, h.1.1.2⟩
    · exact logOk_get l _ h.2 e he
theorem len0 {α : Type} {l : List α} : ((l.length : Int) == 0) = true ↔ l = [] := by
  rw [beq_iff_eq]
  exact ⟨fun h => List.length_eq_zero_iff.1 (by omega), fun h => by rw [h]; rfl⟩
theorem raftOk_iff {r : Raft} : raftOk r = true ↔ (r.of_ = 1 ∨ r.of_ = 3 ∨ r.of_ = 5) ∧ (0 ≤ r.id ∧ r.id ≤ r.of_ - 1) ∧ (1 ≤ r.role ∧ r.role ≤ 3) ∧ hardOk r.hard = true ∧ (0 ≤ r.commit ∧ r.commit ≤ r.hard.log.length) ∧ asc (r.of_ - 1) (-1) r.yes = true ∧ hasI r.id r.yes = false ∧
    (r.role = 2 ∨ r.yes = []) ∧ (r.role = 1 ∨ (1 ≤ r.hard.term ∧ r.hard.vote = r.id + 1)) ∧
    (if r.role = 3 then ((r.next.length : Int) = r.of_ ∧ ∀ x ∈ r.next, 1 ≤ x ∧ x ≤ r.hard.log.length + 1) ∧ ((r.match_.length : Int) = r.of_ ∧ ∀ x ∈ r.match_, 0 ≤ x ∧ x ≤ r.hard.log.length) else r.next = [] ∧ r.match_ = []) := by
  have e : raftOk3 r = true ↔ (if r.role = 3 then ((r.next.length : Int) = r.of_ ∧ ∀ x ∈ r.next, 1 ≤ x ∧ x ≤ r.hard.log.length + 1) ∧ ((r.match_.length : Int) = r.of_ ∧ ∀ x ∈ r.match_, 0 ≤ x ∧ x ≤ r.hard.log.length) else r.next = [] ∧ r.match_ = []) := by
    unfold raftOk3
    split
    · simp only [Bool.and_eq_true, beq_iff_eq, allIn_iff]
    · simp only [Bool.and_eq_true, len0]
  simp only [raftOk, raftOk1, raftOk2, Bool.and_eq_true, Bool.or_eq_true, beq_iff_eq, inR_iff, ofOk_iff, Bool.not_eq_true', decide_eq_true_eq, e, len0, and_assoc]
  have e0 : ((r.yes.length : Int) = 0) ↔ r.yes = [] := ⟨fun h => List.length_eq_zero_iff.1 (by omega), fun h => by rw [h]; rfl⟩
  simp only [e0]
theorem follow_ok {r q : Raft} (h : raftOk r = true) (e1 : q.id = r.id) (e2 : q.of_ = r.of_) (e3 : q.role = 1) (e4 : q.yes = []) (e5 : q.next = []) (e6 : q.match_ = []) (hh : hardOk q.hard = true) (hc : 0 ≤ q.commit ∧ q.commit ≤ q.hard.log.length) : raftOk q = true := by
  obtain ⟨h1, h2, _⟩ := raftOk_iff.1 h
  refine raftOk_iff.2 ⟨by rw [e2]; exact h1, by rw [e1, e2]; exact h2, by omega, hh, hc, by rw [e4]; rfl, by rw [e4]; rfl, .inr e4, .inl e3, ?_⟩
  rw [if_neg (by omega)]
  exact ⟨e5, e6⟩
theorem folT_ok {r : Raft} (h : raftOk r = true) {t : Int} (h1 : r.hard.term ≤ t) (h2 : t ≤ 1000000000) : raftOk (folT r t) = true := by
  obtain ⟨_, _, _, hh, hc, _⟩ := raftOk_iff.1 h
  obtain ⟨q1, q2, q3, q4⟩ := hardOk_iff.1 hh
  exact follow_ok h rfl rfl rfl rfl rfl rfl (hardOk_iff.2 ⟨by simp only [folT]; omega, by simp [folT], q3, logOk_mono h1 _ _ q4⟩) hc
theorem rest_ok {r : Raft} (h : raftOk r = true) : raftOk (rest r) = true := by
  obtain ⟨_, _, _, hh, hc, _⟩ := raftOk_iff.1 h
  exact follow_ok h rfl rfl rfl rfl rfl rfl hh hc
theorem ask1_ok {r : Raft} {m : Msg} (h : hears r m 1 = true) : raftOk (ask1 r m) = true := by
  obtain ⟨ho, hm, _, hf, hne, hf0, hf4⟩ := hears_ok h
  have hn := msgFits_nums hm
  obtain ⟨_, _, _, hh, hc, _, _, hy, hv, h3⟩ := raftOk_iff.1 ho
  obtain ⟨q1, q2, q3, q4⟩ := hardOk_iff.1 hh
  have h0 : raftOk (ask0 r m) = true := by
    unfold ask0
    split
    · exact folT_ok ho (by omega) (by omega)
    · exact ho
  unfold ask1
  split
  · rename_i hyes
    unfold askYes yesB ask0 at hyes
    unfold ask0
    split
    · rename_i ht
      exact follow_ok ho rfl rfl rfl rfl rfl rfl (hardOk_iff.2 ⟨show 0 ≤ m.term ∧ m.term ≤ 1000000000 by omega, show 0 ≤ m.from_ + 1 ∧ m.from_ + 1 ≤ 5 by omega, q3, logOk_mono (show r.hard.term ≤ m.term by omega) _ _ q4⟩) hc
    · rename_i ht
      rw [if_neg ht] at hyes
      simp only [Bool.and_eq_true, Bool.or_eq_true, beq_iff_eq] at hyes
      have hr : r.role = 1 := by omega
      rw [if_neg (by omega)] at h3
      exact follow_ok ho rfl rfl hr (hy.elim (fun q => by omega) id) h3.1 h3.2 (hardOk_iff.2 ⟨q1, by dsimp only; omega, q3, q4⟩) hc
  · exact h0
theorem same_ok {r : Raft} (h : raftOk r = true) : same r = r := if_pos h
theorem askR_ok {r : Raft} {m : Msg} (h : raftOk r = true) : raftOk (askR r m) = true := by
  unfold askR
  split
  · exact ask1_ok ‹_›
  · rw [same_ok h]; exact h
theorem asc_put {v hi : Int} (h0 : 0 ≤ v) (h1 : v ≤ hi) : ∀ (l : List Int) (p : Int), asc hi p l = true → p < v → asc hi p (putA v l) = true
  | [], p, _, hp => by simp [putA, asc, inR_iff, h0, h1, hp]
  | x :: l, p, h, hp => by
    simp only [asc, Bool.and_eq_true, inR_iff, decide_eq_true_eq] at h
    unfold putA
    split
    · simp only [asc, Bool.and_eq_true, inR_iff, decide_eq_true_eq]
      exact ⟨h.1, asc_put h0 h1 l x h.2 (by omega)⟩
    · split
      · simp only [asc, Bool.and_eq_true, inR_iff, decide_eq_true_eq]
        exact h
      · simp only [asc, Bool.and_eq_true, inR_iff, decide_eq_true_eq]
        exact ⟨⟨⟨h0, h1⟩, hp⟩, ⟨h.1.1, by omega⟩, h.2⟩
theorem hasI_put {v x : Int} (hx : ¬ v = x) : ∀ (l : List Int), hasI x l = false → hasI x (putA v l) = false
  | [], _ => by simp [putA, hasI, hx]
  | a :: l, h => by
    simp only [hasI, Bool.or_eq_false_iff] at h
    unfold putA
    split
    · simp only [hasI, Bool.or_eq_false_iff]; exact ⟨h.1, hasI_put hx l h.2⟩
    · split
      · simp only [hasI, Bool.or_eq_false_iff]; exact h
      · simp only [hasI, Bool.or_eq_false_iff]; exact ⟨by simpa using hx, h⟩
theorem lead_ok {r : Raft} (h1 : r.of_ = 1 ∨ r.of_ = 3 ∨ r.of_ = 5) (h2 : 0 ≤ r.id ∧ r.id ≤ r.of_ - 1) (hh : hardOk r.hard = true) (hc : 0 ≤ r.commit ∧ r.commit ≤ r.hard.log.length) (ht : 1 ≤ r.hard.term) (hv : r.hard.vote = r.id + 1) : raftOk (leadR r) = true := by
  obtain ⟨q1, q2, q3, q4⟩ := hardOk_iff.1 hh
  have hl := logOk_last _ _ q4 (by omega)
  unfold leadR
  split
  · rename_i hlt
    refine raftOk_iff.2 ⟨h1, h2, by simp [had, put, lead0], hardOk_iff.2 ⟨q1, q2, by simp [had, put, lead0]; omega, logOk_app (e := noneE r.hard.term) ht (Int.le_refl _) (by simp [noneE, cmdOk, noBytes]) _ _ q4 hl.2⟩, ?_, rfl, rfl, .inr rfl, .inr ⟨ht, hv⟩, ?_⟩
    · simp only [had, put, lead0, List.length_append, List.length_cons, List.length_nil]; split <;> omega
    · rw [if_pos (show (had (put (lead0 r) (noneE r.hard.term))).role = 3 from rfl)]
      simp only [had, put, lead0, List.length_append, List.length_cons, List.length_nil, List.length_replicate, List.length_set]
      refine ⟨⟨by omega, fun x hx => ?_⟩, by omega, fun x hx => ?_⟩
      · have := List.eq_of_mem_replicate hx; omega
      · rcases List.mem_or_eq_of_mem_set hx with hx | hx
        · have := List.eq_of_mem_replicate hx; omega
        · omega
  · refine raftOk_iff.2 ⟨h1, h2, by simp [had, lead0], hh, ?_, rfl, rfl, .inr rfl, .inr ⟨ht, hv⟩, ?_⟩
    · by_cases q : r.of_ = 1 <;> simp [had, lead0, q] <;> omega
    · rw [if_pos (show (had (lead0 r)).role = 3 from rfl)]
      simp only [had, lead0, List.length_replicate, List.length_set]
      refine ⟨⟨by omega, fun x hx => ?_⟩, by omega, fun x hx => ?_⟩
      · have := List.eq_of_mem_replicate hx; omega
      · rcases List.mem_or_eq_of_mem_set hx with hx | hx
        · have := List.eq_of_mem_replicate hx; omega
        · omega
theorem yesR_ok {r : Raft} {m : Msg} (h : hears r m 2 = true) (hr : r.role = 2) : raftOk (yesR r m) = true := by
  obtain ⟨ho, hm, _, hf, hne, hf0, hf4⟩ := hears_ok h
  obtain ⟨h1, h2, h3, hh, hc, ha, hs, hy, hv, h4⟩ := raftOk_iff.1 ho
  exact raftOk_iff.2 ⟨h1, h2, h3, hh, hc, asc_put hf0 (show m.from_ ≤ r.of_ - 1 by omega) _ _ ha (by omega), hasI_put hne _ hs, .inl hr, hv, h4⟩
theorem yess_ok {r : Raft} {m : Msg} (ho : raftOk r = true) : raftOk (yess r m).1 = true := by
  unfold yess
  split
  · rename_i h
    obtain ⟨_, hm, _, hf, hne, hf0, hf4⟩ := hears_ok h
    have hn := msgFits_nums hm
    split
    · exact folT_ok ho (by omega) (by omega)
    · split
      · exact ho
      · rename_i hq
        have hr : r.role = 2 := by
          by_cases q : r.role = 2
          · exact q
          · exact (hq (.inl q)).elim
        have h9 := yesR_ok h hr
        split
        · obtain ⟨h1, h2, h3, hh, hc, ha, hs, hy, hv, h4⟩ := raftOk_iff.1 h9
          have hv' := hv.resolve_left (by simp [yesR, hr])
          exact lead_ok h1 h2 hh hc hv'.1 hv'.2
        · exact h9
  · show raftOk (same r) = true
    rw [same_ok ho]; exact ho
theorem stands_ok {r : Raft} (ho : raftOk r = true) : raftOk (stands r).1 = true := by
  unfold stands
  split
  · rename_i h
    obtain ⟨h1, h2, h3, hh, hc, ha, hs, hy, hv, h4⟩ := raftOk_iff.1 ho
    obtain ⟨q1, q2, q3, q4⟩ := hardOk_iff.1 hh
    have hh' : hardOk (standR r).hard = true := hardOk_iff.2 ⟨by simp only [standR]; omega, by simp only [standR]; omega, q3, logOk_mono (by simp only [standR]; omega) _ _ q4⟩
    rw [if_neg h.2.1] at h4
    split
    · exact lead_ok h1 h2 hh' hc (by simp only [standR]; omega) rfl
    · refine raftOk_iff.2 ⟨h1, h2, by simp [standR], hh', hc, rfl, rfl, .inl rfl, .inr ⟨by simp only [standR]; omega, rfl⟩, ?_⟩
      rw [if_neg (by simp [standR])]
      exact h4
  · show raftOk (same r) = true
    rw [same_ok ho]; exact ho
theorem prop_ok {r : Raft} {c : Cmd} (ho : raftOk r = true) : raftOk (propR r c) = true := by
  unfold propR
  split
  · rename_i h
    simp only [propOk, Bool.and_eq_true, beq_iff_eq, Bool.not_eq_true', beq_eq_false_iff_ne] at h
    obtain ⟨_, hr, hcmd, hl⟩ := h
    obtain ⟨h1, h2, h3, hh, hc, ha, hs, hy, hv, h4⟩ := raftOk_iff.1 ho
    obtain ⟨q1, q2, q3, q4⟩ := hardOk_iff.1 hh
    have hla := logOk_last _ _ q4 (by omega)
    have hv' := hv.resolve_left (by omega)
    rw [if_pos hr] at h4
    refine raftOk_iff.2 ⟨h1, h2, h3, hardOk_iff.2 ⟨q1, q2, by simp [had, put]; omega, logOk_app (e := propE r c) hv'.1 (Int.le_refl _) hcmd _ _ q4 hla.2⟩, ?_, ha, hs, hy, hv, ?_⟩
    · simp only [had, put, List.length_append, List.length_cons, List.length_nil]; split <;> omega
    · rw [if_pos (show (had (put r (propE r c))).role = 3 from hr)]
      simp only [had, put, List.length_append, List.length_cons, List.length_nil, List.length_set]
      refine ⟨⟨h4.1.1, fun x hx => ?_⟩, h4.2.1, fun x hx => ?_⟩
      · have := h4.1.2 x hx; omega
      · rcases List.mem_or_eq_of_mem_set hx with hx | hx
        · have := h4.2.2 x hx; omega
        · omega
  · rw [same_ok ho]; exact ho
theorem at0_in {l : List Int} {lo hi : Int} (h : ∀ x ∈ l, lo ≤ x ∧ x ≤ hi) {i : Int} (h0 : 0 ≤ i) (h1 : i < l.length) : lo ≤ at0 l i ∧ at0 l i ≤ hi := by
  have := List.getElem?_eq_getElem (show i.toNat < l.length by omega)
  rw [at0_eq this]
  exact h _ (List.getElem_mem _)
theorem gots_ok {r : Raft} {m : Msg} (ho : raftOk r = true) : raftOk (gots r m).1 = true := by
  unfold gots
  split
  · rename_i h
    obtain ⟨_, hm, _, hf, hne, hf0, hf4⟩ := hears_ok h
    have hn := msgFits_nums hm
    split
    · exact folT_ok ho (by omega) (by omega)
    · split
      · exact ho
      · rename_i hq
        have hr : r.role = 3 := by
          by_cases q : r.role = 3
          · exact q
          · exact (hq (.inl q)).elim
        obtain ⟨h1, h2, h3, hh, hc, ha, hs, hy, hv, h4⟩ := raftOk_iff.1 ho
        rw [if_pos hr] at h4
        have i1 := at0_in h4.1.2 hf0 (by omega)
        have i2 := at0_in h4.2.2 hf0 (by omega)
        split
        · split
          · refine raftOk_iff.2 ⟨h1, h2, h3, hh, ?_, ha, hs, hy, hv, ?_⟩
            · have := commitGo_le (gotUp r m) (gotUp r m).hard.log.length
              simp only [gotUp1, gotUp, commitOf] at this ⊢
              omega
            · rw [if_pos (show (gotUp1 r m).role = 3 from hr)]
              simp only [gotUp1, gotUp, List.length_set]
              refine ⟨⟨h4.1.1, fun x hx => ?_⟩, h4.2.1, fun x hx => ?_⟩
              · rcases List.mem_or_eq_of_mem_set hx with hx | hx
                · exact h4.1.2 x hx
                · omega
              · rcases List.mem_or_eq_of_mem_set hx with hx | hx
                · exact h4.2.2 x hx
                · omega
          · exact ho
        · refine raftOk_iff.2 ⟨h1, h2, h3, hh, hc, ha, hs, hy, hv, ?_⟩
          rw [if_pos (show (gotNo r m).role = 3 from hr)]
          simp only [gotNo, List.length_set]
          refine ⟨⟨h4.1.1, fun x hx => ?_⟩, h4.2⟩
          rcases List.mem_or_eq_of_mem_set hx with hx | hx
          · exact h4.1.2 x hx
          · omega
  · show raftOk (same r) = true
    rw [same_ok ho]; exact ho
theorem takeE_pre : ∀ (l : List Ent) (b : Int) (log : List Ent) (rc : List Rec), 0 ≤ b → b ≤ log.length → ∀ c : Nat, (c : Int) ≤ b → (takeE l b log rc).1.take c = log.take c ∧ c ≤ (takeE l b log rc).1.length
  | [], b, log, rc, h0, h1, c, hc => ⟨rfl, by show c ≤ log.length; omega⟩
  | e :: l, b, log, rc, h0, h1, c, hc => by
    unfold takeE
    split
    · split
      · exact takeE_pre l (b + 1) log rc (by omega) (by omega) c (by omega)
      · have := takeE_pre l (b + 1) (log.take b.toNat ++ [e]) (rc ++ [cutRec b] ++ [putRec (b + 1) e]) (by omega) (by simp; omega) c (by omega)
        refine ⟨this.1.trans ?_, this.2⟩
        rw [List.take_append_of_le_length (by simp; omega), List.take_take, Nat.min_eq_left (by omega)]
    · split
      · exact ⟨rfl, by show c ≤ log.length; omega⟩
      · have := takeE_pre l (b + 1) (log ++ [e]) (rc ++ [putRec (b + 1) e]) (by omega) (by simp; omega) c (by omega)
        refine ⟨this.1.trans ?_, this.2⟩
        rw [List.take_append_of_le_length (by omega)]
theorem takeE_keep (c : Nat) : ∀ (l : List Ent) (b : Int) (log : List Ent) (rc : List Rec), 0 ≤ b → b ≤ log.length → c ≤ log.length → cutGo log c b l = false → (takeE l b log rc).1.take c = log.take c ∧ c ≤ (takeE l b log rc).1.length
  | [], b, log, rc, h0, h1, hc, _ => ⟨rfl, hc⟩
  | e :: l, b, log, rc, h0, h1, hc, hg => by
    unfold cutGo at hg
    by_cases q1 : b + 1 ≤ log.length
    · rw [if_pos q1] at hg
      by_cases q2 : termAt log (b + 1) = e.term
      · rw [if_pos q2] at hg
        rw [takeE_same q1 q2]
        exact takeE_keep c l (b + 1) log rc (by omega) (by omega) hc hg
      · rw [if_neg q2] at hg
        have := of_decide_eq_false hg
        exact takeE_pre (e :: l) b log rc h0 h1 c (by omega)
    · exact takeE_pre (e :: l) b log rc h0 h1 c (by omega)
def recOk (r : Rec) : Bool :=
  if r.kind = 1 then inR r.term 0 1000000000 && (inR r.vote 0 5 && (r.at_ == 0 && entEq r.entry zEnt))
  else if r.kind = 2 then inR r.at_ 1 80 && (entOk r.entry && (r.term == 0 && r.vote == 0))
  else if r.kind = 3 then inR r.at_ 0 80 && (r.term == 0 && (r.vote == 0 && entEq r.entry zEnt)) else false
def recGood (h : Hard) (r : Rec) : Bool :=
  recOk r && (if r.kind = 1 then decide (r.term > h.term) || (r.term == h.term && (h.vote == 0 || h.vote == r.vote))
  else if r.kind = 2 then r.at_ == (h.log.length : Int) + 1 else if r.kind = 3 then decide (r.at_ ≤ h.log.length) else true)
def recOut (h : Hard) (r : Rec) : Hard :=
  if r.kind = 1 then ⟨r.term, r.vote, h.log⟩ else if r.kind = 2 then ⟨h.term, h.vote, h.log ++ [r.entry]⟩ else if r.kind = 3 then ⟨h.term, h.vote, h.log.take r.at_.toNat⟩ else h
def hApply (h : Hard) (r : Rec) : Hard × Bool :=
  if hardOk h = true then (if recGood h r = true ∧ hardOk (recOut h r) = true then (recOut h r, true) else (h, false)) else (zHard, false)
def saves : Hard → List Rec → Hard → Prop
  | h, [], h' => h = h'
  | h, x :: l, h' => (hApply h x).2 = true ∧ saves (hApply h x).1 l h'
theorem saves_app {h1 h2 : Hard} : ∀ {a b : List Rec} {h : Hard}, saves h a h1 → saves h1 b h2 → saves h (a ++ b) h2
  | [], b, h, p, q => by cases p; exact q
  | x :: a, b, h, p, q => ⟨p.1, saves_app p.2 q⟩
theorem hApply_eq {h : Hard} {r : Rec} (h0 : hardOk h = true) (h1 : recGood h r = true) (h2 : hardOk (recOut h r) = true) : hApply h r = (recOut h r, true) := by rw [hApply, if_pos h0, if_pos ⟨h1, h2⟩]
theorem saves_one {h : Hard} {r : Rec} (h0 : hardOk h = true) (h1 : recGood h r = true) (h2 : hardOk (recOut h r) = true) : saves h [r] (recOut h r) := by
  have := hApply_eq h0 h1 h2
  exact ⟨by rw [this], by rw [this]; rfl⟩
theorem save_put {t v : Int} {log : List Ent} {e : Ent} {n : Int} (hn : n = (log.length : Int) + 1) (h0 : hardOk ⟨t, v, log⟩ = true) (hl : log.length < 80) (he : entOk e = true) (h1 : hardOk ⟨t, v, log ++ [e]⟩ = true) : saves ⟨t, v, log⟩ [putRec n e] ⟨t, v, log ++ [e]⟩ := by
  have := saves_one (h := ⟨t, v, log⟩) (r := putRec n e) h0 (by have e1 : inR n 1 80 = true := inR_iff.2 (by omega); simp [recGood, recOk, putRec, he, e1, hn] <;> exact inR_iff.2 (by omega)) (by simpa [recOut, putRec] using h1)
  simpa [recOut, putRec] using this
theorem entEq_z : entEq zEnt zEnt = true := entEq_refl _
theorem save_cut {t v : Int} {log : List Ent} {b : Int} (hb : 0 ≤ b ∧ b ≤ log.length) (h0 : hardOk ⟨t, v, log⟩ = true) : saves ⟨t, v, log⟩ [cutRec b] ⟨t, v, log.take b.toNat⟩ ∧ hardOk ⟨t, v, log.take b.toNat⟩ = true := by
  obtain ⟨q1, q2, q3, q4⟩ := hardOk_iff.1 h0
  have q3' : log.length ≤ 80 := q3
  have h1 : hardOk ⟨t, v, log.take b.toNat⟩ = true := hardOk_iff.2 ⟨q1, q2, by simp; omega, logOk_take _ _ _ q4⟩
  have := saves_one (h := ⟨t, v, log⟩) (r := cutRec b) h0 (by have e1 : inR b 0 80 = true := inR_iff.2 (by omega); simp [recGood, recOk, cutRec, entEq_z, e1, hb.2]) (by simpa [recOut, cutRec] using h1)
  exact ⟨by simpa [recOut, cutRec] using this, h1⟩
theorem save_vote {t v t' v' : Int} {log : List Ent} (h0 : hardOk ⟨t, v, log⟩ = true) (h1 : hardOk ⟨t', v', log⟩ = true) (ht : t' > t ∨ (t' = t ∧ (v = 0 ∨ v = v'))) : saves ⟨t, v, log⟩ [⟨1, t', v', 0, zEnt⟩] ⟨t', v', log⟩ := by
  obtain ⟨q1, q2, q3, q4⟩ := hardOk_iff.1 h1
  dsimp only at q1 q2
  have := saves_one (h := ⟨t, v, log⟩) (r := ⟨1, t', v', 0, zEnt⟩) h0 (by simp only [recGood, recOk, entEq_z, inR]; simp; omega) (by simpa [recOut] using h1)
  simpa [recOut] using this
theorem entsOk_cons {e : Ent} {l : List Ent} : entsOk (e :: l) = true ↔ entOk e = true ∧ entsOk l = true := by simp [entsOk]
theorem termAt_get {log : List Ent} {b : Int} (h0 : 0 ≤ b) (h1 : b + 1 ≤ log.length) : lastG 0 (log.take (b + 1).toNat) = termAt log (b + 1) := by
  unfold termAt
  rw [if_neg (by omega), show (b + 1 - 1).toNat = b.toNat by omega, show (b + 1).toNat = b.toNat + 1 by omega]
  have hb : b.toNat < log.length := by omega
  rw [List.take_succ_eq_append_getElem hb, lastG_app, List.getElem?_eq_getElem hb]
  rfl
theorem takeE_saves (t v : Int) : ∀ (l : List Ent) (b lo : Int) (log : List Ent), 0 ≤ b → b ≤ log.length → hardOk ⟨t, v, log⟩ = true → rowGo t lo l = true → entsOk l = true → lastG 0 (log.take b.toNat) ≤ lo →
    hardOk ⟨t, v, (takeE l b log []).1⟩ = true ∧ saves ⟨t, v, log⟩ (takeE l b log []).2.1 ⟨t, v, (takeE l b log []).1⟩
  | [], b, lo, log, h0, h1, hh, _, _, _ => ⟨hh, rfl⟩
  | e :: l, b, lo, log, h0, h1, hh, hr, he, hl => by
    simp only [rowGo, Bool.and_eq_true, inR_iff] at hr
    obtain ⟨he1, he2⟩ := entsOk_cons.1 he
    obtain ⟨n1, n2, n3⟩ := entOk_nums he1
    obtain ⟨q1, q2, q3, q4⟩ := hardOk_iff.1 hh
    dsimp only at q1 q2 q3 q4
    by_cases c1 : b + 1 ≤ log.length
    · by_cases c2 : termAt log (b + 1) = e.term
      · rw [takeE_same c1 c2]
        exact takeE_saves t v l (b + 1) e.term log (by omega) (by omega) hh hr.2 he2 (by rw [termAt_get h0 c1, c2]; exact Int.le_refl _)
      · rw [takeE_cut c1 c2]
        obtain ⟨s1, s2⟩ := save_cut (t := t) (v := v) (log := log) (b := b) ⟨h0, h1⟩ hh
        have hlog : logOk t 0 (log.take b.toNat ++ [e]) = true := logOk_app n1 (by omega) n3 _ _ (logOk_take _ _ _ q4) (by omega)
        have hlen : (log.take b.toNat).length = b.toNat := by simp; omega
        have s3 : hardOk ⟨t, v, log.take b.toNat ++ [e]⟩ = true := hardOk_iff.2 ⟨q1, q2, by dsimp only; rw [List.length_append, hlen]; simp only [List.length_cons, List.length_nil]; omega, hlog⟩
        have s4 := save_put (t := t) (v := v) (log := log.take b.toNat) (e := e) (n := b + 1) (by rw [hlen]; omega) s2 (by rw [hlen]; omega) he1 s3
        have ih := takeE_saves t v l (b + 1) e.term (log.take b.toNat ++ [e]) (by omega) (by rw [List.length_append, hlen]; simp only [List.length_cons, List.length_nil]; omega) s3 hr.2 he2 (by
          rw [List.take_of_length_le (by rw [List.length_append, hlen]; simp only [List.length_cons, List.length_nil]; omega), lastG_app]; exact Int.le_refl _)
        have e1 := takeE_recs ([] ++ [cutRec b] ++ [putRec (b + 1) e]) l (b + 1) (log.take b.toNat ++ [e]) []
        rw [List.append_nil] at e1
        rw [e1]
        exact ⟨ih.1, saves_app (saves_app s1 s4) ih.2⟩
    · by_cases c2 : 80 ≤ b
      · rw [takeE_full c1 c2]
        exact ⟨hh, rfl⟩
      · rw [takeE_put c1 c2]
        have hb : b = (log.length : Int) := by omega
        have hl' : lastG 0 log ≤ lo := by rw [List.take_of_length_le (by omega)] at hl; exact hl
        have hlog : logOk t 0 (log ++ [e]) = true := logOk_app n1 (by omega) n3 _ _ q4 (by omega)
        have s3 : hardOk ⟨t, v, log ++ [e]⟩ = true := hardOk_iff.2 ⟨q1, q2, by dsimp only; rw [List.length_append]; simp only [List.length_cons, List.length_nil]; omega, hlog⟩
        have s4 := save_put (t := t) (v := v) (log := log) (e := e) (n := b + 1) (by omega) hh (by omega) he1 s3
        have ih := takeE_saves t v l (b + 1) e.term (log ++ [e]) (by omega) (by rw [List.length_append]; simp only [List.length_cons, List.length_nil]; omega) s3 hr.2 he2 (by
          rw [List.take_of_length_le (by rw [List.length_append]; simp only [List.length_cons, List.length_nil]; omega), lastG_app]; exact Int.le_refl _)
        have e1 := takeE_recs ([] ++ [putRec (b + 1) e]) l (b + 1) (log ++ [e]) []
        rw [List.append_nil] at e1
        rw [e1]
        exact ⟨ih.1, saves_app s4 ih.2⟩
end Go.Sy

