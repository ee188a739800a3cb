/- The laws on standing, proposing and sending, in plain words. -/
import Derived.Test.YtlmadhahghiedaaGreatSSentOp
set_option linter.unusedVariables false
set_option linter.unusedSimpArgs false
namespace Go.Sy
theorem beat_not {r : Raft} (h : raftOk r = false ∨ r.role ≠ 3) : ((beat r).length : Int) = 0 ∨ r.role = 2 := by
  unfold beat
  split
  · rename_i ho
    have h3 : r.role ≠ 3 := h.elim (fun q => by rw [ho] at q; cases q) id
    rw [if_neg h3]
    split
    · rename_i h2; exact .inr h2
    · exact .inl rfl
  · exact .inl rfl
theorem sendUp_mem (r : Raft) : ∀ k : Nat, ∀ o ∈ sendUp r k, o = sendOf r o.to ∧ 0 ≤ o.to ∧ o.to < k ∧ o.to ≠ r.id
  | 0, o, h => by cases h
  | k + 1, o, h => by
    unfold sendUp at h
    rcases List.mem_append.1 h with h | h
    · have := sendUp_mem r k o h
      exact ⟨this.1, this.2.1, by omega, this.2.2.2⟩
    · split at h
      · cases h
      · rename_i hne
        rw [List.mem_singleton.1 h]
        exact ⟨rfl, by show (0 : Int) ≤ k; omega, by show (k : Int) < ((k + 1 : Nat) : Int); omega, hne⟩
def Sent1 (r : Raft) (e : Out) : Prop := (e.msg.kind = 3 ∧ e.msg.at_ = nextOf r e.to - 1 ∧ e.msg.commit = r.commit ∧ e.msg.entries = (r.hard.log.drop e.msg.at_.toNat).take 6) ∧ (0 ≤ e.to ∧ e.to < r.of_ ∧ e.to ≠ r.id) ∧ (0 ≤ e.msg.at_ ∧ e.msg.at_ ≤ r.hard.log.length) ∧ r.hard.log.length ≤ 80 ∧ (r.next.length : Int) = r.of_ ∧ (1 ≤ r.of_ ∧ r.of_ ≤ 5)
theorem beat_get {r : Raft} {k : Nat} {e : Out} (ho : raftOk r = true) (h3 : r.role = 3) (h : (beat r)[k]? = some e) : e = sendOf r e.to ∧ Sent1 r e := by
  unfold beat at h
  rw [if_pos ho, if_pos h3] at h
  have hm := sendUp_mem r _ e (List.mem_of_getElem? h)
  have hn := raftOk1_nums (raftOk_1 ho)
  have hx := raftOk_next ho h3
  have hl : e.to.toNat < r.next.length := by omega
  have hge := List.getElem?_eq_getElem hl
  have hr := hx.2.1 _ (List.mem_of_getElem? hge)
  have e2 : nextOf r e.to = r.next[e.to.toNat] := by unfold nextOf; rw [hge]; rfl
  refine ⟨hm.1, ?_⟩
  have ea : e.msg.at_ = nextOf r e.to - 1 := by rw [hm.1]; rfl
  refine ⟨⟨by rw [hm.1]; rfl, ea, by rw [hm.1]; rfl, ?_⟩, ⟨hm.2.1, by omega, hm.2.2.2⟩, ⟨by rw [ea, e2]; omega, by rw [ea, e2]; omega⟩, hn.2.2.2.2.2.2, hx.1, by omega⟩
  rw [ea]
  conv => lhs; rw [hm.1]
  rfl
theorem fits_send {f t a s c : Int} {l : List Ent} (hf : 0 ≤ f ∧ f ≤ 4) (ht : 0 ≤ t ∧ t ≤ 1000000000) (ha : 0 ≤ a ∧ a ≤ 80) (hs : 0 ≤ s ∧ s ≤ 1000000000) (hc : 0 ≤ c ∧ c ≤ 80) (hl : l.length ≤ 6) (he : entsOk l = true) : msgFits ⟨3, f, t, a, s, c, false, 0, 0, ⟨#[]⟩, zCmd, l⟩ = true := by
  have e : ∀ b, hasF ⟨3, f, t, a, s, c, false, 0, 0, ⟨#[]⟩, zCmd, l⟩ b = hasU b [102, 116, 97, 115, 99, 101] := fun b => rfl
  have h0 : (!((l8F 3).toList == [])) = true := by rw [ByteArray.toList_eq]; rfl
  have hlen : inR (l.length : Int) 0 6 = true := inR_iff.2 (by omega)
  simp only [msgFits, fits1, fits2, fits3, e, num8, hasU, h0, inR_iff.2 hf, inR_iff.2 ht, inR_iff.2 ha, inR_iff.2 hs, inR_iff.2 hc, he, hlen]
  simp [cmdEq_refl']
  rfl
where cmdEq_refl' : ∀ c : Cmd, cmdEq c c = true := fun c => by simp [cmdEq]
theorem entsOk_of {t p : Int} (ht : t ≤ 1000000000) : ∀ {l : List Ent}, (∀ e ∈ l, 1 ≤ e.term ∧ e.term ≤ t ∧ cmdOk e.cmd = true) → entsOk l = true
  | [], _ => rfl
  | e :: l, h => by
    have h1 := h e List.mem_cons_self
    rw [entsOk_cons]
    exact ⟨by simp only [entOk, Bool.and_eq_true, inR_iff]; exact ⟨by omega, h1.2.2⟩, entsOk_of (p := p) ht (fun q hq => h q (List.mem_cons_of_mem _ hq))⟩
theorem termAt_in {r : Raft} (ho : hardOk r.hard = true) (n : Int) : 0 ≤ termAt r.hard.log n ∧ termAt r.hard.log n ≤ 1000000000 := by
  obtain ⟨q1, q2, q3, q4⟩ := hardOk_iff.1 ho
  unfold termAt
  split
  · omega
  · cases h : r.hard.log[(n - 1).toNat]? with
    | none => simp
    | some e =>
      have := logOk_get _ _ q4 e (List.mem_of_getElem? h)
      show 0 ≤ e.term ∧ e.term ≤ 1000000000
      omega
theorem sendOf_fits {r : Raft} {k : Int} (ho : raftOk r = true) (hn : 0 ≤ nextOf r k - 1 ∧ nextOf r k - 1 ≤ r.hard.log.length) : msgFits (sendOf r k).msg = true := by
  have h1 := raftOk1_nums (raftOk_1 ho)
  obtain ⟨_, _, _, hh, _⟩ := raftOk_iff.1 ho
  obtain ⟨q1, q2, q3, q4⟩ := hardOk_iff.1 hh
  refine fits_send (by omega) q1 (by omega) (termAt_in hh _) (by omega) (by rw [List.length_take]; omega) (entsOk_of (p := 0) q1.2 (fun e he => logOk_get _ _ q4 e (List.mem_of_mem_drop (List.mem_of_mem_take he))))
theorem takeE_all : ∀ (l : List Ent) (b : Int) (log : List Ent) (rc : List Rec), b = log.length → log.length + l.length ≤ 80 → (takeE l b log rc).1 = log ++ l ∧ (takeE l b log rc).2.2 = b + l.length
  | [], b, log, rc, hb, _ => by simp [takeE]
  | e :: l, b, log, rc, hb, hl => by
    simp only [List.length_cons] at hl
    rw [takeE_put (by omega) (by omega)]
    have := takeE_all l (b + 1) (log ++ [e]) (rc ++ [putRec (b + 1) e]) (by simp; omega) (by simp; omega)
    rw [this.1, this.2]
    refine ⟨by simp, ?_⟩
    simp only [List.length_cons]; omega
theorem rowGo_log {t : Int} : ∀ (l : List Ent) (p : Int), logOk t p l = true → rowGo t p l = true
  | [], _, _ => rfl
  | e :: l, p, h => by
    simp only [logOk, Bool.and_eq_true, decide_eq_true_eq] at h
    simp only [rowGo, Bool.and_eq_true, inR_iff]
    exact ⟨by omega, rowGo_log l _ h.2⟩
theorem logOk_drop {t : Int} : ∀ (l : List Ent) (p : Int) (k : Nat), logOk t p l = true → logOk t (lastG p (l.take k)) (l.drop k) = true
  | [], p, k, _ => by simp [logOk]
  | e :: l, p, 0, h => h
  | e :: l, p, k + 1, h => by
    simp only [logOk, Bool.and_eq_true, decide_eq_true_eq] at h
    exact logOk_drop l e.term k h.2
theorem sent_law {r : Raft} {e : Out} (ho : raftOk r = true) (he : e = sendOf r e.to) (hs : Sent1 r e) :
    (newR e.to r.of_ ⟨r.hard.term, 0, r.hard.log.take e.msg.at_.toNat⟩).2 = true ∧ (∃ b, (sends (newR e.to r.of_ ⟨r.hard.term, 0, r.hard.log.take e.msg.at_.toNat⟩).1 e.msg).2.2 = [b] ∧ b.msg.yes = true ∧ b.msg.at_ = e.msg.at_ + e.msg.entries.length) ∧
    ((sends (newR e.to r.of_ ⟨r.hard.term, 0, r.hard.log.take e.msg.at_.toNat⟩).1 e.msg).1.hard.log.length : Int) = e.msg.at_ + e.msg.entries.length ∧ e.msg.at_ + e.msg.entries.length ≤ r.hard.log.length := by
  obtain ⟨⟨s1, s2, s3, s4⟩, s5, s6, s7, s8, s9⟩ := hs
  have hn := raftOk1_nums (raftOk_1 ho)
  obtain ⟨h1, h2, h3, hh, hc, ha, hsI, hy, hv, h4⟩ := raftOk_iff.1 ho
  obtain ⟨q1, q2, q3, q4⟩ := hardOk_iff.1 hh
  generalize hA : e.msg.at_ = A at *
  have hk : (r.hard.log.take A.toNat).length = A.toNat := by rw [List.length_take]; omega
  have hlog : logOk r.hard.term 0 (r.hard.log.take A.toNat) = true := logOk_take _ _ _ q4
  have hok : raftOk ⟨e.to, r.of_, 1, 0, ⟨r.hard.term, 0, r.hard.log.take A.toNat⟩, [], [], []⟩ = true :=
    raftOk_iff.2 ⟨h1, by dsimp only; omega, by simp, hardOk_iff.2 ⟨q1, by simp, by dsimp only; omega, hlog⟩, by simp, rfl, rfl, .inr rfl, .inl rfl, by rw [if_neg (by simp)]; exact ⟨rfl, rfl⟩⟩
  have hO : newR e.to r.of_ ⟨r.hard.term, 0, r.hard.log.take A.toNat⟩ = (⟨e.to, r.of_, 1, 0, ⟨r.hard.term, 0, r.hard.log.take A.toNat⟩, [], [], []⟩, true) := by unfold newR; rw [if_pos hok]
  rw [hO]
  have hfit : msgFits e.msg = true := by rw [he]; exact sendOf_fits ho (by omega)
  have ht : e.msg.term = r.hard.term := by rw [he]; rfl
  have hfr : e.msg.from_ = r.id := by rw [he]; rfl
  have haT : e.msg.atTerm = termAt r.hard.log A := by
    rw [s2]
    conv => lhs; rw [he]
    rfl
  have hlen : (A : Int) + e.msg.entries.length ≤ r.hard.log.length := by rw [s4, List.length_take, List.length_drop]; omega
  have hhears : hears ⟨e.to, r.of_, 1, 0, ⟨r.hard.term, 0, r.hard.log.take A.toNat⟩, [], [], []⟩ e.msg 3 = true := by
    simp only [hears, Bool.and_eq_true, beq_iff_eq, decide_eq_true_eq, Bool.not_eq_true', beq_eq_false_iff_ne]
    exact ⟨hok, hfit, s1, by rw [hfr]; omega, by rw [hfr]; omega⟩
  have hlast : A ≠ 0 → lastG 0 (r.hard.log.take A.toNat) = termAt r.hard.log A := fun h0 => by
    have := termAt_get (log := r.hard.log) (b := A - 1) (by omega) (by omega)
    rwa [show A - 1 + 1 = A by omega] at this
  have hrow : rowB e.msg = true := by
    unfold rowB
    rw [hA, ht, s4, haT]
    have h5 := logOk_take _ _ 6 (logOk_drop _ _ A.toNat q4)
    have h6 := rowGo_log _ _ h5
    split
    · rename_i h0; rw [hlast h0] at h6; exact h6
    · rename_i h0
      have h0 : A = 0 := by omega
      rw [h0] at h6 ⊢
      exact h6
  have hterm : A ≠ 0 → termAt (r.hard.log.take A.toNat) A = termAt r.hard.log A := fun h0 => by
    unfold termAt
    rw [if_neg (by omega), if_neg (by omega), List.getElem?_take, if_pos (by omega)]
  have hfB : fitsB (r.hard.log.take A.toNat) e.msg = true := by
    simp only [fitsB, Bool.and_eq_true, Bool.or_eq_true, decide_eq_true_eq, beq_iff_eq]
    rw [hA, haT]
    refine ⟨by omega, ?_⟩
    by_cases h0 : A = 0
    · exact .inl h0
    · exact .inr (hterm h0)
  have hcut : cutsB ⟨e.to, r.of_, 1, 0, ⟨r.hard.term, 0, r.hard.log.take A.toNat⟩, [], [], []⟩ e.msg = false := by
    unfold cutsB
    rw [Bool.and_eq_false_iff]
    refine .inr ?_
    dsimp only
    rw [hA]
    cases e.msg.entries with
    | nil => rfl
    | cons a l => unfold cutGo; rw [if_neg (by omega)]
  have hB : sendB ⟨e.to, r.of_, 1, 0, ⟨r.hard.term, 0, r.hard.log.take A.toNat⟩, [], [], []⟩ e.msg = true := by
    simp only [sendB, Bool.and_eq_true, Bool.not_eq_true']
    exact ⟨hhears, hrow, hcut⟩
  have hT := takeE_all e.msg.entries A (r.hard.log.take A.toNat) [] (by omega) (by omega)
  rw [sends_take0 hB (by dsimp only; omega) (by dsimp only; omega) (by simp) hfB]
  unfold sendT
  dsimp only
  rw [hA]
  refine ⟨rfl, ⟨_, rfl, rfl, ?_⟩, ?_, hlen⟩
  · show (takeE e.msg.entries A (r.hard.log.take A.toNat) []).2.2 = _
    rw [hT.2]
  · rw [hT.1, List.length_append, hk]; omega
theorem sent_entry {r : Raft} {e : Out} {k : Nat} {a b : Ent} (hs : Sent1 r e) (h1 : e.msg.entries[k]? = some a) (h2 : r.hard.log[(e.msg.at_ + (k : Int)).toNat]? = some b) : entEq a b = true := by
  obtain ⟨⟨_, _, _, s4⟩, _, s6, _⟩ := hs
  rw [s4, List.getElem?_take] at h1
  split at h1
  · rw [List.getElem?_drop, show e.msg.at_.toNat + k = (e.msg.at_ + (k : Int)).toNat by omega, h2] at h1
    obtain rfl := Option.some.inj h1
    exact entEq_refl b
  · cases h1
theorem sent_next {r : Raft} {e : Out} {n : Int} (hs : Sent1 r e) (h : r.next[e.to.toNat]? = some n) : e.msg.at_ = n - 1 := by
  rw [hs.1.2.1]
  unfold nextOf
  rw [h]
  rfl
theorem one_is2 {l : List Out} {o e : Out} (hl : l = [o]) (h : l[0]? = some e) : e = o := by
  subst hl
  simp only [List.getElem?_cons_zero, Option.some.injEq] at h
  exact h.symm
theorem newR_small {id n : Int} {h : Hard} (hl : h.log.length ≤ 1048576) : SmallR (newR id n h).1 := by
  unfold newR
  split
  · unfold SmallR; dsimp only; simp only [List.length_nil]; omega
  · unfold SmallR zRaft zHard; simp only [List.length_nil]; omega
end Go.Sy

