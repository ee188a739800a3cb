/- What the functions of a node compute, part 2: who has got how much, what is held by most. -/
import Derived.Test.YtocjgmdfocaamaaGreatSRecsTellR
set_option linter.unusedVariables false
set_option linter.unusedSimpArgs false
namespace Go.Sy
theorem num8_in {h : Bool} {x lo hi : Int} (q : num8 h x lo hi = true) (h0 : lo ≤ 0) (h1 : 0 ≤ hi) : lo ≤ x ∧ x ≤ hi := by
  unfold num8 at q
  split at q
  · exact inR_iff.1 q
  · have := beq_iff_eq.1 q; omega
theorem msgFits_nums {m : Msg} (h : msgFits m = true) : (0 ≤ m.term ∧ m.term ≤ 1000000000) ∧ (0 ≤ m.at_ ∧ m.at_ ≤ 80) ∧ (0 ≤ m.atTerm ∧ m.atTerm ≤ 1000000000) ∧ (0 ≤ m.commit ∧ m.commit ≤ 80) ∧ m.entries.length ≤ 6 := by
  simp only [msgFits, fits1, fits2, Bool.and_eq_true] at h
  obtain ⟨⟨_, _, h2, h3, h4, h5⟩, ⟨_, _, _, _, h6⟩, _⟩ := h
  have q6 := num8_in h6 (by omega) (by omega)
  exact ⟨num8_in h2 (by omega) (by omega), num8_in h3 (by omega) (by omega), num8_in h4 (by omega) (by omega), num8_in h5 (by omega) (by omega), by omega⟩
theorem raftOk_match {r : Raft} (h : raftOk r = true) (h3 : r.role = 3) : ∀ x ∈ r.match_, 0 ≤ x ∧ x ≤ r.hard.log.length := by
  have := raftOk_3 h
  simp only [raftOk3, h3, if_true, Bool.and_eq_true, beq_iff_eq, allIn_iff] at this
  exact this.2.2
def cntGe (l : List Int) (n : Int) : Int := (l.countP (fun x => decide (x ≥ n)) : Nat)
def mostB (r : Raft) (n : Int) : Bool := decide (2 * cntGe r.match_ n > r.of_) && termAt r.hard.log n == r.hard.term
def commitGo (r : Raft) : Nat → Int
  | 0 => r.commit
  | k + 1 => if ((k : Int) + 1) > r.commit then (if mostB r (k + 1) = true then (k : Int) + 1 else commitGo r k) else r.commit
def commitOf (r : Raft) : Int := commitGo r r.hard.log.length
theorem commitGo_end {r : Raft} {n : Int} (h : ¬ n > r.commit) (h0 : 0 ≤ n) : commitGo r n.toNat = r.commit := by
  cases hk : n.toNat with
  | zero => rfl
  | succ k => unfold commitGo; rw [if_neg (by omega)]
theorem commitGo_go {r : Raft} {n : Int} (h : n > r.commit) (h0 : 0 < n) : commitGo r n.toNat = if mostB r n = true then n else commitGo r (n - 1).toNat := by
  obtain ⟨k, rfl⟩ : ∃ k : Nat, n = (k : Int) + 1 := ⟨(n - 1).toNat, by omega⟩
  have e1 : ((k : Int) + 1).toNat = k + 1 := by omega
  have e2 : ((k : Int) + 1 - 1).toNat = k := by omega
  rw [e1, e2]
  conv => lhs; unfold commitGo
  rw [if_pos h]
theorem cntGe_step {l : List Int} {k : Nat} {e n : Int} (h : l[k]? = some e) : cntGe (l.take (k + 1)) n = cntGe (l.take k) n + (if e ≥ n then 1 else 0) := by
  have hk := (List.getElem?_eq_some_iff.1 h).1
  have he := (List.getElem?_eq_some_iff.1 h).2
  unfold cntGe
  rw [List.take_succ_eq_append_getElem hk, List.countP_append, he]
  by_cases q : e ≥ n
  · simp [q]
  · simp [q]
theorem cntGe_all {l : List Int} {k : Nat} {n : Int} (h : l.length ≤ k) : cntGe (l.take k) n = cntGe l n := by rw [List.take_of_length_le h]
theorem commitGo_le (r : Raft) : ∀ k : Nat, r.commit ≤ commitGo r k ∧ (commitGo r k = r.commit ∨ commitGo r k ≤ k)
  | 0 => ⟨Int.le_refl _, .inl rfl⟩
  | k + 1 => by
    have := commitGo_le r k
    unfold commitGo
    split
    · split <;> omega
    · exact ⟨Int.le_refl _, .inl rfl⟩
def CInv (r : Raft) (n c : Int) : Prop := (c = r.commit ∧ 0 ≤ n ∧ commitOf r = commitGo r n.toNat) ∨ (n ≤ c ∧ c = commitOf r)
theorem CInv.start (r : Raft) : CInv r r.hard.log.length r.commit := .inl ⟨rfl, by omega, by simp [commitOf]⟩
theorem CInv.skip {r : Raft} {n c : Int} (h : CInv r n c) (hn : n > c) (h0 : 0 ≤ c) (hb : mostB r n = false) : CInv r (n - 1) c := by
  rcases h with ⟨h1, h2, h3⟩ | ⟨h1, h2⟩
  · refine .inl ⟨h1, by omega, ?_⟩
    rw [h3, commitGo_go (by omega) (by omega), hb]
    rfl
  · omega
theorem CInv.take {r : Raft} {n c : Int} (h : CInv r n c) (hn : n > c) (h0 : 0 ≤ c) (hb : mostB r n = true) : CInv r (n - 1) n := by
  rcases h with ⟨h1, h2, h3⟩ | ⟨h1, h2⟩
  · refine .inr ⟨by omega, ?_⟩
    rw [h3, commitGo_go (by omega) (by omega), hb]
    rfl
  · omega
theorem CInv.done {r : Raft} {n c : Int} (h : CInv r n c) (hn : ¬ n > c) : c = commitOf r := by
  rcases h with ⟨h1, h2, h3⟩ | ⟨h1, h2⟩
  · rw [h3, commitGo_end (by omega) h2, h1]
  · exact h2
def at0 (l : List Int) (i : Int) : Int := (l[i.toNat]?).getD 0
theorem at0_eq {l : List Int} {i : Int} {e : Int} (h : l[i.toNat]? = some e) : at0 l i = e := by unfold at0; rw [h]; rfl
def gotUp (r : Raft) (m : Msg) : Raft := { r with match_ := r.match_.set m.from_.toNat (max (at0 r.match_ m.from_) m.at_), next := r.next.set m.from_.toNat (max (at0 r.match_ m.from_) m.at_ + 1) }
def gotUp1 (r : Raft) (m : Msg) : Raft := { gotUp r m with commit := commitOf (gotUp r m) }
def gotNo (r : Raft) (m : Msg) : Raft := { r with next := r.next.set m.from_.toNat (max 1 (min (at0 r.next m.from_ - 1) (m.at_ + 1))) }
def gots (r : Raft) (m : Msg) : Raft × List Rec × List Out :=
  if hears r m 4 = true then
    (if m.term > r.hard.term then (folT r m.term, [voteRec (folT r m.term)], [])
    else if r.role ≠ 3 ∨ m.term ≠ r.hard.term then (r, [], [])
    else if m.yes = true then (if m.at_ ≤ r.hard.log.length then (gotUp1 r m, [], []) else (r, [], []))
    else (gotNo r m, [], [sendOf (gotNo r m) m.from_]))
  else (same r, [], [])
section
variable {r : Raft} {m : Msg}
theorem gots_un (h : hears r m 4 = false) (ho : raftOk r = true) : gots r m = (r, [], []) := by unfold gots; rw [if_neg (by rw [h]; decide), same, if_pos ho]
theorem gots_term (h : hears r m 4 = true) (h1 : m.term > r.hard.term) : gots r m = (folT r m.term, [voteRec (folT r m.term)], []) := by unfold gots; rw [if_pos h, if_pos h1]
theorem gots_not (h : hears r m 4 = true) (h1 : ¬ m.term > r.hard.term) (h2 : r.role ≠ 3 ∨ m.term ≠ r.hard.term) : gots r m = (r, [], []) := by unfold gots; rw [if_pos h, if_neg h1, if_pos h2]
theorem gots_far (h : hears r m 4 = true) (h1 : ¬ m.term > r.hard.term) (h2 : r.role = 3) (h3 : m.term = r.hard.term) (hy : m.yes = true) (ha : ¬ m.at_ ≤ r.hard.log.length) : gots r m = (r, [], []) := by
  unfold gots; rw [if_pos h, if_neg h1, if_neg (by omega), if_pos hy, if_neg ha]
theorem gots_yes {e : Int} (h : hears r m 4 = true) (h1 : ¬ m.term > r.hard.term) (h2 : r.role = 3) (h3 : m.term = r.hard.term) (hy : m.yes = true) (ha : m.at_ ≤ r.hard.log.length) (he : r.match_[m.from_.toNat]? = some e) :
    gots r m = ({ r with match_ := r.match_.set m.from_.toNat (max e m.at_), next := r.next.set m.from_.toNat (max e m.at_ + 1), commit := commitOf { r with match_ := r.match_.set m.from_.toNat (max e m.at_), next := r.next.set m.from_.toNat (max e m.at_ + 1) } }, [], []) := by
  unfold gots; rw [if_pos h, if_neg h1, if_neg (by omega), if_pos hy, if_pos ha, gotUp1, gotUp, at0_eq he]
theorem gots_no {e : Int} (h : hears r m 4 = true) (h1 : ¬ m.term > r.hard.term) (h2 : r.role = 3) (h3 : m.term = r.hard.term) (hy : m.yes = false) (he : r.next[m.from_.toNat]? = some e) :
    gots r m = ({ r with next := r.next.set m.from_.toNat (max 1 (min (e - 1) (m.at_ + 1))) }, [], [sendOf { r with next := r.next.set m.from_.toNat (max 1 (min (e - 1) (m.at_ + 1))) } m.from_]) := by
  unfold gots; rw [if_pos h, if_neg h1, if_neg (by omega), if_neg (by rw [hy]; decide), gotNo, at0_eq he]
theorem endRecs_eq {s : Stepper} (h1 : s.r.hard.term = s.was.hard.term) (h2 : s.r.hard.vote = s.was.hard.vote) : endRecs s = s.recs := if_pos ⟨h1, h2⟩
end
theorem nextOk_set {r q : Raft} {i : Nat} {v : Int} (h : NextOk r) (h1 : q.next = r.next.set i v) (h2 : q.hard.log = r.hard.log) (hv : 1 ≤ v ∧ v ≤ r.hard.log.length + 1) : NextOk q := by
  intro x hx
  rw [h1] at hx
  rw [h2]
  rcases List.mem_or_eq_of_mem_set hx with hx | rfl
  · exact h x hx
  · exact hv
end Go.Sy

