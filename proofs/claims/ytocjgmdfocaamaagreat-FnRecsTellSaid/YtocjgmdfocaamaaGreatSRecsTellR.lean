/- What the functions of a node compute, in plain words. -/
import Derived.Test.YtocjgmdfocaamaaGreatSRecsTellW
set_option linter.unusedVariables false
set_option linter.unusedSimpArgs false
namespace Go.Sy
def termAt (l : List Ent) (n : Int) : Int := if n < 1 ∨ (l.length : Int) < n then 0 else ((l[(n - 1).toNat]?).map (·.term)).getD 0
def allIn (lo hi : Int) : List Int → Bool
  | [] => true
  | n :: l => inR n lo hi && allIn lo hi l
def idxI (x : Int) : Nat → List Int → Int
  | _, [] => -1
  | k, a :: l => if x = a then (k : Int) else idxI x (k + 1) l
theorem idxI_has (x : Int) : ∀ (l : List Int) (k : Nat), decide (idxI x k l ≥ 0) = hasI x l
  | [], k => by simp [idxI, hasI]
  | a :: l, k => by
    unfold idxI hasI
    split
    · rename_i h; subst h; simp
    · rename_i h
      rw [idxI_has x l (k + 1)]
      have : (a == x) = false := by simp; omega
      rw [this, Bool.false_or]
theorem asc_len : ∀ (l : List Int) (p hi : Int), asc hi p l = true → p ≤ hi → (l.length : Int) ≤ hi - p
  | [], p, hi, _, h => by simp; omega
  | n :: l, p, hi, h, hp => by
    simp only [asc, Bool.and_eq_true, inR_iff, decide_eq_true_eq] at h
    have := asc_len l n hi h.2 (by omega)
    simp only [List.length_cons]
    omega
theorem entOk_nums {e : Ent} (h : entOk e = true) : 1 ≤ e.term ∧ e.term ≤ 1000000000 ∧ cmdOk e.cmd = true := by
  simp only [entOk, Bool.and_eq_true, inR_iff] at h
  exact ⟨h.1.1, h.1.2, h.2⟩
theorem logOk_step {t p : Int} {e : Ent} {l : List Ent} (h1 : 1 ≤ e.term) (h2 : e.term ≤ t) (h3 : cmdOk e.cmd = true) (h4 : p ≤ e.term) : logOk t p (e :: l) = logOk t e.term l := by
  simp [logOk, h1, h2, h3, h4]
theorem logOk_bad1 {t p : Int} {e : Ent} {l : List Ent} (ht : t ≤ 1000000000) (h : entOk e = false) : logOk t p (e :: l) = false := by
  rw [Bool.eq_false_iff]
  intro h2
  simp only [logOk, Bool.and_eq_true, decide_eq_true_eq] at h2
  have : entOk e = true := by
    simp only [entOk, Bool.and_eq_true, inR_iff]
    exact ⟨by omega, h2.1.1.2⟩
  rw [h] at this
  cases this
theorem logOk_bad0 {t p : Int} {e : Ent} {l : List Ent} (h : cmdOk e.cmd = false) : logOk t p (e :: l) = false := by simp [logOk, h]
theorem logOk_bad2 {t p : Int} {e : Ent} {l : List Ent} (h : e.term < 1 ∨ t < e.term ∨ e.term < p) : logOk t p (e :: l) = false := by
  rw [Bool.eq_false_iff]
  intro h2
  simp only [logOk, Bool.and_eq_true, decide_eq_true_eq] at h2
  omega
theorem hardBad {h : Hard} (e : logOk h.term 0 h.log = false) : false = hardOk h := by simp [hardOk, e]
theorem lastT_before {l : List Ent} {k : Nat} {e : Ent} (hk : (k : Int) > 0) (h : l[((k : Int) - 1).toNat]? = some e) : lastT (l.take k) = e.term :=
  lastT_take (by omega) (by rw [show k - 1 = ((k : Int) - 1).toNat from by omega]; exact h)
theorem lastT_next {l : List Ent} {k : Nat} {e : Ent} (h : l[k]? = some e) : lastT (l.take (k + 1)) = e.term := lastT_take (by omega) (by simpa using h)
def zCmd : Cmd := ⟨0, 0, 0, 0, ⟨#[]⟩⟩
def zEnt : Ent := ⟨0, zCmd⟩
def zHard : Hard := ⟨0, 0, []⟩
def zMsg : Msg := ⟨0, 0, 0, 0, 0, 0, false, 0, 0, ⟨#[]⟩, zCmd, []⟩
def zRaft : Raft := ⟨0, 0, 0, 0, zHard, [], [], []⟩
def raftOk1 (r : Raft) : Bool := ofOk r.of_ && (inR r.id 0 (r.of_ - 1) && (inR r.role 1 3 && (hardOk r.hard && (inR r.commit 0 r.hard.log.length && (asc (r.of_ - 1) (-1) r.yes && !hasI r.id r.yes)))))
def raftOk2 (r : Raft) : Bool := (r.role == 2 || (r.yes.length : Int) == 0) && (r.role == 1 || (decide (1 ≤ r.hard.term) && r.hard.vote == r.id + 1))
def raftOk3 (r : Raft) : Bool := if r.role = 3 then ((r.next.length : Int) == r.of_ && allIn 1 (r.hard.log.length + 1) r.next) && ((r.match_.length : Int) == r.of_ && allIn 0 r.hard.log.length r.match_) else (r.next.length : Int) == 0 && (r.match_.length : Int) == 0
def raftOk (r : Raft) : Bool := raftOk1 r && (raftOk2 r && raftOk3 r)
theorem raftOk1_nums {r : Raft} (h : raftOk1 r = true) : (r.of_ = 1 ∨ r.of_ = 3 ∨ r.of_ = 5) ∧ (0 ≤ r.id ∧ r.id < r.of_) ∧ (1 ≤ r.role ∧ r.role ≤ 3) ∧ (0 ≤ r.commit ∧ r.commit ≤ r.hard.log.length) ∧ (0 ≤ r.hard.term ∧ r.hard.term ≤ 1000000000) ∧ (0 ≤ r.hard.vote ∧ r.hard.vote ≤ 5) ∧ r.hard.log.length ≤ 80 := by
  simp only [raftOk1, hardOk, Bool.and_eq_true, inR_iff, ofOk_iff, decide_eq_true_eq] at h
  omega
theorem raftOk1_len {r : Raft} (h : raftOk1 r = true) : (r.yes.length : Int) ≤ r.of_ := by
  have hn := raftOk1_nums h
  simp only [raftOk1, Bool.and_eq_true] at h
  have := asc_len _ _ _ h.2.2.2.2.2.1 (by omega)
  omega
def raftI2 (r : Raft) : Bool := asc (r.of_ - 1) (-1) r.yes && (!hasI r.id r.yes && ((r.yes.length : Int) == 0 || r.role == 2))
def raftI4 (r : Raft) : Bool := r.role == 1 || (decide (1 ≤ r.hard.term) && r.hard.vote == r.id + 1)
theorem raft_all (r : Raft) : raftOk r = (ofOk r.of_ && (inR r.id 0 (r.of_ - 1) && (inR r.role 1 3 && (hardOk r.hard && (inR r.commit 0 r.hard.log.length && (raftI2 r && (raftI4 r && raftOk3 r))))))) := by
  rw [Bool.eq_iff_iff]
  simp only [raftOk, raftOk1, raftOk2, raftI2, raftI4, Bool.and_eq_true, Bool.or_eq_true]
  grind
theorem raftOk_1 {r : Raft} (h : raftOk r = true) : raftOk1 r = true := by simp only [raftOk, Bool.and_eq_true] at h; exact h.1
theorem raftOk_3 {r : Raft} (h : raftOk r = true) : raftOk3 r = true := by simp only [raftOk, Bool.and_eq_true] at h; exact h.2.2
theorem allIn_iff {lo hi : Int} : ∀ {l : List Int}, allIn lo hi l = true ↔ ∀ x ∈ l, lo ≤ x ∧ x ≤ hi
  | [] => by simp [allIn]
  | n :: l => by simp [allIn, inR_iff, allIn_iff (l := l)]
theorem allIn_zero {lo hi : Int} {l : List Int} : (allIn lo hi l && ((l.length : Int) == 0)) = ((l.length : Int) == 0) := by
  cases l with
  | nil => rfl
  | cons a l =>
    have : (((a :: l).length : Int) == 0) = false := by simp; omega
    rw [this, Bool.and_false]
def NextOk (r : Raft) : Prop := ∀ x ∈ r.next, 1 ≤ x ∧ x ≤ r.hard.log.length + 1
theorem raftOk_next {r : Raft} (h : raftOk r = true) (h3 : r.role = 3) : (r.next.length : Int) = r.of_ ∧ NextOk r ∧ (r.match_.length : Int) = r.of_ := by
  have := raftOk_3 h
  simp only [raftOk3, h3, if_true, Bool.and_eq_true, beq_iff_eq, allIn_iff] at this
  exact ⟨this.1.1, this.1.2, this.2.1⟩
def same (r : Raft) : Raft := if raftOk r = true then r else zRaft
def nextOf (r : Raft) (i : Int) : Int := (r.next[i.toNat]?).getD 0
def sendOf (r : Raft) (i : Int) : Out :=
  ⟨i, ⟨3, r.id, r.hard.term, nextOf r i - 1, termAt r.hard.log (nextOf r i - 1), r.commit, false, 0, 0, ⟨#[]⟩, zCmd, (r.hard.log.drop (nextOf r i - 1).toNat).take 6⟩⟩
def sendUp (r : Raft) : Nat → List Out
  | 0 => []
  | k + 1 => sendUp r k ++ (if (k : Int) = r.id then [] else [sendOf r k])
def sendAll (r : Raft) : List Out := sendUp r r.of_.toNat
theorem termAt_end (l : List Ent) : termAt l l.length = lastT l := by
  unfold termAt lastT
  split
  · rw [show l = [] from List.length_eq_zero_iff.1 (by omega)]; rfl
  · rw [show ((l.length : Int) - 1).toNat = l.length - 1 from by omega]
def askOf (r : Raft) (i : Int) : Out := ⟨i, ⟨1, r.id, r.hard.term, r.hard.log.length, lastT r.hard.log, 0, false, 0, 0, ⟨#[]⟩, zCmd, []⟩⟩
def askUp (r : Raft) : Nat → List Out
  | 0 => []
  | k + 1 => askUp r k ++ (if (k : Int) = r.id ∨ hasI k r.yes = true then [] else [askOf r k])
def asks (r : Raft) : List Out := askUp r r.of_.toNat
def beat (r : Raft) : List Out := if raftOk r = true then (if r.role = 3 then sendAll r else if r.role = 2 then asks r else []) else []
theorem sendUp_len (r : Raft) : ∀ k, (sendUp r k).length ≤ k
  | 0 => by simp [sendUp]
  | k + 1 => by
    have := sendUp_len r k
    unfold sendUp
    split <;> simp <;> omega
theorem askUp_len (r : Raft) : ∀ k, (askUp r k).length ≤ k
  | 0 => by simp [askUp]
  | k + 1 => by
    have := askUp_len r k
    unfold askUp
    split <;> simp <;> omega
def voteRec (r : Raft) : Rec := ⟨1, r.hard.term, r.hard.vote, 0, zEnt⟩
def putRec (n : Int) (e : Ent) : Rec := ⟨2, 0, 0, n, e⟩
def cutRec (n : Int) : Rec := ⟨3, 0, 0, n, zEnt⟩
def put (r : Raft) (e : Ent) : Raft := { r with hard := { r.hard with log := r.hard.log ++ [e] } }
def had (r : Raft) : Raft := { r with match_ := r.match_.set r.id.toNat r.hard.log.length, commit := if r.of_ = 1 then (r.hard.log.length : Int) else r.commit }
def lead0 (r : Raft) : Raft := { r with role := 3, yes := [], next := List.replicate r.of_.toNat ((r.hard.log.length : Int) + 1), match_ := List.replicate r.of_.toNat 0 }
def noneE (t : Int) : Ent := ⟨t, ⟨1, 0, 0, 0, ⟨#[]⟩⟩⟩
def leadR (r : Raft) : Raft := if r.hard.log.length < 80 then had (put (lead0 r) (noneE r.hard.term)) else had (lead0 r)
def leadRecs (r : Raft) : List Rec := if r.hard.log.length < 80 then [putRec ((r.hard.log.length : Int) + 1) (noneE r.hard.term)] else []
theorem nextOk_rep {q : Raft} {k : Nat} {a : Int} (h : q.next = List.replicate k a) (hl : 1 ≤ a ∧ a ≤ q.hard.log.length + 1) : NextOk q := by
  intro x hx
  rw [h] at hx
  have := List.eq_of_mem_replicate hx
  omega
theorem nextOk_repl {q : Raft} {k : Int} {a : Int} (h : q.next = repl [a] k) (hl : 1 ≤ a ∧ a ≤ q.hard.log.length + 1) : NextOk q := nextOk_rep h hl
def standR (r : Raft) : Raft := { r with hard := { r.hard with term := r.hard.term + 1, vote := r.id + 1 }, role := 2, yes := [] }
def stands (r : Raft) : Raft × List Rec × List Out :=
  if raftOk r = true ∧ r.role ≠ 3 ∧ r.hard.term ≠ 1000000000 then
    (if r.of_ = 1 then (leadR (standR r), voteRec (standR r) :: leadRecs (standR r), sendAll (leadR (standR r))) else (standR r, [voteRec (standR r)], asks (standR r)))
  else (same r, [], [])
def endRecs (s : Stepper) : List Rec := if s.r.hard.term = s.was.hard.term ∧ s.r.hard.vote = s.was.hard.vote then s.recs else voteRec s.r :: s.recs
theorem leadR_term (r : Raft) : (leadR r).hard.term = r.hard.term := by unfold leadR; split <;> rfl
theorem leadR_vote (r : Raft) : (leadR r).hard.vote = r.hard.vote := by unfold leadR; split <;> rfl
theorem endRecs_ne {s : Stepper} (h : s.r.hard.term ≠ s.was.hard.term) : endRecs s = voteRec s.r :: s.recs := if_neg fun q => h q.1
def propOk (r : Raft) (c : Cmd) : Bool := raftOk r && (r.role == 3 && (cmdOk c && !((r.hard.log.length : Int) == 80)))
def propE (r : Raft) (c : Cmd) : Ent := ⟨r.hard.term, c⟩
def propR (r : Raft) (c : Cmd) : Raft := if propOk r c = true then had (put r (propE r c)) else same r
def propRecs (r : Raft) (c : Cmd) : List Rec := if propOk r c = true then [putRec (put r (propE r c)).hard.log.length (propE r c)] else []
def propOuts (r : Raft) (c : Cmd) : List Out := if propOk r c = true then sendAll (had (put r (propE r c))) else []
theorem had_next {r : Raft} {e : Ent} (h : NextOk r) : NextOk (had (put r e)) := by
  intro x hx
  have := h x hx
  have e2 : (had (put r e)).hard.log.length = r.hard.log.length + 1 := by simp [had, put]
  rw [e2]
  omega
def listEq {α : Type} (f : α → α → Bool) : List α → List α → Bool
  | [], [] => true
  | a :: l, b :: k => f a b && listEq f l k
  | _, _ => false
theorem listEq_len {α : Type} {f : α → α → Bool} : ∀ {l k : List α}, l.length ≠ k.length → listEq f l k = false
  | [], [], h => (h rfl).elim
  | a :: l, b :: k, h => by simp only [List.length_cons, ne_eq, Nat.add_right_cancel_iff] at h; simp [listEq, listEq_len h]
  | [], _ :: _, _ => rfl
  | _ :: _, [], _ => rfl
def msgEq (a b : Msg) : Bool := a.kind == b.kind && (a.from_ == b.from_ && (a.term == b.term && (a.at_ == b.at_ && (a.atTerm == b.atTerm && (a.commit == b.commit && (a.yes == b.yes && (a.release == b.release && (a.part == b.part && (a.bytes.toList == b.bytes.toList && (cmdEq a.cmd b.cmd && listEq entEq a.entries b.entries))))))))))
theorem entEq_refl (a : Ent) : entEq a a = true := by simp [entEq, cmdEq]
def SmallR (r : Raft) : Prop := r.hard.log.length ≤ 1048576 ∧ r.yes.length ≤ 1048576 ∧ r.next.length ≤ 1048576 ∧ r.match_.length ≤ 1048576
def hasU (b : Int) : List UInt8 → Bool
  | [] => false
  | c :: l => (c.toNat : Int) == b || hasU b l
def l8L : List ByteArray := [⟨#[]⟩, ⟨#[102, 116, 97, 115]⟩, ⟨#[102, 116, 121]⟩, ⟨#[102, 116, 97, 115, 99, 101]⟩, ⟨#[102, 116, 121, 97]⟩, ⟨#[102, 114, 112]⟩, ⟨#[102, 114, 112, 98]⟩, ⟨#[102, 100]⟩]
def l8F (k : Int) : ByteArray := if inR k 1 7 = true then (l8L[k.toNat]?).getD ⟨#[]⟩ else ⟨#[]⟩
def num8 (h : Bool) (x lo hi : Int) : Bool := if h = true then inR x lo hi else x == 0
def hasF (m : Msg) (b : Int) : Bool := hasU b (l8F m.kind).data.toList
def entsOk : List Ent → Bool
  | [] => true
  | e :: l => entOk e && entsOk l
def fits1 (m : Msg) : Bool := !((l8F m.kind).toList == []) && (num8 (hasF m 102) m.from_ 0 4 && (num8 (hasF m 116) m.term 0 1000000000 && (num8 (hasF m 97) m.at_ 0 80 && (num8 (hasF m 115) m.atTerm 0 1000000000 && num8 (hasF m 99) m.commit 0 80))))
def fits2 (m : Msg) : Bool := num8 (hasF m 114) m.release 1 1000 && (num8 (hasF m 112) m.part 0 1000 && ((!m.yes || hasF m 121) && (num8 (hasF m 98) m.bytes.size 1 16 && num8 (hasF m 101 || (m.entries.length : Int) == 0) m.entries.length 0 6)))
def fits3 (m : Msg) : Bool := if hasF m 100 = true then cmdOk m.cmd else cmdEq m.cmd zCmd
def msgFits (m : Msg) : Bool := fits1 m && (fits2 m && (fits3 m && entsOk m.entries))
def fieldsL (k : Int) : ByteArray :=
  if k = 1 then ⟨#[102, 116, 97, 120]⟩ else if k = 2 then ⟨#[102, 116, 121]⟩ else if k = 3 then ⟨#[102, 116, 97, 120, 99, 101]⟩ else if k = 4 then ⟨#[102, 116, 121, 97]⟩
  else if k = 5 then ⟨#[102, 114, 112]⟩ else if k = 6 then ⟨#[102, 114, 112, 98]⟩ else if k = 7 then ⟨#[102, 100]⟩ else ⟨#[]⟩
def entsFit (l : List Ent) : Bool := entsOk l && decide ((l.length : Int) ≤ 6)
def takeOk (m : Msg) (f : Int) : Bool :=
  if f = 102 then inR m.from_ 0 4 else if f = 116 then inR m.term 0 1000000000 else if f = 97 then inR m.at_ 0 80 else if f = 120 then inR m.atTerm 0 1000000000
  else if f = 99 then inR m.commit 0 80 else if f = 121 then true else if f = 114 then inR m.release 1 1000 else if f = 112 then inR m.part 0 1000
  else if f = 98 then inR m.bytes.size 1 16 else if f = 100 then cmdOk m.cmd else entsFit m.entries
def takeM (m : Msg) (f : Int) : Msg :=
  if f = 102 then { m with from_ := 0 } else if f = 116 then { m with term := 0 } else if f = 97 then { m with at_ := 0 } else if f = 120 then { m with atTerm := 0 }
  else if f = 99 then { m with commit := 0 } else if f = 121 then { m with yes := false } else if f = 114 then { m with release := 0 } else if f = 112 then { m with part := 0 }
  else if f = 98 then { m with bytes := ⟨#[]⟩ } else if f = 100 then { m with cmd := zCmd } else { m with entries := [] }
theorem l8F_small (k : Int) : (l8F k).size ≤ 1048576 := by
  unfold l8F
  split
  · rename_i h
    have h := inR_iff.1 h
    have : k.toNat = 1 ∨ k.toNat = 2 ∨ k.toNat = 3 ∨ k.toNat = 4 ∨ k.toNat = 5 ∨ k.toNat = 6 ∨ k.toNat = 7 := by omega
    rcases this with h | h | h | h | h | h | h <;> rw [h] <;> decide
  · decide
theorem takeM_small {m : Msg} {n : Nat} (h : m.entries.length ≤ n) (f : Int) : (takeM m f).entries.length ≤ n := by
  unfold takeM
  (repeat' split) <;> first | exact h | simp
def hears (r : Raft) (m : Msg) (kind : Int) : Bool := raftOk r && (msgFits m && (m.kind == kind && (decide (m.from_ < r.of_) && !(m.from_ == r.id))))
theorem msgFits_from {m : Msg} (h : msgFits m = true) : 0 ≤ m.from_ ∧ m.from_ ≤ 4 := by
  simp only [msgFits, fits1, Bool.and_eq_true] at h
  have h1 := h.1.2.1
  unfold num8 at h1
  split at h1
  · exact inR_iff.1 h1
  · simp at h1; omega
theorem hears_ok {r : Raft} {m : Msg} {k : Int} (h : hears r m k = true) : raftOk r = true ∧ msgFits m = true ∧ m.kind = k ∧ m.from_ < r.of_ ∧ ¬ m.from_ = r.id ∧ 0 ≤ m.from_ ∧ m.from_ ≤ 4 := by
  simp only [hears, Bool.and_eq_true, beq_iff_eq, decide_eq_true_eq, Bool.not_eq_true', beq_eq_false_iff_ne] at h
  exact ⟨h.1, h.2.1, h.2.2.1, h.2.2.2.1, h.2.2.2.2, msgFits_from h.2.1⟩
theorem hears_no {r : Raft} {m : Msg} {k : Int} (h : ¬ raftOk r = true) : hears r m k = false := by
  rw [hears, Bool.eq_false_iff.2 h, Bool.false_and]
def folT (r : Raft) (t : Int) : Raft := { r with role := 1, yes := [], next := [], match_ := [], hard := { r.hard with term := t, vote := 0 } }
def freshB (l : List Ent) (m : Msg) : Bool := decide (m.atTerm > lastT l) || (m.atTerm == lastT l && decide (m.at_ ≥ l.length))
def yesB (t v : Int) (l : List Ent) (m : Msg) : Bool := m.term == t && ((v == 0 || v == m.from_ + 1) && freshB l m)
def ask0 (r : Raft) (m : Msg) : Raft := if m.term > r.hard.term then folT r m.term else r
def askYes (r : Raft) (m : Msg) : Bool := yesB (ask0 r m).hard.term (ask0 r m).hard.vote r.hard.log m
def ask1 (r : Raft) (m : Msg) : Raft := if askYes r m = true then { ask0 r m with hard := { (ask0 r m).hard with vote := m.from_ + 1 } } else ask0 r m
def chgB (t v : Int) (r : Raft) : Bool := !(t == r.hard.term) || !(v == r.hard.vote)
def askR (r : Raft) (m : Msg) : Raft := if hears r m 1 = true then ask1 r m else same r
def askRecs (r : Raft) (m : Msg) : List Rec := if hears r m 1 = true then (if chgB (ask1 r m).hard.term (ask1 r m).hard.vote r = true then [voteRec (ask1 r m)] else []) else []
def askOuts (r : Raft) (m : Msg) : List Out := if hears r m 1 = true then [⟨m.from_, ⟨2, r.id, (ask0 r m).hard.term, 0, 0, 0, askYes r m, 0, 0, ⟨#[]⟩, zCmd, []⟩⟩] else []
def runTake (k : Int) : List UInt8 → Msg → Bool
  | [], m => msgEq m { zMsg with kind := k }
  | f :: l, m => takeOk m f.toNat && runTake k l (takeM m f.toNat)
theorem takeMin {α : Type} (l : List α) (a n b : Nat) (h : b = min (a + n) l.length) : (l.drop a).take (b - a) = (l.drop a).take n := by
  rw [List.take_eq_take_iff, List.length_drop]
  omega
end Go.Sy

