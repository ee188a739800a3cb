/- What the functions of a node compute, part 3: entries that are sent. -/
import Derived.Test.YtocjgmdfocaamaaGreatSRecsTellRb
set_option linter.unusedVariables false
set_option linter.unusedSimpArgs false
namespace Go.Sy
def rowGo (hi : Int) : Int → List Ent → Bool
  | _, [] => true
  | lo, e :: l => inR e.term lo hi && rowGo hi e.term l
def rowB (m : Msg) : Bool := rowGo m.term (if m.at_ ≠ 0 then m.atTerm else 0) m.entries
def fitsB (l : List Ent) (m : Msg) : Bool := decide (m.at_ ≤ l.length) && (m.at_ == 0 || termAt l m.at_ == m.atTerm)
def cutGo (log : List Ent) (c : Int) : Int → List Ent → Bool
  | _, [] => false
  | b, e :: l => if b + 1 ≤ log.length then (if termAt log (b + 1) = e.term then cutGo log c (b + 1) l else decide (b < c)) else false
def cutsB (r : Raft) (m : Msg) : Bool := fitsB r.hard.log m && cutGo r.hard.log r.commit m.at_ m.entries
def sendB (r : Raft) (m : Msg) : Bool := hears r m 3 && (rowB m && !cutsB r m)
def takeE : List Ent → Int → List Ent → List Rec → List Ent × List Rec × Int
  | [], b, log, rc => (log, rc, b)
  | e :: l, b, log, rc =>
    if b + 1 ≤ log.length then
      (if termAt log (b + 1) = e.term then takeE l (b + 1) log rc
      else takeE l (b + 1) (log.take b.toNat ++ [e]) (rc ++ [cutRec b] ++ [putRec (b + 1) e]))
    else if 80 ≤ b then (log, rc, b)
    else takeE l (b + 1) (log ++ [e]) (rc ++ [putRec (b + 1) e])
theorem takeE_recs (a : List Rec) : ∀ (l : List Ent) (b : Int) (log : List Ent) (rc : List Rec), takeE l b log (a ++ rc) = ((takeE l b log rc).1, a ++ (takeE l b log rc).2.1, (takeE l b log rc).2.2)
  | [], b, log, rc => rfl
  | e :: l, b, log, rc => by
    unfold takeE
    split
    · split
      · exact takeE_recs a l _ _ _
      · have := takeE_recs a l (b + 1) (log.take b.toNat ++ [e]) (rc ++ [cutRec b] ++ [putRec (b + 1) e])
        rw [← this]
        simp [List.append_assoc]
    · split
      · rfl
      · have := takeE_recs a l (b + 1) (log ++ [e]) (rc ++ [putRec (b + 1) e])
        rw [← this]
        simp [List.append_assoc]
theorem takeE_len : ∀ (l : List Ent) (b : Int) (log : List Ent) (rc : List Rec), 0 ≤ b → b ≤ log.length → log.length ≤ 80 → (takeE l b log rc).1.length ≤ 80 ∧ (takeE l b log rc).2.1.length ≤ rc.length + 2 * l.length ∧ b ≤ (takeE l b log rc).2.2 ∧ (takeE l b log rc).2.2 ≤ (takeE l b log rc).1.length
  | [], b, log, rc, h0, h1, h2 => by simp only [takeE, List.length_nil]; omega
  | e :: l, b, log, rc, h0, h1, h2 => by
    unfold takeE
    split
    · split
      · have := takeE_len l (b + 1) log rc (by omega) (by omega) h2
        simp only [List.length_cons]
        omega
      · have := takeE_len l (b + 1) (log.take b.toNat ++ [e]) (rc ++ [cutRec b] ++ [putRec (b + 1) e]) (by omega) (by simp; omega) (by simp; omega)
        simp only [List.length_append, List.length_cons, List.length_nil] at this ⊢
        omega
    · split
      · simp only [List.length_cons]; omega
      · have := takeE_len l (b + 1) (log ++ [e]) (rc ++ [putRec (b + 1) e]) (by omega) (by simp; omega) (by simp; omega)
        simp only [List.length_append, List.length_cons, List.length_nil] at this ⊢
        omega
theorem takeE_same {e : Ent} {l : List Ent} {b : Int} {log : List Ent} {rc : List Rec} (h : b + 1 ≤ log.length) (ht : termAt log (b + 1) = e.term) : takeE (e :: l) b log rc = takeE l (b + 1) log rc := by
  conv => lhs; unfold takeE
  rw [if_pos h, if_pos ht]
theorem takeE_cut {e : Ent} {l : List Ent} {b : Int} {log : List Ent} {rc : List Rec} (h : b + 1 ≤ log.length) (ht : ¬ termAt log (b + 1) = e.term) : takeE (e :: l) b log rc = takeE l (b + 1) (log.take b.toNat ++ [e]) (rc ++ [cutRec b] ++ [putRec (b + 1) e]) := by
  conv => lhs; unfold takeE
  rw [if_pos h, if_neg ht]
theorem takeE_full {e : Ent} {l : List Ent} {b : Int} {log : List Ent} {rc : List Rec} (h : ¬ b + 1 ≤ log.length) (ht : 80 ≤ b) : takeE (e :: l) b log rc = (log, rc, b) := by
  conv => lhs; unfold takeE
  rw [if_neg h, if_pos ht]
theorem takeE_put {e : Ent} {l : List Ent} {b : Int} {log : List Ent} {rc : List Rec} (h : ¬ b + 1 ≤ log.length) (ht : ¬ 80 ≤ b) : takeE (e :: l) b log rc = takeE l (b + 1) (log ++ [e]) (rc ++ [putRec (b + 1) e]) := by
  conv => lhs; unfold takeE
  rw [if_neg h, if_neg ht]
theorem takeE_cut2 {e : Ent} {l : List Ent} {b z : Int} {log : List Ent} {rc : List Rec} (h : b + 1 ≤ log.length) (ht : ¬ termAt log (b + 1) = e.term) (hz : z = b + 1) : takeE (e :: l) b log rc = takeE l (b + 1) (log.take b.toNat ++ [e]) (rc ++ [(⟨3, 0, 0, b, zEnt⟩ : Rec)] ++ [(⟨2, 0, 0, z, e⟩ : Rec)]) := by
  rw [takeE_cut h ht, hz]; rfl
theorem takeE_put2 {e : Ent} {l : List Ent} {b z : Int} {log : List Ent} {rc : List Rec} (h : ¬ b + 1 ≤ log.length) (ht : ¬ 80 ≤ b) (hz : z = b + 1) : takeE (e :: l) b log rc = takeE l (b + 1) (log ++ [e]) (rc ++ [(⟨2, 0, 0, z, e⟩ : Rec)]) := by
  rw [takeE_put h ht, hz]; rfl
def rest (r : Raft) : Raft := { r with role := 1, yes := [], next := [], match_ := [] }
def send0 (r : Raft) (m : Msg) : Raft := if m.term > r.hard.term then folT r m.term else rest r
def sendRc (r : Raft) (m : Msg) : List Rec := if m.term > r.hard.term then [voteRec (folT r m.term)] else []
def gotMsg (r : Raft) (t at_ : Int) (yes : Bool) : Msg := ⟨4, r.id, t, at_, 0, 0, yes, 0, 0, ⟨#[]⟩, zCmd, []⟩
def sendT (r : Raft) (m : Msg) : List Ent × List Rec × Int := takeE m.entries m.at_ r.hard.log []
def sendR (r : Raft) (m : Msg) : Raft := { send0 r m with commit := max r.commit (min m.commit (sendT r m).2.2), hard := { (send0 r m).hard with log := (sendT r m).1 } }
def sends (r : Raft) (m : Msg) : Raft × List Rec × List Out :=
  if sendB r m = true then
    (if m.term < r.hard.term then (r, [], [⟨m.from_, gotMsg r r.hard.term 0 false⟩])
    else if m.term = r.hard.term ∧ r.role = 3 then (r, [], [])
    else if fitsB r.hard.log m = true then (sendR r m, sendRc r m ++ (sendT r m).2.1, [⟨m.from_, gotMsg r m.term (sendT r m).2.2 true⟩])
    else (send0 r m, sendRc r m, [⟨m.from_, gotMsg r m.term (min (r.hard.log.length : Int) (m.at_ - 1)) false⟩]))
  else (same r, [], [])
section
variable {r : Raft} {m : Msg}
theorem sendB_of (h1 : hears r m 3 = true) (h2 : rowB m = true) (h3 : cutsB r m = false) : sendB r m = true := by simp [sendB, h1, h2, h3]
theorem sendB_not (h : hears r m 3 = false ∨ rowB m = false ∨ cutsB r m = true) : sendB r m = false := by
  rcases h with h | h | h <;> simp [sendB, h]
theorem sends_no (h : sendB r m = false) (ho : raftOk r = true) : sends r m = (r, [], []) := by unfold sends; rw [if_neg (by rw [h]; decide), same, if_pos ho]
theorem sends_old (h : sendB r m = true) (h1 : m.term < r.hard.term) : sends r m = (r, [], [⟨m.from_, gotMsg r r.hard.term 0 false⟩]) := by unfold sends; rw [if_pos h, if_pos h1]
theorem sends_lead (h : sendB r m = true) (h1 : ¬ m.term < r.hard.term) (h2 : ¬ m.term > r.hard.term) (h3 : r.role = 3) : sends r m = (r, [], []) := by unfold sends; rw [if_pos h, if_neg h1, if_pos ⟨by omega, h3⟩]
theorem sends_far1 (h : sendB r m = true) (h1 : m.term > r.hard.term) (hf : fitsB r.hard.log m = false) : sends r m = (folT r m.term, [voteRec (folT r m.term)], [⟨m.from_, gotMsg r m.term (min (r.hard.log.length : Int) (m.at_ - 1)) false⟩]) := by
  unfold sends; rw [if_pos h, if_neg (by omega), if_neg (by omega), if_neg (by rw [hf]; decide), send0, if_pos h1, sendRc, if_pos h1]
theorem sends_far0 (h : sendB r m = true) (h0 : ¬ m.term < r.hard.term) (h1 : ¬ m.term > r.hard.term) (h2 : ¬ r.role = 3) (hf : fitsB r.hard.log m = false) : sends r m = (rest r, [], [⟨m.from_, gotMsg r r.hard.term (min (r.hard.log.length : Int) (m.at_ - 1)) false⟩]) := by
  unfold sends; rw [if_pos h, if_neg (by omega), if_neg (by omega), if_neg (by rw [hf]; decide), send0, if_neg h1, sendRc, if_neg h1, show m.term = r.hard.term by omega]
theorem sends_take1 (h : sendB r m = true) (h1 : m.term > r.hard.term) (hf : fitsB r.hard.log m = true) : sends r m = ({ folT r m.term with commit := max r.commit (min m.commit (sendT r m).2.2), hard := { (folT r m.term).hard with log := (sendT r m).1 } }, voteRec (folT r m.term) :: (sendT r m).2.1, [⟨m.from_, gotMsg r m.term (sendT r m).2.2 true⟩]) := by
  unfold sends; rw [if_pos h, if_neg (by omega), if_neg (by omega), if_pos hf, sendR, send0, if_pos h1, sendRc, if_pos h1]; rfl
theorem sends_take0 (h : sendB r m = true) (h0 : ¬ m.term < r.hard.term) (h1 : ¬ m.term > r.hard.term) (h2 : ¬ r.role = 3) (hf : fitsB r.hard.log m = true) : sends r m = ({ rest r with commit := max r.commit (min m.commit (sendT r m).2.2), hard := { r.hard with log := (sendT r m).1 } }, (sendT r m).2.1, [⟨m.from_, gotMsg r r.hard.term (sendT r m).2.2 true⟩]) := by
  unfold sends; rw [if_pos h, if_neg (by omega), if_neg (by omega), if_pos hf, sendR, send0, if_neg h1, sendRc, if_neg h1, show m.term = r.hard.term by omega]; rfl
theorem takeE_one (v : Rec) (l : List Ent) (b : Int) (log : List Ent) : takeE l b log [v] = ((takeE l b log []).1, v :: (takeE l b log []).2.1, (takeE l b log []).2.2) := takeE_recs [v] l b log []
theorem fitsB_at (h : fitsB r.hard.log m = true) : m.at_ ≤ r.hard.log.length := by
  simp only [fitsB, Bool.and_eq_true, decide_eq_true_eq] at h
  exact h.1
end
section
variable {r : Raft} {m : Msg}
theorem sends_spec1 {lg : List Ent} {rc : List Rec} {b : Int} {v : Rec} (h : sendB r m = true) (h1 : m.term > r.hard.term) (hf : fitsB r.hard.log m = true) (hT : takeE m.entries m.at_ r.hard.log [v] = (lg, rc, b)) (hv : v = voteRec (folT r m.term)) :
    sends r m = ({ folT r m.term with commit := max r.commit (min m.commit b), hard := { (folT r m.term).hard with log := lg } }, rc, [⟨m.from_, gotMsg r m.term b true⟩]) := by
  rw [takeE_one, Prod.mk.injEq, Prod.mk.injEq] at hT
  rw [sends_take1 h h1 hf, ← hT.1, ← hT.2.1, ← hT.2.2, hv]
  rfl
theorem sends_spec0 {lg : List Ent} {rc : List Rec} {b : Int} (h : sendB r m = true) (h0 : ¬ m.term < r.hard.term) (h1 : ¬ m.term > r.hard.term) (h2 : ¬ r.role = 3) (hf : fitsB r.hard.log m = true) (hT : takeE m.entries m.at_ r.hard.log [] = (lg, rc, b)) :
    sends r m = ({ rest r with commit := max r.commit (min m.commit b), hard := { r.hard with log := lg } }, rc, [⟨m.from_, gotMsg r r.hard.term b true⟩]) := by
  rw [sends_take0 h h0 h1 h2 hf]
  unfold sendT
  rw [hT]
theorem sendB_not2 (h : hears r m 3 = false ∨ (rowB m && !cutsB r m) = false) : sendB r m = false := by
  rcases h with h | h <;> simp only [sendB, h, Bool.false_and, Bool.and_false]
theorem sendB_of2 (h1 : hears r m 3 = true) (h2 : (rowB m && !cutsB r m) = true) : sendB r m = true := by simp only [sendB, h1, h2, Bool.and_true]
end
end Go.Sy

