/- What the functions of a node compute, in plain words. -/
import Derived.Test.YthjmbojkpkbedaaSMsgW
set_option linter.unusedVariables false
set_option linter.unusedSimpArgs false
namespace Go.Sy
def termAt (l : List Ent) (n : Int) : Int := if n < 1 ∨ (l.length : Int) < n then 0 else ((l[(n - 1).toNat]?).map (·.term)).getD 0
def allIn (lo hi : Int) : List Int → Bool
  | [] => true
  | n :: l => inR n lo hi && allIn lo hi l
theorem entOk_nums {e : Ent} (h : entOk e = true) : 1 ≤ e.term ∧ e.term ≤ 1000000000 ∧ cmdOk e.cmd = true := by
  simp only [entOk, Bool.and_eq_true, inR_iff] at h
  exact ⟨h.1.1, h.1.2, h.2⟩
def zCmd : Cmd := ⟨0, 0, 0, 0, ⟨#[]⟩⟩
def zHard : Hard := ⟨0, 0, []⟩
def zMsg : Msg := ⟨0, 0, 0, 0, 0, 0, false, 0, 0, ⟨#[]⟩, zCmd, []⟩
def zRaft : Raft := ⟨0, 0, 0, 0, zHard, [], [], []⟩
def raftOk1 (r : Raft) : Bool := ofOk r.of_ && (inR r.id 0 (r.of_ - 1) && (inR r.role 1 3 && (hardOk r.hard && (inR r.commit 0 r.hard.log.length && (asc (r.of_ - 1) (-1) r.yes && !hasI r.id r.yes)))))
def raftOk2 (r : Raft) : Bool := (r.role == 2 || (r.yes.length : Int) == 0) && (r.role == 1 || (decide (1 ≤ r.hard.term) && r.hard.vote == r.id + 1))
def raftOk3 (r : Raft) : Bool := if r.role = 3 then ((r.next.length : Int) == r.of_ && allIn 1 (r.hard.log.length + 1) r.next) && ((r.match_.length : Int) == r.of_ && allIn 0 r.hard.log.length r.match_) else (r.next.length : Int) == 0 && (r.match_.length : Int) == 0
def raftOk (r : Raft) : Bool := raftOk1 r && (raftOk2 r && raftOk3 r)
def same (r : Raft) : Raft := if raftOk r = true then r else zRaft
def put (r : Raft) (e : Ent) : Raft := { r with hard := { r.hard with log := r.hard.log ++ [e] } }
def listEq {α : Type} (f : α → α → Bool) : List α → List α → Bool
  | [], [] => true
  | a :: l, b :: k => f a b && listEq f l k
  | _, _ => false
theorem listEq_refl {α : Type} {f : α → α → Bool} (h : ∀ a, f a a = true) : ∀ l : List α, listEq f l l = true
  | [] => rfl
  | a :: l => by simp [listEq, h, listEq_refl h l]
theorem listEq_len {α : Type} {f : α → α → Bool} : ∀ {l k : List α}, l.length ≠ k.length → listEq f l k = false
  | [], [], h => (h rfl).elim
  | a :: l, b :: k, h => by simp only [List.length_cons, ne_eq, Nat.add_right_cancel_iff] at h; simp [listEq, listEq_len h]
  | [], _ :: _, _ => rfl
  | _ :: _, [], _ => rfl
def msgEq (a b : Msg) : Bool := a.kind == b.kind && (a.from_ == b.from_ && (a.term == b.term && (a.at_ == b.at_ && (a.atTerm == b.atTerm && (a.commit == b.commit && (a.yes == b.yes && (a.release == b.release && (a.part == b.part && (a.bytes.toList == b.bytes.toList && (cmdEq a.cmd b.cmd && listEq entEq a.entries b.entries))))))))))
theorem entEq_refl (a : Ent) : entEq a a = true := by simp [entEq, cmdEq]
theorem msgEq_refl (a : Msg) : msgEq a a = true := by simp [msgEq, cmdEq, listEq_refl entEq_refl]
def hasU (b : Int) : List UInt8 → Bool
  | [] => false
  | c :: l => (c.toNat : Int) == b || hasU b l
def l8L : List ByteArray := [⟨#[]⟩, ⟨#[102, 116, 97, 115]⟩, ⟨#[102, 116, 121]⟩, ⟨#[102, 116, 97, 115, 99, 101]⟩, ⟨#[102, 116, 121, 97]⟩, ⟨#[102, 114, 112]⟩, ⟨#[102, 114, 112, 98]⟩, ⟨#[102, 100]⟩]
def l8F (k : Int) : ByteArray := if inR k 1 7 = true then (l8L[k.toNat]?).getD ⟨#[]⟩ else ⟨#[]⟩
def num8 (h : Bool) (x lo hi : Int) : Bool := if h = true then inR x lo hi else x == 0
def hasF (m : Msg) (b : Int) : Bool := hasU b (l8F m.kind).data.toList
def entsOk : List Ent → Bool
  | [] => true
  | e :: l => entOk e && entsOk l
def fits1 (m : Msg) : Bool := !((l8F m.kind).toList == []) && (num8 (hasF m 102) m.from_ 0 4 && (num8 (hasF m 116) m.term 0 1000000000 && (num8 (hasF m 97) m.at_ 0 80 && (num8 (hasF m 115) m.atTerm 0 1000000000 && num8 (hasF m 99) m.commit 0 80))))
def fits2 (m : Msg) : Bool := num8 (hasF m 114) m.release 1 1000 && (num8 (hasF m 112) m.part 0 1000 && ((!m.yes || hasF m 121) && (num8 (hasF m 98) m.bytes.size 1 16 && num8 (hasF m 101 || (m.entries.length : Int) == 0) m.entries.length 0 6)))
def fits3 (m : Msg) : Bool := if hasF m 100 = true then cmdOk m.cmd else cmdEq m.cmd zCmd
def msgFits (m : Msg) : Bool := fits1 m && (fits2 m && (fits3 m && entsOk m.entries))
def fieldsL (k : Int) : ByteArray :=
  if k = 1 then ⟨#[102, 116, 97, 120]⟩ else if k = 2 then ⟨#[102, 116, 121]⟩ else if k = 3 then ⟨#[102, 116, 97, 120, 99, 101]⟩ else if k = 4 then ⟨#[102, 116, 121, 97]⟩
  else if k = 5 then ⟨#[102, 114, 112]⟩ else if k = 6 then ⟨#[102, 114, 112, 98]⟩ else if k = 7 then ⟨#[102, 100]⟩ else ⟨#[]⟩
def entsFit (l : List Ent) : Bool := entsOk l && decide ((l.length : Int) ≤ 6)
def takeOk (m : Msg) (f : Int) : Bool :=
  if f = 102 then inR m.from_ 0 4 else if f = 116 then inR m.term 0 1000000000 else if f = 97 then inR m.at_ 0 80 else if f = 120 then inR m.atTerm 0 1000000000
  else if f = 99 then inR m.commit 0 80 else if f = 121 then true else if f = 114 then inR m.release 1 1000 else if f = 112 then inR m.part 0 1000
  else if f = 98 then inR m.bytes.size 1 16 else if f = 100 then cmdOk m.cmd else entsFit m.entries
def takeM (m : Msg) (f : Int) : Msg :=
  if f = 102 then { m with from_ := 0 } else if f = 116 then { m with term := 0 } else if f = 97 then { m with at_ := 0 } else if f = 120 then { m with atTerm := 0 }
  else if f = 99 then { m with commit := 0 } else if f = 121 then { m with yes := false } else if f = 114 then { m with release := 0 } else if f = 112 then { m with part := 0 }
  else if f = 98 then { m with bytes := ⟨#[]⟩ } else if f = 100 then { m with cmd := zCmd } else { m with entries := [] }
theorem l8F_small (k : Int) : (l8F k).size ≤ 1048576 := by
  unfold l8F
  split
  · rename_i h
    have h := inR_iff.1 h
    have : k.toNat = 1 ∨ k.toNat = 2 ∨ k.toNat = 3 ∨ k.toNat = 4 ∨ k.toNat = 5 ∨ k.toNat = 6 ∨ k.toNat = 7 := by omega
    rcases this with h | h | h | h | h | h | h <;> rw [h] <;> decide
  · decide
theorem takeM_small {m : Msg} {n : Nat} (h : m.entries.length ≤ n) (f : Int) : (takeM m f).entries.length ≤ n := by
  unfold takeM
  (repeat' split) <;> first | exact h | simp
def runTake (k : Int) : List UInt8 → Msg → Bool
  | [], m => msgEq m { zMsg with kind := k }
  | f :: l, m => takeOk m f.toNat && runTake k l (takeM m f.toNat)
end Go.Sy

