/- More short forms: cells of nodes and messages, steps whose tests the kernel makes by itself, lengths. -/
import Derived.Test.YtocjgmdfocaamaaGreatSRecsTellRk
set_option linter.unusedVariables false
set_option linter.unusedSimpArgs false
namespace Go.Sy
abbrev nI (n : Int) : V := .int .i64 n
abbrev eB : ByteArray := ⟨#[]⟩
abbrev rC (r : Raft) (a b c d : V) : List V := [.int .i64 r.id, .int .i64 r.of_, .int .i64 r.role, .int .i64 r.commit, .int .i64 r.hard.term, .int .i64 r.hard.vote, a, b, c, d]
abbrev rV (r : Raft) : List V := rC r (.sl false 6 (r.hard.log.map encEnt)) (.sl false 1 (r.yes.map encI)) (.sl false 1 (r.next.map encI)) (.sl false 1 (r.match_.map encI))
abbrev mC (m : Msg) (a : V) : List V := [.int .i64 m.kind, .int .i64 m.from_, .int .i64 m.term, .int .i64 m.at_, .int .i64 m.atTerm, .int .i64 m.commit, .bool m.yes, .int .i64 m.release, .int .i64 m.part, .str m.bytes, .int .i64 m.cmd.kind, .int .i64 m.cmd.release, .int .i64 m.cmd.node, .int .i64 m.cmd.size, .str m.cmd.digest, a]
theorem exE {α : Type} {Q A : α → Prop} {C : Prop} (h : ∃ r, Q r ∧ A r) (k : ∀ r, Q r → A r → C) : C := h.elim fun r q => k r q.1 q.2
theorem lens {α : Type} : (∀ l m : List α, (l ++ m).length = l.length + m.length) ∧ (∀ (n : Nat) (l : List α), (l.take n).length = min n l.length) ∧ (∀ (n : Nat) (l : List α), (l.drop n).length = l.length - n) ∧ (∀ (n : Nat) (x : α), (List.replicate n x).length = n) ∧ (∀ (l : List α) (n : Nat) (x : α), (l.set n x).length = l.length) ∧ (∀ (x : α) (l : List α), (x :: l).length = l.length + 1) ∧ ([] : List α).length = 0 :=
  ⟨fun _ _ => List.length_append, fun _ _ => List.length_take, fun _ _ => List.length_drop, fun _ _ => List.length_replicate, fun _ _ _ => List.length_set, fun _ _ => List.length_cons, List.length_nil⟩
section
variable {P : Program} {N : Cx}
theorem Sub.ct {σ s : Sg} (L : List (Nat × Nat)) (mask : List Bool) (d : Nat) (b : Bool) (hL : (okL L && fixes N.m L) = true := by kernel_rfl) (ht : keepT s (hOf L) 0 mask = keepT σ (hOf L) 0 mask := by kernel_rfl) (ho : keepO s (hOf L) L = keepO σ (hOf L) L := by kernel_rfl) (hd : s.tm d = .bool b := by kernel_rfl) : Sub N s (cutS σ L mask d b) := Sub.cut L mask d b hL ht ho hd
theorem AW.cT {c : Operand} {x y : Code} {σ : Sg} {K : Exit → Sg → Prop} (b : Bool) (hb : b = true) (h : AW P N x σ K) (hc : σ.ev c = .bool b := by kernel_rfl) : AW P N (.cond c x y) σ K := AW.condT b hc hb h
theorem AW.cF {c : Operand} {x y : Code} {σ : Sg} {K : Exit → Sg → Prop} (b : Bool) (hb : b = false) (h : AW P N y σ K) (hc : σ.ev c = .bool b := by kernel_rfl) : AW P N (.cond c x y) σ K := AW.condF b hc hb h
theorem AW.dT {c : Operand} {x y : Code} {σ : Sg} {K : Exit → Sg → Prop} {p : Prop} [Decidable p] (hb : p) (h : AW P N x σ K) (hc : σ.ev c = .bool (decide p) := by kernel_rfl) : AW P N (.cond c x y) σ K := AW.condT _ hc (decide_eq_true hb) h
theorem AW.dF {c : Operand} {x y : Code} {σ : Sg} {K : Exit → Sg → Prop} {p : Prop} [Decidable p] (hb : ¬ p) (h : AW P N y σ K) (hc : σ.ev c = .bool (decide p) := by kernel_rfl) : AW P N (.cond c x y) σ K := AW.condF _ hc (decide_eq_false hb) h
variable {ops : Array Oper} {K : List Tr → Sg → Prop} {k : Nat} {σ : Sg}
theorem At.l0 (t d e es bytes j : Nat) (r : At P N ops (k + 1) (σ.puts ([.o j (.arr e es [])] ++ [.t d (.ref j)])) (fun t s => K (⟨(gpOf ops σ (opAt ops k)).getD [] ++ [.o j .free], [.o j (.arr e es [])] ++ [.t d (.ref j)]⟩ :: t) s)) (hg : goes ops σ k = true := by kernel_rfl) (ho : opd (opAt ops k) = (.buildSlice t 0 #[], some d) := by kernel_rfl) (ht : (slE P t N.n d, elInfo P e) = (some (e, es), some (es, bytes)) := by kernel_rfl) (hj : σ.ob j = .free := by kernel_rfl) : At P N ops k σ K :=
  At.lit0 j hg ho ht hj r
theorem At.bt (t u d : Nat) (op : BinOp) (x y : Operand) (kd : IntKind) (a b : Int) (r' : Int) (hr : bitI op kd a b = some r') (r : At P N ops (k + 1) (σ.puts [.t d (.int kd r')]) (fun t s => K (⟨(gpOf ops σ (opAt ops k)).getD [] ++ (opw x (.int kd a) ++ opw y (.int kd b)), [.t d (.int kd r')]⟩ :: t) s)) (hg : goes ops σ k = true := by kernel_rfl) (ho : opd (opAt ops k) = (.binOp op t x y u, some d) := by kernel_rfl) (hn : Nat.blt d N.n = true := by kernel_rfl) (hv : [σ.ev x, σ.ev y] = [.int kd a, .int kd b] := by kernel_rfl) : At P N ops k σ K :=
  At.bits r' hg ho hn hv hr r
end
section
variable {P : Program} {N : Cx} {σ : Sg}
def bs : Nat → Nat → List Bool
  | 0, _ => []
  | k + 1, n => (n % 2 == 1) :: bs k (n / 2)
def dg (l : List Nat) : List (Nat × Nat) := l.map fun i => (i, i)
def fr (a b n : Nat) : List (Nat × Nat) := (List.range n).map fun i => (a + i, b + i)
end
theorem bpos {p q r n : Int} (h : 0 ≤ p ∧ p ≤ q ∧ 0 ≤ r ∧ (0 < n → r < n) ∧ (n ≤ 0 → r = 0)) (hn : 0 < n) : 0 ≤ p ∧ p ≤ q ∧ 0 ≤ r ∧ r < n := ⟨h.1, h.2.1, h.2.2.1, h.2.2.2.1 hn⟩
end Go.Sy

