/- Typed data and how they stand in values. -/
import Derived.Test.YtocjgmdfocaamaaGreatSRecsTellO
set_option linter.unusedVariables false
set_option linter.unusedSimpArgs false
namespace Go.Sy
structure Cmd where
  kind : Int
  release : Int
  node : Int
  size : Int
  digest : ByteArray
structure Ent where
  term : Int
  cmd : Cmd
structure Rec where
  kind : Int
  term : Int
  vote : Int
  at_ : Int
  entry : Ent
structure Hard where
  term : Int
  vote : Int
  log : List Ent
structure Msg where
  kind : Int
  from_ : Int
  term : Int
  at_ : Int
  atTerm : Int
  commit : Int
  yes : Bool
  release : Int
  part : Int
  bytes : ByteArray
  cmd : Cmd
  entries : List Ent
structure Raft where
  id : Int
  of_ : Int
  role : Int
  commit : Int
  hard : Hard
  yes : List Int
  next : List Int
  match_ : List Int
structure Out where
  to : Int
  msg : Msg
structure Stepper where
  r : Raft
  was : Raft
  recs : List Rec
  outs : List Out
def encI (n : Int) : V := .int .i64 n
def encS (s : ByteArray) : V := .str s
def encEnt (e : Ent) : V := .agg [.int .i64 e.term, .int .i64 e.cmd.kind, .int .i64 e.cmd.release, .int .i64 e.cmd.node, .int .i64 e.cmd.size, .str e.cmd.digest]
def encRec (e : Rec) : V := .agg [.int .i64 e.kind, .int .i64 e.term, .int .i64 e.vote, .int .i64 e.at_, .int .i64 e.entry.term, .int .i64 e.entry.cmd.kind, .int .i64 e.entry.cmd.release, .int .i64 e.entry.cmd.node, .int .i64 e.entry.cmd.size, .str e.entry.cmd.digest]
def encOutWith (s : V) (o : Out) : V := .agg [.int .i64 o.to, .int .i64 o.msg.kind, .int .i64 o.msg.from_, .int .i64 o.msg.term, .int .i64 o.msg.at_, .int .i64 o.msg.atTerm, .int .i64 o.msg.commit, .bool o.msg.yes, .int .i64 o.msg.release, .int .i64 o.msg.part, .str o.msg.bytes, .int .i64 o.msg.cmd.kind, .int .i64 o.msg.cmd.release, .int .i64 o.msg.cmd.node, .int .i64 o.msg.cmd.size, .str o.msg.cmd.digest, s]
def encOutV (o : Out) : V := encOutWith (.sl false 6 (o.msg.entries.map encEnt)) o
theorem mapGet {α : Type} {f : α → V} {l : List α} {k : Nat} {e : α} (h : l[k]? = some e) : (l.map f)[k]? = some (f e) := by
  rw [List.getElem?_map, h]; rfl
theorem sayLen {α : Type} (f : α → V) (l : List α) : V.int .i64 (((l.map f).length : Nat) : Int) = V.int .i64 (l.length : Int) := by rw [List.length_map]
theorem sayNat {n : Int} (h : 0 ≤ n) : V.int .i64 n = V.int .i64 ((n.toNat : Nat) : Int) := by
  congr 1
  omega
theorem allP_map {α : Type} {f : α → V} (h : ∀ x, (cl (f x)).all gV = true) (l : List α) : AllP (l.map f) := by
  intro x hx
  obtain ⟨y, _, rfl⟩ := List.mem_map.1 hx
  exact h y
theorem allP_encI (l : List Int) : AllP (l.map encI) := allP_map (fun _ => rfl) l
theorem allP_encEnt (l : List Ent) : AllP (l.map encEnt) := allP_map (fun _ => rfl) l
theorem allP_encRec (l : List Rec) : AllP (l.map encRec) := allP_map (fun _ => rfl) l
theorem flatEnt {l : List Ent} {x : V} (hx : x ∈ l.map encEnt) : (cl x).all gS = true := by
  obtain ⟨y, _, rfl⟩ := List.mem_map.1 hx
  rfl
theorem dropCons {α : Type} {l : List α} {k : Nat} {e : α} (h : l[k]? = some e) : l.drop k = e :: l.drop (k + 1) := by
  obtain ⟨hk, rfl⟩ := List.getElem?_eq_some_iff.1 h
  exact List.drop_eq_getElem_cons hk
def cmdEq (a b : Cmd) : Bool := (a.kind == b.kind) && ((a.release == b.release) && ((a.node == b.node) && ((a.size == b.size) && ((a.digest.toList == b.digest.toList) && true))))
def entEq (a b : Ent) : Bool := (a.term == b.term) && (cmdEq a.cmd b.cmd && true)
theorem frzOf {α : Type} {f g : α → V} (l : List α) (h : ∀ o, (cl (f o)).length = (cl (g o)).length ∧ ∀ (j : Nat) (a b : V), (cl (f o))[j]? = some a → (cl (g o))[j]? = some b → frzC a b) : FrzIs (l.map f) (l.map g) := by
  refine ⟨by simp, fun k x y hx hy => ?_⟩
  rw [List.getElem?_map] at hx hy
  obtain ⟨o, ho, rfl⟩ := Option.map_eq_some_iff.1 hx
  rw [ho] at hy
  obtain rfl := Option.some.inj hy
  exact h o
theorem frz17 (o : Out) {e : Nat} : ∀ (j : Nat) (a b : V), (cl (encOutWith (.own e 6 (o.msg.entries.map encEnt)) o))[j]? = some a → (cl (encOutV o))[j]? = some b → frzC a b := by
  intro j a b ha hb
  unfold encOutV at hb
  unfold encOutWith cl at ha hb
  simp only at ha hb
  iterate 16
    cases j with
    | zero =>
      simp only [List.getElem?_cons_zero, Option.some.injEq] at ha hb
      subst ha
      subst hb
      exact ⟨rfl, rfl⟩
    | succ j => ?_
    simp only [List.getElem?_cons_succ] at ha hb
  cases j with
  | zero =>
    simp only [List.getElem?_cons_zero, Option.some.injEq] at ha hb
    subst ha
    subst hb
    rfl
  | succ j => simp at ha
end Go.Sy

