/- Typed data and how they stand in values. -/
import Derived.Test.YtdpcdcogbmkffaaSParcelO
set_option linter.unusedVariables false
set_option linter.unusedSimpArgs false
namespace Go.Sy
structure Cmd where
  kind : Int
  release : Int
  node : Int
  size : Int
  digest : ByteArray
structure Ent where
  term : Int
  cmd : Cmd
structure Rec where
  kind : Int
  term : Int
  vote : Int
  at_ : Int
  entry : Ent
structure Hard where
  term : Int
  vote : Int
  log : List Ent
structure Msg where
  kind : Int
  from_ : Int
  term : Int
  at_ : Int
  atTerm : Int
  commit : Int
  yes : Bool
  release : Int
  part : Int
  bytes : ByteArray
  cmd : Cmd
  entries : List Ent
structure Raft where
  id : Int
  of_ : Int
  role : Int
  commit : Int
  hard : Hard
  yes : List Int
  next : List Int
  match_ : List Int
structure Out where
  to : Int
  msg : Msg
structure Stepper where
  r : Raft
  was : Raft
  recs : List Rec
  outs : List Out
def encI (n : Int) : V := .int .i64 n
def encS (s : ByteArray) : V := .str s
theorem mapGet {α : Type} {f : α → V} {l : List α} {k : Nat} {e : α} (h : l[k]? = some e) : (l.map f)[k]? = some (f e) := by
  rw [List.getElem?_map, h]; rfl
theorem sayLen {α : Type} (f : α → V) (l : List α) : V.int .i64 (((l.map f).length : Nat) : Int) = V.int .i64 (l.length : Int) := by rw [List.length_map]
theorem sayNat {n : Int} (h : 0 ≤ n) : V.int .i64 n = V.int .i64 ((n.toNat : Nat) : Int) := by
  congr 1
  omega
theorem allP_map {α : Type} {f : α → V} (h : ∀ x, (cl (f x)).all gV = true) (l : List α) : AllP (l.map f) := by
  intro x hx
  obtain ⟨y, _, rfl⟩ := List.mem_map.1 hx
  exact h y
theorem allP_encI (l : List Int) : AllP (l.map encI) := allP_map (fun _ => rfl) l
theorem allP_encS (l : List ByteArray) : AllP (l.map encS) := allP_map (fun _ => rfl) l
theorem dropCons {α : Type} {l : List α} {k : Nat} {e : α} (h : l[k]? = some e) : l.drop k = e :: l.drop (k + 1) := by
  obtain ⟨hk, rfl⟩ := List.getElem?_eq_some_iff.1 h
  exact List.drop_eq_getElem_cons hk
end Go.Sy

