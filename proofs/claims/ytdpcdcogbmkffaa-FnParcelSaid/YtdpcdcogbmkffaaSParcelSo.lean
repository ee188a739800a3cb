/- Sources as they are drawn: small ones. -/
import Derived.Test.YtdpcdcogbmkffaaSParcelPe
set_option linter.unusedVariables false
set_option linter.unusedSimpArgs false
namespace Go.Sy
structure On where
  kind : Int
  day : Int
  week : Int
structure Rul where
  name : Int
  from_ : Int
  to : Int
  month : Int
  on : On
  at_ : Int
  save : Int
structure Zon where
  name : Int
  off : Int
  rule : Int
structure Lnk where
  name : Int
  to : Int
structure Srce where
  rules : List Rul
  zones : List Zon
  links : List Lnk
def encRul (r : Rul) : V := .agg [.int .i64 r.name, .int .i64 r.from_, .int .i64 r.to, .int .i64 r.month, .int .i64 r.on.kind, .int .i64 r.on.day, .int .i64 r.on.week, .int .i64 r.at_, .int .i64 r.save]
def encZon (z : Zon) : V := .agg [.int .i64 z.name, .int .i64 z.off, .int .i64 z.rule]
def encLnk (l : Lnk) : V := .agg [.int .i64 l.name, .int .i64 l.to]
theorem allP_encRul (l : List Rul) : AllP (l.map encRul) := by
  intro x hx; obtain ⟨y, _, rfl⟩ := List.mem_map.1 hx; rfl
theorem allP_encZon (l : List Zon) : AllP (l.map encZon) := by
  intro x hx; obtain ⟨y, _, rfl⟩ := List.mem_map.1 hx; rfl
theorem allP_encLnk (l : List Lnk) : AllP (l.map encLnk) := by
  intro x hx; obtain ⟨y, _, rfl⟩ := List.mem_map.1 hx; rfl
def Sm (x : Int) : Prop := -100000 ≤ x ∧ x ≤ 100000
def SmR (r : Rul) : Prop := Sm r.from_ ∧ Sm r.to ∧ Sm r.month ∧ Sm r.on.day ∧ Sm r.on.week ∧ Sm r.at_ ∧ Sm r.save
def SmS (a b c : Nat) (s : Srce) : Prop := s.rules.length ≤ a ∧ s.zones.length ≤ b ∧ s.links.length ≤ c ∧ (∀ r ∈ s.rules, SmR r) ∧ ∀ z ∈ s.zones, Sm z.off
theorem all_snoc {α : Type} {Q : α → Prop} {l : List α} {x : α} (h : ∀ y ∈ l, Q y) (hx : Q x) : ∀ y ∈ l ++ [x], Q y := by
  intro y hy
  rw [List.mem_append, List.mem_singleton] at hy
  rcases hy with hy | rfl
  · exact h _ hy
  · exact hx
theorem SmS.rule {a b c : Nat} {rs : List Rul} {zs : List Zon} {ls : List Lnk} (h : SmS a b c ⟨rs, zs, ls⟩) {r : Rul} (hr : SmR r) : SmS (a + 1) b c ⟨rs ++ [r], zs, ls⟩ := by
  obtain ⟨h1, h2, h3, h4, h5⟩ := h
  exact ⟨by simp at h1 ⊢; omega, h2, h3, all_snoc h4 hr, h5⟩
theorem SmS.zone {a b c : Nat} {rs : List Rul} {zs : List Zon} {ls : List Lnk} (h : SmS a b c ⟨rs, zs, ls⟩) {z : Zon} (hz : Sm z.off) : SmS a (b + 1) c ⟨rs, zs ++ [z], ls⟩ := by
  obtain ⟨h1, h2, h3, h4, h5⟩ := h
  exact ⟨h1, by simp at h2 ⊢; omega, h3, h4, all_snoc h5 hz⟩
theorem SmS.link {a b c : Nat} {rs : List Rul} {zs : List Zon} {ls : List Lnk} (h : SmS a b c ⟨rs, zs, ls⟩) (l : Lnk) : SmS a b (c + 1) ⟨rs, zs, ls ++ [l]⟩ := by
  obtain ⟨h1, h2, h3, h4, h5⟩ := h
  exact ⟨h1, h2, by simp at h3 ⊢; omega, h4, h5⟩
theorem SmS.mono {a b c a' b' c' : Nat} {s : Srce} (h : SmS a b c s) (ha : a ≤ a') (hb : b ≤ b') (hc : c ≤ c') : SmS a' b' c' s := ⟨Nat.le_trans h.1 ha, Nat.le_trans h.2.1 hb, Nat.le_trans h.2.2.1 hc, h.2.2.2⟩
theorem SmS.set {a b c i : Nat} {rs : List Rul} {zs : List Zon} {ls : List Lnk} (h : SmS a b c ⟨rs, zs, ls⟩) {r : Rul} (hr : SmR r) : SmS a b c ⟨rs.set i r, zs, ls⟩ := by
  obtain ⟨h1, h2, h3, h4, h5⟩ := h
  refine ⟨by simpa using h1, h2, h3, fun y hy => ?_, h5⟩
  rcases List.mem_or_eq_of_mem_set hy with hy | rfl
  · exact h4 _ hy
  · exact hr
theorem SmS.none : SmS 0 0 0 ⟨[], [], []⟩ := ⟨Nat.le_refl _, Nat.le_refl _, Nat.le_refl _, fun _ h => (List.not_mem_nil h).elim, fun _ h => (List.not_mem_nil h).elim⟩
theorem say32 (n : Int) (h : -2147483648 ≤ n ∧ n ≤ 2147483647) : V.int .i32 (IntKind.i32.wrap n) = V.int .i32 n := by
  congr 1
  unfold IntKind.wrap
  simp only [show IntKind.i32.bits = 32 from rfl, show IntKind.i32.signed = true from rfl, Bool.true_and, decide_eq_true_eq]
  split <;> omega
end Go.Sy
namespace Go.Sy
theorem catS_empty (n : Int) : catS (emptyN n) = [] := by
  unfold emptyN
  induction (max (partsN n) 0).toNat with
  | zero => rfl
  | succ k ih => rw [List.replicate_succ, catS, ih]; rfl
theorem pick_size {l : List ByteArray} {x : ByteArray} {n : Nat} (h : ∀ y ∈ l, y.size ≤ n) (hx : x ∈ l) : x.size ≤ n := h _ hx
theorem SmS.more {b c : Nat} {rs : List Rul} {zs : List Zon} {ls : List Lnk} (h : SmS 20 b c ⟨rs, zs, ls⟩) {r : Rul} (hr : SmR r) (hl : rs.length < 20) : SmS 20 b c ⟨rs ++ [r], zs, ls⟩ := by
  obtain ⟨h1, h2, h3, h4, h5⟩ := h
  exact ⟨by show (rs ++ [r]).length ≤ 20; rw [List.length_append]; simp; omega, h2, h3, all_snoc h4 hr, h5⟩
theorem small2 {r1 r2 : Rul} {z1 z2 : Zon} {l : List Lnk} (h1 : SmR r1) (h2 : SmR r2) (h4 : Sm z1.off) (h5 : Sm z2.off) (hl : l.length ≤ 4 := by decide) : SmS 20 5 4 ⟨[r1] ++ [r2], [z1, z2], l⟩ :=
  ⟨by simp, by simp, hl, all_snoc (all_snoc (fun _ h => (List.not_mem_nil h).elim) h1 : ∀ y ∈ ([] : List Rul) ++ [r1], SmR y) h2, all_snoc (all_snoc (fun _ h => (List.not_mem_nil h).elim) h4 : ∀ y ∈ ([] : List Zon) ++ [z1], Sm y.off) h5⟩
theorem small3 {r1 r2 r3 : Rul} {z1 z2 : Zon} {l : List Lnk} (h1 : SmR r1) (h2 : SmR r2) (h3 : SmR r3) (h4 : Sm z1.off) (h5 : Sm z2.off) (hl : l.length ≤ 4 := by decide) : SmS 20 5 4 ⟨[r1] ++ [r2] ++ [r3], [z1, z2], l⟩ :=
  ⟨by simp, by simp, hl, all_snoc (all_snoc (all_snoc (fun _ h => (List.not_mem_nil h).elim) h1 : ∀ y ∈ ([] : List Rul) ++ [r1], SmR y) h2) h3, all_snoc (all_snoc (fun _ h => (List.not_mem_nil h).elim) h4 : ∀ y ∈ ([] : List Zon) ++ [z1], Sm y.off) h5⟩
end Go.Sy

