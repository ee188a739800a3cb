/- What a value reads as data (DataW.trod) is told by the print's kinds: plain lemmas, of whatever program. Conditions: the type's underlying form and its number of cells, as closed facts. -/
import Derived.Test.YtahhigniaepgeaaVFnExactRaftNew
import Derived.ChangeArms
import Derived.ChangeShapes
import Derived.Deep.Slices
import Derived.DataReads
namespace Go.Proofs.Ytahhigniaepgeaa.Opn
open Go.RowKit Go.ChangeShapes Go.Deep Go.Proofs.YtahhigniaepgeaaW.PrintWords
set_option linter.unusedVariables false
set_option linter.unusedSimpArgs false
section
variable {H : Type} {enc : TypeId × Value → H} {P : Program} {W : World}
def RdAs (enc : TypeId × Value → H) (P : Program) (W : World) (t : TypeId) {α : Type} (d : Kd α) (G : α → Prop) : Prop :=
  ∀ (fuel : Nat) (cs : List Value) (x : DataW H × List MemPlace), DataW.trod enc P W 0 (fun _ => true) true fuel t cs = some x → ∃ y, d.K W y cs ∧ G y
def StrG (s : ByteArray) : Prop := s.size ≤ 9223372036854775807
def LenG {α : Type} (xs : List α) : Prop := xs.length ≤ 9223372036854775807
theorem op_int {t : TypeId} {k : IntKind} (ht : P.underlying t = some (.int k)) : RdAs enc P W t (Kd.int k) (fun n => (Lit.int k n).wf = true) := by
  intro fuel cs x h
  obtain ⟨n, rfl, _, hw⟩ := DataW.trod_int ht h
  exact ⟨n, rfl, hw⟩
theorem op_bool {t : TypeId} (ht : P.underlying t = some .bool) : RdAs enc P W t Kd.bool (fun _ => True) := by
  intro fuel cs x h
  obtain ⟨n, rfl, _⟩ := DataW.trod_bool ht h
  exact ⟨n, rfl, trivial⟩
theorem op_string {t : TypeId} (ht : P.underlying t = some .string) : RdAs enc P W t Kd.string StrG := by
  intro fuel cs x h
  obtain ⟨n, rfl, _, hw⟩ := DataW.trod_string ht h
  unfold maxLen at hw
  exact ⟨n, rfl, by unfold StrG; omega⟩
theorem list_of {α : Type} (n : Nat) (Q : Nat → α → Prop) (h : ∀ i, i < n → ∃ y, Q i y) : ∃ ys : List α, ys.length = n ∧ ∀ j p, ys[j]? = some p → Q j p := by
  induction n with
  | zero => exact ⟨[], rfl, fun j p hp => by simp at hp⟩
  | succ n ih =>
    obtain ⟨ys, hl, hy⟩ := ih (fun i hi => h i (by omega))
    obtain ⟨y, hq⟩ := h n (by omega)
    refine ⟨ys ++ [y], by simp [hl], fun j p hp => ?_⟩
    by_cases hj : j < n
    · rw [List.getElem?_append_left (by omega)] at hp; exact hy j p hp
    · have hlt := (List.getElem?_eq_some_iff.1 hp).1
      rw [List.length_append, hl] at hlt
      simp only [List.length_singleton] at hlt
      obtain rfl : j = n := by omega
      rw [List.getElem?_append_right (by omega), hl] at hp
      simp at hp; subst hp; exact hq
theorem op_slice {t e : TypeId} {α : Type} {d : Kd α} {G : α → Prop} (ht : P.underlying t = some (.slice e)) (hc : P.cellsOf e = d.sz) (hd : RdAs enc P W e d G) :
    RdAs enc P W t (Kd.slice e d) (fun xs => LenG xs ∧ ∀ x ∈ xs, G x) := by
  intro fuel cs x h
  rcases open_slice ht h with ⟨rfl, _⟩ | ⟨a, len, cap, m, n, D, Pl, rfl, _, hl, hm, hmm, _, hel⟩
  · exact ⟨[], ⟨none, 0, rfl, Nat.le_refl _, rfl, by simp, fun h0 => absurd h0 (by simp)⟩, by unfold LenG; simp, by simp⟩
  · unfold maxLen at hm
    have hmc : m = cap := by simpa using hmm
    obtain ⟨ys, hyl, hy⟩ := list_of len (fun i (y : α) => ∃ c, c.length = d.sz ∧ d.K W y c ∧ (∀ j u, c[j]? = some u → W.cell? (a.add (i * d.sz + j)) = some u) ∧ G y) (fun i hi => by
      obtain ⟨c, hc1, hc2⟩ := hel i (by omega)
      obtain ⟨y, hK, hG⟩ := hd n c _ hc2
      obtain ⟨_, hcl, hcell⟩ := World.cells?_some hc1
      refine ⟨y, c, by rw [hcl, hc], hK, fun j u hu => ?_, hG⟩
      have hlt := (List.getElem?_eq_some_iff.1 hu).1
      have := hcell j (by omega)
      rw [Go.Deep.add_add, hc] at this
      rw [this, hu])
    refine ⟨ys, ⟨some a, cap, by rw [hyl], by omega, by rw [hyl], by omega, fun _ => ⟨a, rfl, fun j p hp => ?_⟩⟩, by unfold LenG; omega, fun z hz => ?_⟩
    · obtain ⟨c, h1, h2, h3, _⟩ := hy j p hp
      exact ⟨c, h1, h2, h3⟩
    · obtain ⟨j, hj⟩ := List.getElem?_of_mem hz
      obtain ⟨_, _, _, _, hG⟩ := hy j z hj
      exact hG
def OpF (enc : TypeId × Value → H) (P : Program) (W : World) (fs : List Field) (o : Nat) {α : Type} (d : Kd α) (G : α → Prop) : Prop :=
  ∀ (fuel : Nat) (cs : List Value), (∀ f ∈ fs, ∃ x, DataW.trod enc P W 0 (fun _ => true) true fuel f.type ((cs.drop f.offset).take (P.cellsOf f.type)) = some x) → cs.length = o + d.sz → ∃ y, d.K W y (cs.drop o) ∧ G y
theorem opf_one {f : Field} {o : Nat} {α : Type} {d : Kd α} {G : α → Prop} (ho : f.offset = o) (hc : P.cellsOf f.type = d.sz) (hd : RdAs enc P W f.type d G) : OpF enc P W [f] o d G := by
  intro fuel cs hf hl
  obtain ⟨x, hx⟩ := hf f (List.mem_singleton.2 rfl)
  rw [ho, List.take_of_length_le (by rw [List.length_drop]; omega)] at hx
  exact hd fuel _ x hx
theorem opf_cons {f : Field} {fs : List Field} {o : Nat} {α β : Type} {d : Kd α} {d' : Kd β} {G : α → Prop} {G' : β → Prop} (ho : f.offset = o) (hc : P.cellsOf f.type = d.sz) (hd : RdAs enc P W f.type d G) (hr : OpF enc P W fs (o + d.sz) d' G') :
    OpF enc P W (f :: fs) o (Kd.pair d d') (fun p => G p.1 ∧ G' p.2) := by
  intro fuel cs hf hl
  have hl' : cs.length = o + (d.sz + d'.sz) := hl
  obtain ⟨x, hx⟩ := hf f List.mem_cons_self
  rw [ho, hc] at hx
  obtain ⟨y, hK, hG⟩ := hd fuel _ x hx
  obtain ⟨z, hK', hG'⟩ := hr fuel cs (fun g hg => hf g (List.mem_cons_of_mem _ hg)) (by omega)
  refine ⟨(y, z), ⟨(cs.drop o).take d.sz, cs.drop (o + d.sz), ?_, hK, hK'⟩, hG, hG'⟩
  rw [← List.drop_drop, List.take_append_drop]
theorem op_struct {t : TypeId} {fs : Array Field} {α : Type} {d : Kd α} {G : α → Prop} (ht : P.underlying t = some (.struct fs)) (hc : P.cellsOf t = d.sz) (hf : OpF enc P W fs.toList 0 d G) : RdAs enc P W t d G := by
  intro fuel cs x h
  obtain ⟨xs, n, rfl, _, hl, hxl, hx⟩ := DataW.trod_struct ht h
  obtain ⟨y, hK, hG⟩ := hf n cs (fun f hfm => by
    obtain ⟨i, hi⟩ := List.getElem?_of_mem hfm
    have hi' : fs[i]? = some f := by rw [← Array.getElem?_toList]; exact hi
    have hlt : i < xs.length := by rw [hxl]; exact (Array.getElem?_eq_some_iff.1 hi').1
    exact ⟨xs[i], by rw [hx i f hi', List.getElem?_eq_getElem hlt]⟩) (by omega)
  exact ⟨y, by rwa [List.drop_zero] at hK, hG⟩
theorem op_iso {t : TypeId} {α β : Type} {d : Kd α} {G : α → Prop} {f : β → α} (g : α → β) (hfg : ∀ x, f (g x) = x) (hd : RdAs enc P W t d G) : RdAs enc P W t (Kd.iso d f) (fun y => G (f y)) := by
  intro fuel cs x h
  obtain ⟨y, hK, hG⟩ := hd fuel cs x h
  exact ⟨g y, by show d.K W (f (g y)) cs; rw [hfg]; exact hK, by show G (f (g y)); rw [hfg]; exact hG⟩
end
end Go.Proofs.Ytahhigniaepgeaa.Opn
