/- From a contract over values to a law's row: what an argument reads as data is told by values; the call of a law. -/
import Derived.Test.YtdpcdcogbmkffaaSXParcelWholeV
import Derived.Below
import Derived.ChangeArms
import Derived.ChangeShapes
import Derived.Deep.Slices
import Derived.DataReads
import Derived.WalkKit
set_option linter.unusedVariables false
set_option linter.unusedSimpArgs false
namespace Go.Sy
open Go.RowKit Go.ChangeShapes Go.Deep
def hereG (W : World) : Gh := ⟨fun _ => none, fun _ => False, fun b => b < W.heap.size, fun _ _ => False⟩
def CellsV (W : World) (cs : List Value) (vs : List V) : Prop := cs.length = vs.length ∧ ∀ (j : Nat) (u : Value) (v : V), cs[j]? = some u → vs[j]? = some v → RepG W (fun _ => False) (fun b => b < W.heap.size) u v ∧ u.oneCell' = true
section
variable {H : Type} {enc : TypeId × Value → H} {P : Program} {W : World}
def RdV (enc : TypeId × Value → H) (P : Program) (W : World) (t : TypeId) {α : Type} (sz : Nat) (f : α → List V) (G : α → Prop) : Prop :=
  ∀ (fuel : Nat) (cs : List Value) (x : DataW H × List MemPlace), DataW.trod enc P W 0 (fun _ => true) true fuel t cs = some x → ∃ y, CellsV W cs (f y) ∧ cs.length = sz ∧ G y
theorem cells1 {u : Value} {v : V} (h : RepG W (fun _ => False) (fun b => b < W.heap.size) u v) (ho : u.oneCell' = true) : CellsV W [u] [v] :=
  ⟨rfl, fun j u' v' h1 h2 => by
    cases j with
    | zero => simp at h1 h2; subst h1; subst h2; exact ⟨h, ho⟩
    | succ j => simp at h1⟩
theorem rd_int {t : TypeId} {k : IntKind} (ht : P.underlying t = some (.int k)) : RdV enc P W t 1 (fun n : Int => [.int k n]) (fun n => (Lit.int k n).wf = true) := by
  intro fuel cs x h
  obtain ⟨n, rfl, _, hw⟩ := DataW.trod_int ht h
  exact ⟨n, cells1 (.int _ _) rfl, rfl, hw⟩
theorem rd_str {t : TypeId} (ht : P.underlying t = some .string) : RdV enc P W t 1 (fun s : ByteArray => [.str s]) (fun s => s.size ≤ 9223372036854775807) := by
  intro fuel cs x h
  obtain ⟨n, rfl, _, hw⟩ := DataW.trod_string ht h
  unfold maxLen at hw
  exact ⟨n, cells1 (.str _) rfl, rfl, by omega⟩
theorem list_of {α : Type} (n : Nat) (Q : Nat → α → Prop) (h : ∀ i, i < n → ∃ y, Q i y) : ∃ ys : List α, ys.length = n ∧ ∀ j p, ys[j]? = some p → Q j p := by
  induction n with
  | zero => exact ⟨[], rfl, fun j p hp => by simp at hp⟩
  | succ n ih =>
    obtain ⟨ys, hl, hy⟩ := ih (fun i hi => h i (by omega))
    obtain ⟨y, hq⟩ := h n (by omega)
    refine ⟨ys ++ [y], by simp [hl], fun j p hp => ?_⟩
    by_cases hj : j < n
    · rw [List.getElem?_append_left (by omega)] at hp; exact hy j p hp
    · have hlt := (List.getElem?_eq_some_iff.1 hp).1
      rw [List.length_append, hl] at hlt
      simp only [List.length_singleton] at hlt
      obtain rfl : j = n := by omega
      rw [List.getElem?_append_right (by omega), hl] at hp
      simp at hp; subst hp; exact hq
theorem cell_lt {W : World} {ad : Addr} {u : Value} (h : W.cell? ad = some u) : ad.block < W.heap.size := by
  unfold World.cell? at h
  rcases Nat.lt_or_ge ad.block W.heap.size with h1 | h1
  · exact h1
  · rw [Array.getElem?_eq_none h1] at h
    cases h
theorem rd_slice {t e : TypeId} {α : Type} {sz : Nat} {f : α → List V} {G : α → Prop} (en : α → V) (hen : ∀ x, cl (en x) = f x) (ht : P.underlying t = some (.slice e)) (hc : P.cellsOf e = sz) (h0 : 0 < sz) (hd : RdV enc P W e sz f G) :
    RdV enc P W t 1 (fun xs : List α => [.sl false sz (xs.map en)]) (fun xs => xs.length ≤ 9223372036854775807 ∧ ∀ x ∈ xs, G x) := by
  intro fuel cs x h
  rcases open_slice ht h with ⟨rfl, _⟩ | ⟨a, len, cap, m, n, D, Pl, rfl, _, hl, hm, hmm, _, hel⟩
  · exact ⟨[], cells1 (.slE _ _ _ _) rfl, rfl, by simp, by simp⟩
  · have hm' : cap ≤ 9223372036854775807 := by unfold maxLen at hm; omega
    have hmc : m = cap := by simpa using hmm
    obtain ⟨ys, hyl, hy⟩ := list_of len (fun i (y : α) => ∃ c : List Value, CellsV W c (f y) ∧ c.length = sz ∧ (∀ j u, c[j]? = some u → W.cell? (a.add (i * sz + j)) = some u) ∧ G y) (fun i hi => by
      obtain ⟨c, hc1, hc2⟩ := hel i (by omega)
      obtain ⟨y, hK, hL, hG⟩ := hd n c _ hc2
      obtain ⟨_, hcl, hcell⟩ := World.cells?_some hc1
      refine ⟨y, c, hK, hL, fun j u hu => ?_, hG⟩
      have hlt := (List.getElem?_eq_some_iff.1 hu).1
      have := hcell j (by omega)
      rw [Go.Deep.add_add, hc] at this
      rw [this, hu])
    refine ⟨ys, cells1 ?_ rfl, rfl, by omega, fun z hz => ?_⟩
    · by_cases hz : len = 0
      · have : ys = [] := List.eq_nil_of_length_eq_zero (by omega)
        subst this
        subst hz
        exact .slE _ _ _ _
      · have hget : ∀ (k : Nat) (x : V), (ys.map en)[k]? = some x → ∃ (y : α) (c : List Value), ys[k]? = some y ∧ cl x = f y ∧ CellsV W c (f y) ∧ c.length = sz ∧ (∀ j u, c[j]? = some u → W.cell? (a.add (k * sz + j)) = some u) := by
          intro k x hx
          rw [List.getElem?_map] at hx
          obtain ⟨y, hy1, rfl⟩ := Option.map_eq_some_iff.1 hx
          obtain ⟨c, c1, c2, c3, _⟩ := hy k y hy1
          exact ⟨y, c, hy1, hen y, c1, c2, c3⟩
        have hu : ∀ (k : Nat) (x : V), (ys.map en)[k]? = some x → ∀ (j : Nat) (y : V), (cl x)[j]? = some y → ∃ u, W.cell? (a.add (k * sz + j)) = some u ∧ RepG W (fun _ => False) (fun b => b < W.heap.size) u y ∧ u.oneCell' = true := by
          intro k x hx j y hj
          obtain ⟨y', c, h1, h2, h3, h4, h5⟩ := hget k x hx
          rw [h2] at hj
          have hjl := (List.getElem?_eq_some_iff.1 hj).1
          have hjc : j < c.length := by rw [h3.1]; exact hjl
          have hcu := List.getElem?_eq_getElem hjc
          obtain ⟨r1, r2⟩ := h3.2 j _ y hcu hj
          exact ⟨_, h5 j _ hcu, r1, r2⟩
        have hblk : a.block < W.heap.size := by
          have h1 : 0 < ys.length := by omega
          have h2 : (ys.map en)[0]? = some (en ys[0]) := by rw [List.getElem?_map, List.getElem?_eq_getElem h1]; rfl
          obtain ⟨y', c, _, _, _, h4, h5⟩ := hget 0 _ h2
          have h6 : 0 < c.length := by omega
          have h7 := h5 0 _ (List.getElem?_eq_getElem h6)
          have h8 := cell_lt h7
          have h9 : (a.add (0 * sz + 0)).block = a.block := by unfold Addr.add; split <;> rfl
          rwa [h9] at h8
        refine .sl a len cap false sz (ys.map en) (fun k j => (W.cell? (a.add (k * sz + j))).getD undef) (by simp; exact hyl) (by omega) (by simp only [maxLen]; omega) (by simpa using hblk) (fun k x hx => ?_) (fun k x hx j y hj => ?_) (fun k x hx j y hj => ?_) (fun h => by cases h) (fun k x hx j y hj => ?_)
        · obtain ⟨y', c, _, h2, h3, h4, _⟩ := hget k x hx
          rw [h2, ← h3.1, h4]
        all_goals
          obtain ⟨u, q1, q2, q3⟩ := hu k x hx j y hj
        · rw [q1]; rfl
        · rw [q1]; exact q3
        · rw [q1]; exact q2
    · obtain ⟨j, hj⟩ := List.getElem?_of_mem hz
      obtain ⟨_, _, _, _, hG⟩ := hy j z hj
      exact hG
def RdF (enc : TypeId × Value → H) (P : Program) (W : World) (fs : List Field) (o : Nat) {α : Type} (sz : Nat) (f : α → List V) (G : α → Prop) : Prop :=
  ∀ (fuel : Nat) (cs : List Value), (∀ f ∈ fs, ∃ x, DataW.trod enc P W 0 (fun _ => true) true fuel f.type ((cs.drop f.offset).take (P.cellsOf f.type)) = some x) → cs.length = o + sz → ∃ y, CellsV W (cs.drop o) (f y) ∧ G y
theorem rdf_one {fd : Field} {o sz : Nat} {α : Type} {f : α → List V} {G : α → Prop} (ho : fd.offset = o) (hc : P.cellsOf fd.type = sz) (hd : RdV enc P W fd.type sz f G) : RdF enc P W [fd] o sz f G := by
  intro fuel cs hf hl
  obtain ⟨x, hx⟩ := hf fd (List.mem_singleton.2 rfl)
  rw [ho, List.take_of_length_le (by rw [List.length_drop]; omega)] at hx
  obtain ⟨y, h1, _, h2⟩ := hd fuel _ x hx
  exact ⟨y, h1, h2⟩
theorem cells_app {cs ds : List Value} {vs us : List V} (h1 : CellsV W cs vs) (h2 : CellsV W ds us) : CellsV W (cs ++ ds) (vs ++ us) := by
  refine ⟨by simp [h1.1, h2.1], fun j u v hu hv => ?_⟩
  by_cases hj : j < cs.length
  · rw [List.getElem?_append_left hj] at hu
    rw [List.getElem?_append_left (by rw [← h1.1]; exact hj)] at hv
    exact h1.2 j u v hu hv
  · rw [List.getElem?_append_right (by omega)] at hu
    rw [List.getElem?_append_right (by rw [← h1.1]; omega), ← h1.1] at hv
    exact h2.2 _ u v hu hv
theorem rdf_cons {fd : Field} {fs : List Field} {o sz sz' : Nat} {α β : Type} {f : α → List V} {f' : β → List V} {G : α → Prop} {G' : β → Prop} (ho : fd.offset = o) (hc : P.cellsOf fd.type = sz) (hd : RdV enc P W fd.type sz f G) (hr : RdF enc P W fs (o + sz) sz' f' G') :
    RdF enc P W (fd :: fs) o (sz + sz') (fun p : α × β => f p.1 ++ f' p.2) (fun p => G p.1 ∧ G' p.2) := by
  intro fuel cs hf hl
  obtain ⟨x, hx⟩ := hf fd List.mem_cons_self
  rw [ho, hc] at hx
  obtain ⟨y, hK, _, hG⟩ := hd fuel _ x hx
  obtain ⟨z, hK', hG'⟩ := hr fuel cs (fun g hg => hf g (List.mem_cons_of_mem _ hg)) (by omega)
  refine ⟨(y, z), ?_, hG, hG'⟩
  have e : cs.drop o = (cs.drop o).take sz ++ cs.drop (o + sz) := by rw [← List.drop_drop, List.take_append_drop]
  rw [e]
  exact cells_app hK hK'
theorem rd_struct {t : TypeId} {fs : Array Field} {α : Type} {sz : Nat} {f : α → List V} {G : α → Prop} (ht : P.underlying t = some (.struct fs)) (hc : P.cellsOf t = sz) (hf : RdF enc P W fs.toList 0 sz f G) : RdV enc P W t sz f G := by
  intro fuel cs x h
  obtain ⟨xs, n, rfl, _, hl, hxl, hx⟩ := DataW.trod_struct ht h
  obtain ⟨y, hK, hG⟩ := hf n cs (fun g hfm => by
    obtain ⟨i, hi⟩ := List.getElem?_of_mem hfm
    have hi' : fs[i]? = some g := by rw [← Array.getElem?_toList]; exact hi
    have hlt : i < xs.length := by rw [hxl]; exact (Array.getElem?_eq_some_iff.1 hi').1
    exact ⟨xs[i], by rw [hx i g hi', List.getElem?_eq_getElem hlt]⟩) (by omega)
  exact ⟨y, by rwa [List.drop_zero] at hK, by omega, hG⟩
theorem rd_iso {t : TypeId} {α β : Type} {sz : Nat} {f : α → List V} {G : α → Prop} (hd : RdV enc P W t sz f G) (g : α → β) {f' : β → List V} {G' : β → Prop} (hf : ∀ x, f' (g x) = f x) (hg : ∀ x, G x → G' (g x)) : RdV enc P W t sz f' G' := by
  intro fuel cs x h
  obtain ⟨y, hK, hl, hG⟩ := hd fuel cs x h
  exact ⟨g y, by rw [hf]; exact hK, hl, hg y hG⟩
theorem rep_agg {cs : List Value} {vs : List V} (h : CellsV W cs vs) : (hereG W).Rep W (.agg cs.toArray) (.agg vs) :=
  .agg _ _ (by simpa using h.1) (fun j x hx => by
    have hj : j < cs.length := by rw [h.1]; exact (List.getElem?_eq_some_iff.1 hx).1
    have h1 := List.getElem?_eq_getElem hj
    have := (h.2 j _ x h1 hx).1
    have e : (cs.toArray).getD j undef = cs[j] := by simp [Array.getD, hj]
    show Sy.Rep _ _ _ _ _ _
    rw [e]
    exact .g this)
theorem rep_agg2 {a : Array Value} {vs : List V} (h : CellsV W (Value.agg a).cells.toList vs) : (hereG W).Rep W (.agg a) (.agg vs) := by
  have := rep_agg (cs := a.toList) (vs := vs) h
  simpa using this
theorem here_hold (W : World) : Hold (hereG W) W (obs []) where
  ij := fun _ h => h.elim
  lt := fun _ h => h
  own := fun i => ⟨rfl, fun _ h => h⟩
  flt := fun _ _ h => h.elim
  fj := fun _ _ h => h.elim
  dis := fun _ _ _ h => h.elim
theorem law_calls {f : Nat} {As : List V} {b : Bool} (h : FnSpec P f As [] (.bool b) []) {args : Array Value} (hs : args.size = As.length) (hr : ∀ (k : Nat) (x : V), As[k]? = some x → (hereG W).Rep W (args.getD k undef) x) :
    Calls P f args W (fun e W' => e = .returned (.bool b) ∧ Below W.heap.size W W') := by
  refine (h (hereG W) W args (here_hold W) hs hr).mono fun e W' ⟨v, G', h1, h2, h3, h4⟩ => ?_
  have := Rep.inv_bool h3
  subst this
  exact ⟨h1, h4.os, h4.tape, h4.output, h4.sz, fun k hk => h4.blk k hk (fun _ h => h)⟩
end
theorem bigLen {α : Type} {l : List α} (h : l.length ≤ 9223372036854775807) : (l.length : Int) ≤ big := by unfold big; omega
theorem bigStr {s : ByteArray} (h : s.size ≤ 9223372036854775807) : (s.size : Int) ≤ big := by unfold big; omega
end Go.Sy

