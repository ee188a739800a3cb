/- From a contract over values to a law's row: what an argument reads as data is told by values; the call of a law. -/
import Derived.Test.YtocjgmdfocaamaaGreatSRecsTellV
import Derived.Below
import Derived.ChangeArms
import Derived.ChangeShapes
import Derived.Deep.Slices
import Derived.DataReads
import Derived.WalkKit
set_option linter.unusedVariables false
set_option linter.unusedSimpArgs false
namespace Go.Sy
open Go.RowKit Go.ChangeShapes Go.Deep
def hereG (W : World) : Gh := ⟨fun _ => none, fun _ => False, fun b => b < W.heap.size, fun _ _ => False⟩
def CellsV (W : World) (cs : List Value) (vs : List V) : Prop := cs.length = vs.length ∧ ∀ (j : Nat) (u : Value) (v : V), cs[j]? = some u → vs[j]? = some v → RepG W (fun _ => False) (fun b => b < W.heap.size) u v ∧ u.oneCell' = true
section
variable {H : Type} {enc : TypeId × Value → H} {P : Program} {W : World}
def RdV (enc : TypeId × Value → H) (P : Program) (W : World) (t : TypeId) {α : Type} (sz : Nat) (f : α → List V) (G : α → Prop) : Prop :=
  ∀ (fuel : Nat) (cs : List Value) (x : DataW H × List MemPlace), DataW.trod enc P W 0 (fun _ => true) true fuel t cs = some x → ∃ y, CellsV W cs (f y) ∧ cs.length = sz ∧ G y
theorem cells1 {u : Value} {v : V} (h : RepG W (fun _ => False) (fun b => b < W.heap.size) u v) (ho : u.oneCell' = true) : CellsV W [u] [v] :=
  ⟨rfl, fun j u' v' h1 h2 => by
    cases j with
    | zero => simp at h1 h2; subst h1; subst h2; exact ⟨h, ho⟩
    | succ j => simp at h1⟩
theorem rd_int {t : TypeId} {k : IntKind} (ht : P.underlying t = some (.int k)) : RdV enc P W t 1 (fun n : Int => [.int k n]) (fun n => (Lit.int k n).wf = true) := by
  intro fuel cs x h
  obtain ⟨n, rfl, _, hw⟩ := DataW.trod_int ht h
  exact ⟨n, cells1 (.int _ _) rfl, rfl, hw⟩
theorem list_of {α : Type} (n : Nat) (Q : Nat → α → Prop) (h : ∀ i, i < n → ∃ y, Q i y) : ∃ ys : List α, ys.length = n ∧ ∀ j p, ys[j]? = some p → Q j p := by
  induction n with
  | zero => exact ⟨[], rfl, fun j p hp => by simp at hp⟩
  | succ n ih =>
    obtain ⟨ys, hl, hy⟩ := ih (fun i hi => h i (by omega))
    obtain ⟨y, hq⟩ := h n (by omega)
    refine ⟨ys ++ [y], by simp [hl], fun j p hp => ?_⟩
    by_cases hj : j < n
    · rw [List.getElem?_append_left (by omega)] at hp; exact hy j p hp
    · have hlt := (List.getElem?_eq_some_iff.1 hp).1
      rw [List.length_append, hl] at hlt
      simp only [List.length_singleton] at hlt
      obtain rfl : j = n := by omega
      rw [List.getElem?_append_right (by omega), hl] at hp
      simp at hp; subst hp; exact hq
theorem cell_lt {W : World} {ad : Addr} {u : Value} (h : W.cell? ad = some u) : ad.block < W.heap.size := by
  unfold World.cell? at h
  rcases Nat.lt_or_ge ad.block W.heap.size with h1 | h1
  · exact h1
  · rw [Array.getElem?_eq_none h1] at h
    cases h
theorem rd_slice {t e : TypeId} {α : Type} {sz : Nat} {f : α → List V} {G : α → Prop} (en : α → V) (hen : ∀ x, cl (en x) = f x) (ht : P.underlying t = some (.slice e)) (hc : P.cellsOf e = sz) (h0 : 0 < sz) (hd : RdV enc P W e sz f G) :
    RdV enc P W t 1 (fun xs : List α => [.sl false sz (xs.map en)]) (fun xs => xs.length ≤ 9223372036854775807 ∧ ∀ x ∈ xs, G x) := by
  intro fuel cs x h
  rcases open_slice ht h with ⟨rfl, _⟩ | ⟨a, len, cap, m, n, D, Pl, rfl, _, hl, hm, hmm, _, hel⟩
  · exact ⟨[], cells1 (.slE _ _ _ _) rfl, rfl, by simp, by simp⟩
  · have hm' : cap ≤ 9223372036854775807 := by unfold maxLen at hm; omega
    have hmc : m = cap := by simpa using hmm
    obtain ⟨ys, hyl, hy⟩ := list_of len (fun i (y : α) => ∃ c : List Value, CellsV W c (f y) ∧ c.length = sz ∧ (∀ j u, c[j]? = some u → W.cell? (a.add (i * sz + j)) = some u) ∧ G y) (fun i hi => by
      obtain ⟨c, hc1, hc2⟩ := hel i (by omega)
      obtain ⟨y, hK, hL, hG⟩ := hd n c _ hc2
      obtain ⟨_, hcl, hcell⟩ := World.cells?_some hc1
      refine ⟨y, c, hK, hL, fun j u hu => ?_, hG⟩
      have hlt := (List.getElem?_eq_some_iff.1 hu).1
      have := hcell j (by omega)
      rw [Go.Deep.add_add, hc] at this
      rw [this, hu])
    refine ⟨ys, cells1 ?_ rfl, rfl, by omega, fun z hz => ?_⟩
    · by_cases hz : len = 0
      · have : ys = [] := List.eq_nil_of_length_eq_zero (by omega)
        subst this
        subst hz
        exact .slE _ _ _ _
      · have hget : ∀ (k : Nat) (x : V), (ys.map en)[k]? = some x → ∃ (y : α) (c : List Value), ys[k]? = some y ∧ cl x = f y ∧ CellsV W c (f y) ∧ c.length = sz ∧ (∀ j u, c[j]? = some u → W.cell? (a.add (k * sz + j)) = some u) := by
          intro k x hx
          rw [List.getElem?_map] at hx
          obtain ⟨y, hy1, rfl⟩ := Option.map_eq_some_iff.1 hx
          obtain ⟨c, c1, c2, c3, _⟩ := hy k y hy1
          exact ⟨y, c, hy1, hen y, c1, c2, c3⟩
        have hu : ∀ (k : Nat) (x : V), (ys.map en)[k]? = some x → ∀ (j : Nat) (y : V), (cl x)[j]? = some y → ∃ u, W.cell? (a.add (k * sz + j)) = some u ∧ RepG W (fun _ => False) (fun b => b < W.heap.size) u y ∧ u.oneCell' = true := by
          intro k x hx j y hj
          obtain ⟨y', c, h1, h2, h3, h4, h5⟩ := hget k x hx
          rw [h2] at hj
          have hjl := (List.getElem?_eq_some_iff.1 hj).1
          have hjc : j < c.length := by rw [h3.1]; exact hjl
          have hcu := List.getElem?_eq_getElem hjc
          obtain ⟨r1, r2⟩ := h3.2 j _ y hcu hj
          exact ⟨_, h5 j _ hcu, r1, r2⟩
        have hblk : a.block < W.heap.size := by
          have h1 : 0 < ys.length := by omega
          have h2 : (ys.map en)[0]? = some (en ys[0]) := by rw [List.getElem?_map, List.getElem?_eq_getElem h1]; rfl
          obtain ⟨y', c, _, _, _, h4, h5⟩ := hget 0 _ h2
          have h6 : 0 < c.length := by omega
          have h7 := h5 0 _ (List.getElem?_eq_getElem h6)
          have h8 := cell_lt h7
          have h9 : (a.add (0 * sz + 0)).block = a.block := by unfold Addr.add; split <;> rfl
          rwa [h9] at h8
        refine .sl a len cap false sz (ys.map en) (fun k j => (W.cell? (a.add (k * sz + j))).getD undef) (by simp; exact hyl) (by omega) (by simp only [maxLen]; omega) (by simpa using hblk) (fun k x hx => ?_) (fun k x hx j y hj => ?_) (fun k x hx j y hj => ?_) (fun h => by cases h) (fun k x hx j y hj => ?_)
        · obtain ⟨y', c, _, h2, h3, h4, _⟩ := hget k x hx
          rw [h2, ← h3.1, h4]
        all_goals
          obtain ⟨u, q1, q2, q3⟩ := hu k x hx j y hj
        · rw [q1]; rfl
        · rw [q1]; exact q3
        · rw [q1]; exact q2
    · obtain ⟨j, hj⟩ := List.getElem?_of_mem hz
      obtain ⟨_, _, _, _, hG⟩ := hy j z hj
      exact hG
theorem rep_one {u : Value} {v : V} (h : CellsV W [u] [v]) : (hereG W).Rep W u v := .g (h.2 0 u v rfl rfl).1
theorem here_hold (W : World) : Hold (hereG W) W (obs []) where
  ij := fun _ h => h.elim
  lt := fun _ h => h
  own := fun i => ⟨rfl, fun _ h => h⟩
  flt := fun _ _ h => h.elim
  fj := fun _ _ h => h.elim
  dis := fun _ _ _ h => h.elim
theorem law_calls {f : Nat} {As : List V} {b : Bool} (h : FnSpec P f As [] (.bool b) []) {args : Array Value} (hs : args.size = As.length) (hr : ∀ (k : Nat) (x : V), As[k]? = some x → (hereG W).Rep W (args.getD k undef) x) :
    Calls P f args W (fun e W' => e = .returned (.bool b) ∧ Below W.heap.size W W') := by
  refine (h (hereG W) W args (here_hold W) hs hr).mono fun e W' ⟨v, G', h1, h2, h3, h4⟩ => ?_
  have := Rep.inv_bool h3
  subst this
  exact ⟨h1, h4.os, h4.tape, h4.output, h4.sz, fun k hk => h4.blk k hk (fun _ h => h)⟩
end
end Go.Sy

