/- Marks that are put into lists and looked for again; small words for sums. -/
import Derived.Test.YtdpcdcogbmkffaaSParcelRd
set_option linter.unusedVariables false
set_option linter.unusedSimpArgs false
namespace Go.Sy
section
variable {α : Type}
def marks (mk : α → Int → α) (nx : α → Int → Int) : List α → Int → List α
  | [], _ => []
  | a :: l, k => mk a k :: marks mk nx l (nx a k)
def ends (nx : α → Int → Int) : List α → Int → Int
  | [], k => k
  | a :: l, k => ends nx l (nx a k)
def MInv (mk : α → Int → α) (nx : α → Int → Int) (a : List α) (k : Int) (i : Nat) (kk : Int) (o : List α) : Prop :=
  i ≤ a.length ∧ o.length = a.length ∧ o.drop i = a.drop i ∧ marks mk nx a k = o.take i ++ marks mk nx (a.drop i) kk ∧ ends nx a k = ends nx (a.drop i) kk
variable {mk : α → Int → α} {nx : α → Int → Int} {a o : List α} {k kk : Int} {i : Nat}
theorem MInv.start : MInv mk nx a k 0 k a := ⟨by omega, rfl, rfl, by simp, by simp⟩
theorem MInv.get {e : α} (h : MInv mk nx a k i kk o) (he : o[i]? = some e) : a[i]? = some e := by
  have h1 : (o.drop i)[0]? = some e := by simpa using he
  rw [h.2.2.1] at h1
  simpa using h1
theorem MInv.step {e x : α} {k' : Int} (h : MInv mk nx a k i kk o) (he : o[i]? = some e) (hx : x = mk e kk) (hk : k' = nx e kk) : MInv mk nx a k (i + 1) k' (o.set i x) := by
  subst hx
  subst hk
  have hi := (List.getElem?_eq_some_iff.1 he).1
  have hd := dropCons (h.get he)
  obtain ⟨h1, h2, h3, h4, h5⟩ := h
  have h3' : o.drop (i + 1) = a.drop (i + 1) := by
    have := congrArg (List.drop 1) h3
    simpa [List.drop_drop, Nat.add_comm] using this
  refine ⟨by omega, by simpa using h2, ?_, ?_, ?_⟩
  · rw [List.drop_set_of_lt (by omega)]
    exact h3'
  · rw [h4, hd, marks]
    have e2 : (o.set i (mk e kk)).take (i + 1) = o.take i ++ [mk e kk] := by
      rw [List.take_set, List.take_succ_eq_append_getElem hi, List.set_append, if_neg (by rw [List.length_take]; omega)]
      simp [Nat.min_eq_left (Nat.le_of_lt hi)]
    rw [e2]
    simp
  · rw [h5, hd, ends]
theorem MInv.done (h : MInv mk nx a k i kk o) (hi : ¬ (i : Int) < a.length) : o = marks mk nx a k ∧ kk = ends nx a k := by
  obtain ⟨h1, h2, h3, h4, h5⟩ := h
  rw [List.drop_of_length_le (by omega)] at h4 h5
  refine ⟨?_, h5.symm⟩
  rw [h4, List.take_of_length_le (by omega)]
  simp [marks]
theorem ends_ge (hn : ∀ e k, k ≤ nx e k) : ∀ (l : List α) (k : Int), k ≤ ends nx l k
  | [], k => Int.le_refl k
  | e :: l, k => Int.le_trans (hn e k) (ends_ge hn l _)
theorem MInv.le {e : α} (hn : ∀ e k, k ≤ nx e k) (h : MInv mk nx a k i kk o) (he : o[i]? = some e) : nx e kk ≤ ends nx a k := by
  have hd := dropCons (h.get he)
  rw [h.2.2.2.2, hd, ends]
  exact ends_ge hn _ _
end
theorem setV {α : Type} {f : α → V} {l : List α} {i : Nat} {y : α} : (l.set i y).map f = (l.map f).set i (f y) := List.map_set
theorem strOf_size (l : List UInt8) : (strOf l).size = l.length := by
  show l.toArray.size = _
  simp
theorem cat_size (a b : ByteArray) : (a ++ b).size = a.size + b.size := by simp
end Go.Sy

