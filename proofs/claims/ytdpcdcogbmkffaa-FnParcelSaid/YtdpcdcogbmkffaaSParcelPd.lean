/- Parcels: what each function computes. -/
import Derived.Test.YtdpcdcogbmkffaaSParcelPc
set_option linter.unusedVariables false
set_option linter.unusedSimpArgs false
namespace Go.Sy
structure Prc where
  size : Int
  digest : ByteArray
  parts : List ByteArray
def partsN (n : Int) : Int := if inR n 0 1000 then (n + 15) / 16 else -1
def longI (n i : Int) : Int := min 16 (n - i * 16)
def okGo (n : Int) : Nat → List ByteArray → Bool
  | _, [] => true
  | k, x :: l => (x.size == 0 || ((x.size : Int) == longI n (k : Int))) && okGo n (k + 1) l
def prcOk (p : Prc) : Bool := inR p.size 0 1000 && (p.digest.size : Int) == 32 && (p.parts.length : Int) == partsN p.size && okGo p.size 0 p.parts
def lackGo : Nat → List ByteArray → List Int
  | _, [] => []
  | k, x :: l => if x.size = 0 then (k : Int) :: lackGo (k + 1) l else lackGo (k + 1) l
def lacksI (p : Prc) : List Int := if prcOk p then lackGo 0 p.parts else []
def wholeP (p : Prc) : ByteArray × Int :=
  if prcOk p = false then (⟨#[]⟩, 1) else if 0 < (lackGo 0 p.parts).length then (⟨#[]⟩, 2)
  else if (strOf (shaB (catS p.parts))).toList = p.digest.toList then (strOf (catS p.parts), 0) else (⟨#[]⟩, 3)
def SmallP (p : Prc) : Prop := p.digest.size ≤ 1048576 ∧ p.parts.length ≤ 1048576 ∧ (catS p.parts).length ≤ 1048576
theorem emp_iff {b : ByteArray} : b.toList = (⟨#[]⟩ : ByteArray).toList ↔ b.size = 0 := by
  rw [noBytes, ByteArray.toList_eq, ← List.length_eq_zero_iff, Array.length_toList]; rfl
theorem partsN_of {n : Int} (h : inR n 0 1000 = true) : 0 ≤ partsN n ∧ partsN n ≤ 63 ∧ partsN n = (n + 15) / 16 := by
  have := inR_iff.1 h
  unfold partsN; rw [if_pos h]; omega
theorem partsN_no {n : Int} (h : inR n 0 1000 = false) : partsN n = -1 := by unfold partsN; rw [h]; rfl
theorem prcOk_iff {p : Prc} : prcOk p = true ↔ inR p.size 0 1000 = true ∧ (p.digest.size : Int) = 32 ∧ (p.parts.length : Int) = partsN p.size ∧ okGo p.size 0 p.parts = true := by
  simp only [prcOk, Bool.and_eq_true, beq_iff_eq, and_assoc]
theorem prcOk_no {p : Prc} (h : ¬ (inR p.size 0 1000 = true ∧ (p.digest.size : Int) = 32 ∧ (p.parts.length : Int) = partsN p.size ∧ okGo p.size 0 p.parts = true)) : prcOk p = false := by
  cases q : prcOk p with
  | true => exact absurd (prcOk_iff.1 q) h
  | false => rfl
theorem okGo_step {n : Int} {k : Nat} {l : List ByteArray} {x : ByteArray} (hx : l[k]? = some x) (h : x.size = 0 ∨ (x.size : Int) = longI n (k : Int)) : okGo n k (l.drop k) = okGo n (k + 1) (l.drop (k + 1)) := by
  rw [dropCons hx, okGo]
  rcases h with h | h
  · simp [h]
  · simp [h]
theorem okGo_bad {n : Int} {k : Nat} {l : List ByteArray} {x : ByteArray} (hx : l[k]? = some x) (h : ¬ x.size = 0) (h2 : ¬ (x.size : Int) = longI n (k : Int)) : okGo n k (l.drop k) = false := by
  rw [dropCons hx, okGo]
  simp [h, h2]
theorem prc_bad {p : Prc} {k : Nat} (hR : okGo p.size 0 p.parts = okGo p.size k (p.parts.drop k)) (h : okGo p.size k (p.parts.drop k) = false) : prcOk p = false := prcOk_no (fun q => by rw [hR, h] at q; exact Bool.false_ne_true q.2.2.2)
theorem prc_good {p : Prc} {k : Nat} (hR : okGo p.size 0 p.parts = okGo p.size k (p.parts.drop k)) (h : p.parts.length ≤ k) (h1 : inR p.size 0 1000 = true) (h2 : (p.digest.size : Int) = 32) (h3 : (p.parts.length : Int) = partsN p.size) : prcOk p = true := by
  rw [prcOk_iff]
  refine ⟨h1, h2, h3, ?_⟩
  rw [hR, List.drop_of_length_le h]; rfl
theorem prc_nums {p : Prc} (h : prcOk p = true) : (0 ≤ p.size ∧ p.size ≤ 1000) ∧ p.digest.size = 32 ∧ p.parts.length ≤ 63 := by
  have q := prcOk_iff.1 h
  have := partsN_of q.1
  have := inR_iff.1 q.1
  omega
theorem okGo_cat : ∀ {n : Int} {k : Nat} {l : List ByteArray}, okGo n k l = true → (catS l).length ≤ 16 * l.length
  | _, _, [], _ => by simp [catS]
  | n, k, x :: l, h => by
    rw [okGo, Bool.and_eq_true] at h
    have ih := okGo_cat h.2
    have h1 : x.size ≤ 16 := by
      simp only [Bool.or_eq_true, beq_iff_eq] at h
      rcases h.1 with q | q
      · omega
      · unfold longI at q; omega
    rw [catS, List.length_append, Array.length_toList, List.length_cons]
    have e : x.data.size = x.size := rfl
    omega
theorem prc_cat {p : Prc} (h : prcOk p = true) : (catS p.parts).length ≤ 1008 := by
  have := okGo_cat (prcOk_iff.1 h).2.2.2
  have := prc_nums h
  omega
theorem lack_step0 {k : Nat} {l : List ByteArray} {x : ByteArray} {o F : List Int} (hR : F = o ++ lackGo k (l.drop k)) (hx : l[k]? = some x) (h : x.size = 0) : F = (o ++ [(k : Int)]) ++ lackGo (k + 1) (l.drop (k + 1)) := by
  rw [hR, dropCons hx, lackGo, if_pos h, List.append_assoc]; rfl
theorem lack_step1 {k : Nat} {l : List ByteArray} {x : ByteArray} {o F : List Int} (hR : F = o ++ lackGo k (l.drop k)) (hx : l[k]? = some x) (h : ¬ x.size = 0) : F = o ++ lackGo (k + 1) (l.drop (k + 1)) := by
  rw [hR, dropCons hx, lackGo, if_neg h]
theorem lack_end {k : Nat} {l : List ByteArray} {o F : List Int} (hR : F = o ++ lackGo k (l.drop k)) (hk : l.length ≤ k) : o = F := by
  rw [hR, List.drop_of_length_le hk]; simp [lackGo]
theorem lack_all {l : List ByteArray} : ∀ {k : Nat}, 0 < (lackGo k l).length ↔ ∃ x ∈ l, x.size = 0 := by
  induction l with
  | nil => intro k; simp [lackGo]
  | cons y l ih =>
    intro k
    rw [lackGo]
    split
    · rename_i h
      exact ⟨fun _ => ⟨y, List.mem_cons_self, h⟩, fun _ => by simp⟩
    · rename_i h
      rw [ih]
      constructor
      · rintro ⟨x, hx, h0⟩; exact ⟨x, List.mem_cons_of_mem _ hx, h0⟩
      · rintro ⟨x, hx, h0⟩
        rcases List.mem_cons.1 hx with rfl | hx
        · exact absurd h0 h
        · exact ⟨x, hx, h0⟩
theorem lack_none {k : Nat} {l : List ByteArray} (h : ∀ (i : Nat) x, l[i]? = some x → ¬ x.size = 0) : ¬ 0 < (lackGo k l).length := by
  rw [lack_all]
  rintro ⟨x, hx, h0⟩
  obtain ⟨i, hi⟩ := List.getElem?_of_mem hx
  exact h i x hi h0
theorem whole_1 {p : Prc} (h : prcOk p = false) : wholeP p = (⟨#[]⟩, 1) := by unfold wholeP; rw [if_pos h]
theorem whole_2 {p : Prc} (h : prcOk p = true) (h2 : 0 < (lackGo 0 p.parts).length) : wholeP p = (⟨#[]⟩, 2) := by unfold wholeP; rw [if_neg (by rw [h]; exact fun q => Bool.false_ne_true q.symm), if_pos h2]
theorem whole_3 {p : Prc} (h : prcOk p = true) (h2 : ¬ 0 < (lackGo 0 p.parts).length) (h3 : ¬ (strOf (shaB (catS p.parts))).toList = p.digest.toList) : wholeP p = (⟨#[]⟩, 3) := by unfold wholeP; rw [if_neg (by rw [h]; exact fun q => Bool.false_ne_true q.symm), if_neg h2, if_neg h3]
theorem whole_0 {p : Prc} (h : prcOk p = true) (h2 : ¬ 0 < (lackGo 0 p.parts).length) (h3 : (strOf (shaB (catS p.parts))).toList = p.digest.toList) : wholeP p = (strOf (catS p.parts), 0) := by unfold wholeP; rw [if_neg (by rw [h]; exact fun q => Bool.false_ne_true q.symm), if_neg h2, if_pos h3]
theorem strOf_data (b : ByteArray) : strOf b.data.toList = b := by cases b; simp [strOf]
theorem data_strOf (l : List UInt8) : (strOf l).data.toList = l := by simp [strOf]
end Go.Sy
namespace Go.Sy
end Go.Sy

