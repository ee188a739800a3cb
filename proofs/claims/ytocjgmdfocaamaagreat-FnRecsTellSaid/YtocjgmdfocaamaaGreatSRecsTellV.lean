/- Marks that are put into lists and looked for again; small words for sums. -/
import Derived.Test.YtocjgmdfocaamaaGreatSRecsTellRd
set_option linter.unusedVariables false
set_option linter.unusedSimpArgs false
namespace Go.Sy
section
variable {α : Type}
def marks (mk : α → Int → α) (nx : α → Int → Int) : List α → Int → List α
  | [], _ => []
  | a :: l, k => mk a k :: marks mk nx l (nx a k)
def ends (nx : α → Int → Int) : List α → Int → Int
  | [], k => k
  | a :: l, k => ends nx l (nx a k)
def MInv (mk : α → Int → α) (nx : α → Int → Int) (a : List α) (k : Int) (i : Nat) (kk : Int) (o : List α) : Prop :=
  i ≤ a.length ∧ o.length = a.length ∧ o.drop i = a.drop i ∧ marks mk nx a k = o.take i ++ marks mk nx (a.drop i) kk ∧ ends nx a k = ends nx (a.drop i) kk
variable {mk : α → Int → α} {nx : α → Int → Int} {a o : List α} {k kk : Int} {i : Nat}
theorem MInv.start : MInv mk nx a k 0 k a := ⟨by omega, rfl, rfl, by simp, by simp⟩
theorem MInv.get {e : α} (h : MInv mk nx a k i kk o) (he : o[i]? = some e) : a[i]? = some e := by
  have h1 : (o.drop i)[0]? = some e := by simpa using he
  rw [h.2.2.1] at h1
  simpa using h1
theorem MInv.step {e x : α} {k' : Int} (h : MInv mk nx a k i kk o) (he : o[i]? = some e) (hx : x = mk e kk) (hk : k' = nx e kk) : MInv mk nx a k (i + 1) k' (o.set i x) := by
  subst hx
  subst hk
  have hi := (List.getElem?_eq_some_iff.1 he).1
  have hd := dropCons (h.get he)
  obtain ⟨h1, h2, h3, h4, h5⟩ := h
  have h3' : o.drop (i + 1) = a.drop (i + 1) := by
    have := congrArg (List.drop 1) h3
    simpa [List.drop_drop, Nat.add_comm] using this
  refine ⟨by omega, by simpa using h2, ?_, ?_, ?_⟩
  · rw [List.drop_set_of_lt (by omega)]
    exact h3'
  · rw [h4, hd, marks]
    have e2 : (o.set i (mk e kk)).take (i + 1) = o.take i ++ [mk e kk] := by
      rw [List.take_set, List.take_succ_eq_append_getElem hi, List.set_append, if_neg (by rw [List.length_take]; omega)]
      simp [Nat.min_eq_left (Nat.le_of_lt hi)]
    rw [e2]
    simp
  · rw [h5, hd, ends]
theorem MInv.done (h : MInv mk nx a k i kk o) (hi : ¬ (i : Int) < a.length) : o = marks mk nx a k ∧ kk = ends nx a k := by
  obtain ⟨h1, h2, h3, h4, h5⟩ := h
  rw [List.drop_of_length_le (by omega)] at h4 h5
  refine ⟨?_, h5.symm⟩
  rw [h4, List.take_of_length_le (by omega)]
  simp [marks]
theorem ends_ge (hn : ∀ e k, k ≤ nx e k) : ∀ (l : List α) (k : Int), k ≤ ends nx l k
  | [], k => Int.le_refl k
  | e :: l, k => Int.le_trans (hn e k) (ends_ge hn l _)
theorem MInv.le {e : α} (hn : ∀ e k, k ≤ nx e k) (h : MInv mk nx a k i kk o) (he : o[i]? = some e) : nx e kk ≤ ends nx a k := by
  have hd := dropCons (h.get he)
  rw [h.2.2.2.2, hd, ends]
  exact ends_ge hn _ _
end
theorem setGet {α : Type} {l : List α} {i : Nat} {e x : α} (h : l[i]? = some e) : (l.set i x)[i]? = some x := by
  have := (List.getElem?_eq_some_iff.1 h).1
  rw [List.getElem?_set, if_pos rfl, if_pos this]
theorem setV {α : Type} {f : α → V} {l : List α} {i : Nat} {y : α} : (l.set i y).map f = (l.map f).set i (f y) := List.map_set
theorem strOf_size (l : List UInt8) : (strOf l).size = l.length := by
  show l.toArray.size = _
  simp
theorem leadR_of (r : Raft) : (leadR r).of_ = r.of_ := by unfold leadR; split <;> rfl
theorem fieldsL_small (k : Int) : (fieldsL k).size ≤ 1048576 := by
  unfold fieldsL
  (repeat' split) <;> decide
theorem listEq_nil {α : Type} {f : α → α → Bool} (l : List α) : listEq f l [] = ((l.length : Int) == 0) := by
  cases l with
  | nil => rfl
  | cons a l => simp [listEq]; omega
theorem size0 (s : ByteArray) : (s.toList == (⟨#[]⟩ : ByteArray).toList) = ((s.size : Int) == 0) := by
  have : s.toList.length = s.size := by rw [ByteArray.toList_eq]; simp
  rw [noBytes, Bool.eq_iff_iff, beq_iff_eq, beq_iff_eq, ← List.length_eq_zero_iff, this]
  omega
theorem b0 (s : ByteArray) : (s.toList == []) = ((s.size : Int) == 0) := by
  rw [← noBytes]; exact size0 s
theorem b1 (s : ByteArray) : s.toList.isEmpty = ((s.size : Int) == 0) := by
  rw [← b0]; cases s.toList <;> rfl
theorem fits_run (m : Msg) : msgFits m = (!((fieldsL m.kind).toList == []) && runTake m.kind (fieldsL m.kind).data.toList m) := by
  by_cases h : inR m.kind 1 7 = true
  · have h' := inR_iff.1 h
    have h7 : m.kind = 1 ∨ m.kind = 2 ∨ m.kind = 3 ∨ m.kind = 4 ∨ m.kind = 5 ∨ m.kind = 6 ∨ m.kind = 7 := by omega
    have hz : (m.entries.length : Int) = 0 ↔ m.entries = [] := by simp
    have cr : cmdEq zCmd zCmd = true := by simp [cmdEq]
    have cz : cmdEq m.cmd zCmd = cmdEq m.cmd ⟨0, 0, 0, 0, ⟨#[]⟩⟩ := rfl
    rcases h7 with h | h | h | h | h | h | h <;> simp only [msgFits, fits1, fits2, fits3, hasF, h]
    · rw [ByteArray.toList_eq, ByteArray.toList_eq, show (l8F 1).data.toList = [102, 116, 97, 115] from rfl, show (fieldsL 1).data.toList = [102, 116, 97, 120] from rfl]
      simp [hasU, runTake, takeOk, takeM, msgEq, zMsg, num8, listEq_nil, b1, h]
      grind [entsFit, zCmd, entsOk, listEq, inR]
    · rw [ByteArray.toList_eq, ByteArray.toList_eq, show (l8F 2).data.toList = [102, 116, 121] from rfl, show (fieldsL 2).data.toList = [102, 116, 121] from rfl]
      simp [hasU, runTake, takeOk, takeM, msgEq, zMsg, num8, listEq_nil, b1, h]
      grind [entsFit, zCmd, entsOk, listEq, inR]
    · rw [ByteArray.toList_eq, ByteArray.toList_eq, show (l8F 3).data.toList = [102, 116, 97, 115, 99, 101] from rfl, show (fieldsL 3).data.toList = [102, 116, 97, 120, 99, 101] from rfl]
      simp [hasU, runTake, takeOk, takeM, msgEq, zMsg, num8, listEq_nil, b1, h]
      grind [entsFit, zCmd, entsOk, listEq, inR]
    · rw [ByteArray.toList_eq, ByteArray.toList_eq, show (l8F 4).data.toList = [102, 116, 121, 97] from rfl, show (fieldsL 4).data.toList = [102, 116, 121, 97] from rfl]
      simp [hasU, runTake, takeOk, takeM, msgEq, zMsg, num8, listEq_nil, b1, h]
      grind [entsFit, zCmd, entsOk, listEq, inR]
    · rw [ByteArray.toList_eq, ByteArray.toList_eq, show (l8F 5).data.toList = [102, 114, 112] from rfl, show (fieldsL 5).data.toList = [102, 114, 112] from rfl]
      simp [hasU, runTake, takeOk, takeM, msgEq, zMsg, num8, listEq_nil, b1, h]
      grind [entsFit, zCmd, entsOk, listEq, inR]
    · rw [ByteArray.toList_eq, ByteArray.toList_eq, show (l8F 6).data.toList = [102, 114, 112, 98] from rfl, show (fieldsL 6).data.toList = [102, 114, 112, 98] from rfl]
      simp [hasU, runTake, takeOk, takeM, msgEq, zMsg, num8, listEq_nil, b1, h]
      grind [entsFit, zCmd, entsOk, listEq, inR]
    · rw [ByteArray.toList_eq, ByteArray.toList_eq, show (l8F 7).data.toList = [102, 100] from rfl, show (fieldsL 7).data.toList = [102, 100] from rfl]
      simp [hasU, runTake, takeOk, takeM, msgEq, zMsg, num8, listEq_nil, b1, h]
      grind [entsFit, zCmd, entsOk, listEq, inR]
  · have e : (fieldsL m.kind) = ⟨#[]⟩ := by
      have := inR_not.1 (Bool.eq_false_iff.2 h)
      unfold fieldsL
      (repeat' split) <;> first | rfl | omega
    have e2 : (l8F m.kind) = ⟨#[]⟩ := by unfold l8F; rw [if_neg h]
    simp [msgFits, fits1, e, e2, noBytes]
end Go.Sy

