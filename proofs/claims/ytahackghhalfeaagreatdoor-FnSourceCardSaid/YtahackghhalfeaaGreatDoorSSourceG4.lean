/- The program logic with symbolic states that this claim stands on (a text of several, laid together). -/
import Derived.Test.YtahackghhalfeaaGreatDoorSSourceG3
import Derived.WalkKit
import Derived.Lib.AppendIntMem
import Derived.Lib.AtoiErrMem
import Derived.Lib.ItoaLen
import Derived.Lib.AtoiAllCases
import Derived.Lib.IndexMore
import Derived.Lib.Strings
import Derived.Lib.Join
import Derived.Lib.Split
import Derived.Lib.SplitLaws
section
set_option linter.unusedVariables false
set_option linter.unusedSimpArgs false
namespace Go.Sy
open Go.RowKit
def rdN (s : List UInt8) (most : Int) : Int × Bool := match Lib.atoiAll s with
  | .ok n => if Lib.itoa n = s ∧ ((Lib.trimPrefix s [45]).length : Int) ≤ most then (n, true) else (0, false)
  | _ => (0, false)
def onOk (o : On) : Bool :=
  if o.kind = 1 then inR o.day 1 31 && o.week == 0 else if o.kind = 2 then o.day == 0 && inR o.week 0 6 else if o.kind = 3 then inR o.day 1 31 && inR o.week 0 6 else false
def txO (o : On) : List UInt8 :=
  if onOk o = false then [] else if o.kind = 1 then Lib.itoa o.day else if o.kind = 2 then [108, 97, 115, 116] ++ Lib.itoa o.week else (Lib.itoa o.week ++ [62, 61]) ++ Lib.itoa o.day
def zOn : On := ⟨0, 0, 0⟩
def onO (s : List UInt8) : On :=
  if Lib.hasPrefix s [108, 97, 115, 116] = true then ⟨2, 0, (rdN (Lib.trimPrefix s [108, 97, 115, 116]) 2).1⟩
  else if (Lib.cut s [62, 61]).2.2 = true then ⟨3, (rdN (Lib.cut s [62, 61]).2.1 2).1, (rdN (Lib.cut s [62, 61]).1 2).1⟩
  else ⟨1, (rdN s 2).1, 0⟩
def onRI (s : List UInt8) : On × Bool := if s = [] ∨ ¬ txO (onO s) = s then (zOn, false) else (onO s, true)
def dgo : Int → List UInt8 → Option Int
  | x, [] => some x
  | x, c :: l => if (c.toNat : Int) < 48 ∨ (c.toNat : Int) > 57 then none else dgo (10 * x + (c.toNat : Int) - 48) l
def minus (s : List UInt8) : Nat := match s with
  | c :: _ => if c = 45 then 1 else 0
  | [] => 0
def rd4 (s : List UInt8) : Int × Bool :=
  if inR ((s.length : Int) - (minus s : Int)) 1 4 = true then
    match dgo 0 (s.drop (minus s)) with
    | none => (0, false)
    | some x => if Lib.itoa (if minus s = 1 then 0 - x else x) = s then ((if minus s = 1 then 0 - x else x), true) else (0, false)
  else (0, false)
def rawS (s : List UInt8) : On × Bool :=
  if 4 < s.length ∧ s.take 4 = [108, 97, 115, 116] then (⟨2, 0, (rd4 (s.drop 4)).1⟩, (rd4 (s.drop 4)).2)
  else if 3 < s.length ∧ (s.drop 1).take 2 = [62, 61] then (⟨3, (rd4 (s.drop 3)).1, (rd4 (s.take 1)).1⟩, (rd4 (s.take 1)).2 && (rd4 (s.drop 3)).2)
  else (⟨1, (rd4 s).1, 0⟩, (rd4 s).2)
def onRS (s : List UInt8) : On × Bool := if (rawS s).2 = true ∧ onOk (rawS s).1 = true then ((rawS s).1, true) else (zOn, false)
def Vd (s : List UInt8) (o : On) : Prop := onOk o = true ∧ txO o = s
theorem itoa_in {s : List UInt8} {m : Int} (h : (rdN s m).2 = true) : Lib.itoa (rdN s m).1 = s := by
  unfold rdN at h ⊢
  split
  · rename_i n hn
    rw [hn] at h
    dsimp only at h ⊢
    split at h
    · rename_i q; rw [if_pos q]; exact q.1
    · simp at h
  · rename_i hn
    split at h
    · rename_i n hn2; exact absurd hn2 (hn n)
    · simp at h
theorem itoa_rd4 {s : List UInt8} (h : (rd4 s).2 = true) : Lib.itoa (rd4 s).1 = s := by
  unfold rd4 at h ⊢
  split at h
  · rename_i q
    rw [if_pos q]
    split at h
    · simp at h
    · rename_i x hx
      by_cases q2 : Lib.itoa (if minus s = 1 then 0 - x else x) = s
      · rw [if_pos q2]; exact q2
      · rw [if_neg q2] at h; simp at h
  · simp at h
theorem read_i {s : List UInt8} (h : (onRI s).2 = true) : Vd s (onRI s).1 := by
  unfold onRI at h ⊢
  split at h
  · simp at h
  · rename_i q
    rw [if_neg q]
    rw [not_or, Classical.not_not] at q
    refine ⟨?_, q.2⟩
    cases hk : onOk (onO s) with
    | true => rfl
    | false =>
      have := q.2
      unfold txO at this
      rw [if_pos hk] at this
      exact absurd this.symm q.1
theorem read_s {s : List UInt8} (h : (onRS s).2 = true) : Vd s (onRS s).1 := by
  unfold onRS at h ⊢
  split at h
  case isFalse => simp at h
  rename_i q
  rw [if_pos q]
  refine ⟨q.2, ?_⟩
  obtain ⟨q1, q2⟩ := q
  unfold txO
  rw [if_neg (by rw [q2]; decide)]
  unfold rawS at q1 q2 ⊢
  by_cases c1 : 4 < s.length ∧ s.take 4 = [108, 97, 115, 116]
  · rw [if_pos c1] at q1 ⊢
    dsimp only at q1 ⊢
    rw [if_neg (by decide), if_pos rfl, itoa_rd4 q1, ← c1.2, List.take_append_drop]
  rw [if_neg c1] at q1 ⊢
  by_cases c2 : 3 < s.length ∧ (s.drop 1).take 2 = [62, 61]
  · rw [if_pos c2] at q1 ⊢
    dsimp only at q1 ⊢
    rw [Bool.and_eq_true] at q1
    rw [if_neg (by decide), if_neg (by decide), itoa_rd4 q1.1, itoa_rd4 q1.2, ← c2.2, List.append_assoc, show s.drop 3 = (s.drop 1).drop 2 by rw [List.drop_drop], List.take_append_drop, List.take_append_drop]
  rw [if_neg c2] at q1 ⊢
  dsimp only at q1 ⊢
  rw [if_pos rfl, itoa_rd4 q1]
theorem onOk_nums {o : On} (h : onOk o = true) : (0 ≤ o.day ∧ o.day ≤ 31) ∧ 0 ≤ o.week ∧ o.week ≤ 6 := by
  unfold onOk at h
  split at h
  · simp only [Bool.and_eq_true, inR_iff, beq_iff_eq] at h; omega
  · split at h
    · simp only [Bool.and_eq_true, inR_iff, beq_iff_eq] at h; omega
    · split at h
      · simp only [Bool.and_eq_true, inR_iff] at h; omega
      · simp at h
theorem app_str (a b : List UInt8) : strOf a ++ strOf b = strOf (a ++ b) := by
  apply ByteArray.ext
  rw [ByteArray.data_append]
  simp [strOf]
theorem tx_0 {o : On} (h : onOk o = false) : txO o = [] := by unfold txO; rw [if_pos h]
theorem tx_no {o : On} (h : onOk o = false) : (⟨#[]⟩ : ByteArray) = strOf (txO o) := by rw [tx_0 h]; rfl
theorem tx_1 {o : On} (h : onOk o = true) (h1 : o.kind = 1) : strOf (Lib.itoa o.day) = strOf (txO o) := by
  unfold txO; rw [if_neg (by rw [h]; decide), if_pos h1]
theorem tx_2 {o : On} (h : onOk o = true) (h1 : ¬ o.kind = 1) (h2 : o.kind = 2) : (⟨#[108, 97, 115, 116]⟩ : ByteArray) ++ strOf (Lib.itoa o.week) = strOf (txO o) := by
  unfold txO; rw [if_neg (by rw [h]; decide), if_neg h1, if_pos h2, ← app_str]; rfl
theorem tx_3 {o : On} (h : onOk o = true) (h1 : ¬ o.kind = 1) (h2 : ¬ o.kind = 2) : (strOf (Lib.itoa o.week) ++ (⟨#[62, 61]⟩ : ByteArray)) ++ strOf (Lib.itoa o.day) = strOf (txO o) := by
  unfold txO; rw [if_neg (by rw [h]; decide), if_neg h1, if_neg h2, ← app_str, ← app_str]; rfl
theorem rdN_bd (s : List UInt8) (m : Int) : -9223372036854775808 ≤ (rdN s m).1 ∧ (rdN s m).1 ≤ 9223372036854775807 := by
  unfold rdN
  cases h : Lib.atoiAll s with
  | ok n =>
    dsimp only
    obtain ⟨b0, b1⟩ := Lib.atoiAll_bounds h
    split
    · dsimp only; omega
    · simp
  | _ => simp
theorem cut_le (s : List UInt8) : (Lib.cut s [62, 61]).1.length ≤ s.length ∧ (Lib.cut s [62, 61]).2.1.length ≤ s.length := by
  unfold Lib.cut
  split
  · simp; omega
  · simp
theorem trim_le (s p : List UInt8) : (Lib.trimPrefix s p).length ≤ s.length := by
  unfold Lib.trimPrefix
  split <;> simp
theorem onO_1 {l : List UInt8} (h : Lib.hasPrefix l [108, 97, 115, 116] = true) : onO l = ⟨2, 0, (rdN (Lib.trimPrefix l [108, 97, 115, 116]) 2).1⟩ := by unfold onO; rw [if_pos h]
theorem onO_2 {l : List UInt8} (h : Lib.hasPrefix l [108, 97, 115, 116] = false) (h2 : (Lib.cut l [62, 61]).2.2 = true) : onO l = ⟨3, (rdN (Lib.cut l [62, 61]).2.1 2).1, (rdN (Lib.cut l [62, 61]).1 2).1⟩ := by
  unfold onO; rw [if_neg (by rw [h]; decide), if_pos h2]
theorem onO_3 {l : List UInt8} (h : Lib.hasPrefix l [108, 97, 115, 116] = false) (h2 : (Lib.cut l [62, 61]).2.2 = false) : onO l = ⟨1, (rdN l 2).1, 0⟩ := by
  unfold onO; rw [if_neg (by rw [h]; decide), if_neg (by rw [h2]; decide)]
theorem ri_1 {s : ByteArray} (h : s.toList = (⟨#[]⟩ : ByteArray).toList) : onRI s.data.toList = (zOn, false) := by
  have e : s.data.toList = [] := by rw [noBytes, ByteArray.toList_eq] at h; exact h
  unfold onRI; rw [if_pos (.inl e)]
theorem ri_2 {s : ByteArray} {o : On} (h0 : ¬ s.toList = (⟨#[]⟩ : ByteArray).toList) (ho : onO s.data.toList = o) (h : ¬ (strOf (txO o)).toList = s.toList) : onRI s.data.toList = (zOn, false) := by
  unfold onRI
  rw [ByteArray.toList_eq, ByteArray.toList_eq] at h
  rw [ho]
  exact if_pos (.inr h)
theorem ri_3 {s : ByteArray} {o : On} (h0 : ¬ s.toList = (⟨#[]⟩ : ByteArray).toList) (ho : onO s.data.toList = o) (h : (strOf (txO o)).toList = s.toList) : onRI s.data.toList = (o, true) := by
  unfold onRI
  rw [ByteArray.toList_eq, ByteArray.toList_eq] at h
  rw [noBytes, ByteArray.toList_eq] at h0
  rw [ho, if_neg]
  rw [not_or, Classical.not_not]
  exact ⟨h0, h⟩
theorem num_neg {x : Int} (h : x < 0) : (⟨#[45]⟩ : ByteArray) ++ strOf (Lib.itoa (0 - x)) = strOf (Lib.itoa x) := by
  have e : Lib.itoa x = [45] ++ Lib.itoa (0 - x) := by
    unfold Lib.itoa
    rw [if_pos h, if_neg (by omega), show (0 - x).toNat = x.natAbs by omega]; rfl
  rw [e, ← app_str]; rfl
theorem u8_dig {n : Nat} (h : n < 256) : u8Of (n : Int) = UInt8.ofNat n := by unfold u8Of; congr 1; omega
theorem num_one {x : Int} (h0 : ¬ x < 0) (h : x < 10) : strOf [u8Of (48 + x)] = strOf (Lib.itoa x) := by
  congr 1
  unfold Lib.itoa
  rw [if_neg h0, Lib.decDigits_one (by omega), ← u8_dig (by omega)]
  congr 2; omega
theorem num_big {x : Int} (h0 : ¬ x < 0) (h : ¬ x < 10) : strOf (Lib.itoa (x / 10)) ++ strOf [u8Of (48 + (x % 10))] = strOf (Lib.itoa x) := by
  rw [app_str]
  congr 1
  unfold Lib.itoa
  rw [if_neg h0, if_neg (by omega)]
  conv => rhs; rw [Lib.decDigits, dif_neg (show ¬ x.toNat < 10 by omega)]
  rw [show (x / 10).toNat = x.toNat / 10 by omega, ← u8_dig (show 48 + x.toNat % 10 < 256 by omega)]
  congr 3; omega
theorem strGet {s : ByteArray} {k : Nat} {e : UInt8} (h : s.data[k]? = some e) : s.data.toList[k]? = some e := by simpa using h
theorem minus_1 {l : List UInt8} {e : UInt8} (h : l[0]? = some e) (h1 : (e.toNat : Int) = 45) : minus l = 1 := by
  cases l with
  | nil => simp at h
  | cons c r =>
    simp at h; subst h
    have : c = 45 := UInt8.toNat_inj.1 (by show c.toNat = 45; omega)
    show (if c = 45 then 1 else 0) = 1; rw [if_pos this]
theorem minus_0 {l : List UInt8} {e : UInt8} (h : l[0]? = some e) (h1 : ¬ (e.toNat : Int) = 45) : minus l = 0 := by
  cases l with
  | nil => simp at h
  | cons c r =>
    simp at h; subst h
    have : ¬ c = 45 := fun q => h1 (by rw [q]; rfl)
    show (if c = 45 then 1 else 0) = 0; rw [if_neg this]
theorem minus_n {s : ByteArray} (h : ¬ (s.size : Int) > 0) : minus s.data.toList = 0 := by
  have : s.data.toList = [] := by
    apply List.length_eq_zero_iff.1
    rw [Array.length_toList]; have : s.data.size = s.size := rfl; omega
  rw [this]; rfl
theorem dgo_step {l : List UInt8} {k : Nat} {e : UInt8} {x : Int} (h : l[k]? = some e) (h1 : ¬ ((e.toNat : Int) < 48 ∨ (e.toNat : Int) > 57)) : dgo x (l.drop k) = dgo (10 * x + (e.toNat : Int) - 48) (l.drop (k + 1)) := by
  rw [dropCons h, dgo, if_neg h1]
theorem dgo_bad {l : List UInt8} {k : Nat} {e : UInt8} {x : Int} (h : l[k]? = some e) (h1 : (e.toNat : Int) < 48 ∨ (e.toNat : Int) > 57) : dgo x (l.drop k) = none := by
  rw [dropCons h, dgo, if_pos h1]
theorem dgo_end {l : List UInt8} {k : Nat} {x : Int} (h : l.length ≤ k) : dgo x (l.drop k) = some x := by
  rw [List.drop_of_length_le h]; rfl
theorem pow_four {i : Nat} (h : i ≤ 4) : (1 : Int) ≤ 10 ^ i ∧ (10 : Int) ^ i ≤ 10000 := by
  have : i = 0 ∨ i = 1 ∨ i = 2 ∨ i = 3 ∨ i = 4 := by omega
  rcases this with rfl | rfl | rfl | rfl | rfl <;> decide
theorem rd4_no {s : ByteArray} {m : Nat} (hm : minus s.data.toList = m) (h : inR ((s.size : Int) - (m : Int)) 1 4 = false) : rd4 s.data.toList = (0, false) := by
  unfold rd4
  rw [hm, Array.length_toList, if_neg (by have e : s.data.size = s.size := rfl; rw [e, h]; decide)]
theorem rd4_bad {s : ByteArray} {m : Nat} (hm : minus s.data.toList = m) (h : inR ((s.size : Int) - (m : Int)) 1 4 = true) (hd : dgo 0 (s.data.toList.drop m) = none) : rd4 s.data.toList = (0, false) := by
  unfold rd4
  rw [hm, Array.length_toList, if_pos (by have e : s.data.size = s.size := rfl; rw [e, h]), hd]
theorem rd4_val {s : ByteArray} {m : Nat} {x y : Int} (hm : minus s.data.toList = m) (h : inR ((s.size : Int) - (m : Int)) 1 4 = true) (hd : dgo 0 (s.data.toList.drop m) = some x) (hy : (if m = 1 then 0 - x else x) = y) :
    rd4 s.data.toList = if Lib.itoa y = s.data.toList then (y, true) else (0, false) := by
  unfold rd4
  rw [hm, Array.length_toList, if_pos (by have e : s.data.size = s.size := rfl; rw [e, h]), hd]
  dsimp only
  rw [hy]
theorem rd4_ok {s : ByteArray} {m : Nat} {x y : Int} (hm : minus s.data.toList = m) (h : inR ((s.size : Int) - (m : Int)) 1 4 = true) (hd : dgo 0 (s.data.toList.drop m) = some x) (hy : (if m = 1 then 0 - x else x) = y) (hq : (strOf (Lib.itoa y)).toList = s.toList) : rd4 s.data.toList = (y, true) := by
  rw [rd4_val hm h hd hy, if_pos]
  rw [ByteArray.toList_eq, ByteArray.toList_eq] at hq
  exact hq
theorem rd4_ne {s : ByteArray} {m : Nat} {x y : Int} (hm : minus s.data.toList = m) (h : inR ((s.size : Int) - (m : Int)) 1 4 = true) (hd : dgo 0 (s.data.toList.drop m) = some x) (hy : (if m = 1 then 0 - x else x) = y) (hq : ¬ (strOf (Lib.itoa y)).toList = s.toList) : rd4 s.data.toList = (0, false) := by
  rw [rd4_val hm h hd hy, if_neg]
  rw [ByteArray.toList_eq, ByteArray.toList_eq] at hq
  exact hq
theorem ext_to {s : ByteArray} {a : Nat} : (s.extract a s.size).data.toList = s.data.toList.drop a := by
  rw [extract_strOf, data_strOf]
  apply List.take_of_length_le
  rw [List.length_drop, Array.length_toList]; exact Nat.le_refl _
theorem ext_in {s : ByteArray} {a b : Nat} : (s.extract a b).data.toList = (s.data.toList.drop a).take (b - a) := by rw [extract_strOf, data_strOf]
def dg (n : Nat) : List UInt8 := if n < 10 then [UInt8.ofNat (48 + n)] else [UInt8.ofNat (48 + n / 10), UInt8.ofNat (48 + n % 10)]
theorem itoa_dg {n : Nat} (h : n < 100) : Lib.itoa (n : Int) = dg n := by
  unfold Lib.itoa dg
  rw [if_neg (by omega), Int.toNat_natCast]
  by_cases q : n < 10
  · rw [if_pos q, Lib.decDigits_one q]
  · rw [if_neg q, Lib.decDigits_two (by omega) (by omega)]
theorem atoi_dg : ∀ n, n < 32 → Lib.atoiAll (dg n) = .ok (n : Int) := by
  decide
theorem trim_dg : ∀ n, n < 32 → (Lib.trimPrefix (dg n) [45]).length ≤ 2 := by decide
theorem rdN_dg {n : Nat} (h : n < 32) : rdN (dg n) 2 = ((n : Int), true) := by
  unfold rdN
  rw [atoi_dg n h]
  dsimp only
  rw [if_pos ⟨itoa_dg (by omega), by have := trim_dg n h; omega⟩]
theorem rd4_pre : ∀ n, n < 32 → inR (((dg n).length : Int) - (minus (dg n) : Int)) 1 4 = true ∧ dgo 0 ((dg n).drop (minus (dg n))) = some (n : Int) ∧ ¬ minus (dg n) = 1 := by decide
theorem rd4_dg {n : Nat} (h : n < 32) : rd4 (dg n) = ((n : Int), true) := by
  obtain ⟨h1, h2, h3⟩ := rd4_pre n h
  unfold rd4
  rw [if_pos h1, h2]
  dsimp only
  rw [if_neg h3, if_pos (itoa_dg (by omega))]
theorem pre_dg : ∀ n, n < 32 → Lib.hasPrefix (dg n) [108, 97, 115, 116] = false ∧ (Lib.cut (dg n) [62, 61]).2.2 = false ∧ ¬ (4 < (dg n).length ∧ (dg n).take 4 = [108, 97, 115, 116]) ∧ ¬ (3 < (dg n).length ∧ ((dg n).drop 1).take 2 = [62, 61]) ∧ ¬ dg n = [] := by decide
theorem pre_last : ∀ n, n < 7 → Lib.hasPrefix ([108, 97, 115, 116] ++ dg n) [108, 97, 115, 116] = true ∧ Lib.trimPrefix ([108, 97, 115, 116] ++ dg n) [108, 97, 115, 116] = dg n ∧ (4 < ([108, 97, 115, 116] ++ dg n).length ∧ ([108, 97, 115, 116] ++ dg n).take 4 = [108, 97, 115, 116]) ∧ ([108, 97, 115, 116] ++ dg n).drop 4 = dg n := by decide
def AfterP (w d : Nat) : Prop := Lib.hasPrefix ((dg w ++ [62, 61]) ++ dg d) [108, 97, 115, 116] = false ∧ Lib.cut ((dg w ++ [62, 61]) ++ dg d) [62, 61] = (dg w, dg d, true) ∧ ¬ (4 < ((dg w ++ [62, 61]) ++ dg d).length ∧ ((dg w ++ [62, 61]) ++ dg d).take 4 = [108, 97, 115, 116]) ∧ (3 < ((dg w ++ [62, 61]) ++ dg d).length ∧ (((dg w ++ [62, 61]) ++ dg d).drop 1).take 2 = [62, 61]) ∧ ((dg w ++ [62, 61]) ++ dg d).drop 3 = dg d ∧ ((dg w ++ [62, 61]) ++ dg d).take 1 = dg w
instance (w d : Nat) : Decidable (AfterP w d) := by unfold AfterP; infer_instance
theorem pre_after : ∀ w, w < 7 → ∀ d, d < 32 → AfterP w d := by decide
theorem tx_ne {s : List UInt8} {o : On} (h : Vd s o) : ¬ s = [] := by
  obtain ⟨h1, h2⟩ := h
  rw [← h2]
  have hb := onOk_nums h1
  unfold txO
  rw [if_neg (by rw [h1]; decide)]
  obtain ⟨k, d, w⟩ := o
  dsimp only at hb ⊢
  have ed : (d : Int) = (d.toNat : Int) := by omega
  have ew : (w : Int) = (w.toNat : Int) := by omega
  split
  · rw [ed, itoa_dg (by omega)]; exact (pre_dg _ (by omega)).2.2.2.2
  · split <;> simp
theorem both {s : List UInt8} {o : On} (h : Vd s o) : onO s = o ∧ rawS s = (o, true) := by
  obtain ⟨h1, h2⟩ := h
  have hb := onOk_nums h1
  unfold txO at h2
  rw [if_neg (by rw [h1]; decide)] at h2
  unfold onOk at h1
  obtain ⟨k, d, w⟩ := o
  dsimp only at hb h1 h2
  have ed : (d : Int) = (d.toNat : Int) := by omega
  have ew : (w : Int) = (w.toNat : Int) := by omega
  have td : d.toNat < 32 := by omega
  have tw : w.toNat < 7 := by omega
  by_cases k1 : k = 1
  · rw [if_pos k1] at h1 h2
    simp only [Bool.and_eq_true, beq_iff_eq] at h1
    rw [ed, itoa_dg (by omega)] at h2
    subst h2
    obtain ⟨p1, p2, p3, p4, p5⟩ := pre_dg _ td
    refine ⟨?_, ?_⟩
    · rw [onO_3 p1 p2, rdN_dg td, k1, h1.2, ← ed]
    · unfold rawS
      rw [if_neg p3, if_neg p4, rd4_dg td, k1, h1.2, ← ed]
  rw [if_neg k1] at h1 h2
  by_cases k2 : k = 2
  · rw [if_pos k2] at h1 h2
    simp only [Bool.and_eq_true, beq_iff_eq] at h1
    rw [ew, itoa_dg (by omega)] at h2
    subst h2
    obtain ⟨p1, p2, p3, p4⟩ := pre_last _ tw
    refine ⟨?_, ?_⟩
    · rw [onO_1 p1, p2, rdN_dg (by omega), k2, h1.1, ← ew]
    · unfold rawS
      rw [if_pos p3, p4, rd4_dg (by omega), k2, h1.1, ← ew]
  rw [if_neg k2] at h1 h2
  by_cases k3 : k = 3
  · rw [ew, ed, itoa_dg (by omega), itoa_dg (by omega)] at h2
    subst h2
    obtain ⟨p1, p2, p3, p4, p5, p6⟩ := pre_after _ tw _ td
    refine ⟨?_, ?_⟩
    · rw [onO_2 p1 (by rw [p2]), p2]
      dsimp only
      rw [rdN_dg td, rdN_dg (by omega), k3, ← ew, ← ed]
    · unfold rawS
      rw [if_neg p3, if_pos p4, p5, p6, rd4_dg td, rd4_dg (by omega), k3, ← ew, ← ed]; rfl
  rw [if_neg k3] at h1
  simp at h1
theorem ri_vd {s : List UInt8} {o : On} (h : Vd s o) : onRI s = (o, true) := by
  unfold onRI
  rw [(both h).1, if_neg]
  rw [not_or, Classical.not_not]
  exact ⟨tx_ne h, h.2⟩
theorem rs_vd {s : List UInt8} {o : On} (h : Vd s o) : onRS s = (o, true) := by
  unfold onRS
  rw [(both h).2, if_pos ⟨rfl, h.1⟩]
theorem ri_zero {s : List UInt8} (h : (onRI s).2 = false) : onRI s = (zOn, false) := by
  unfold onRI at h ⊢
  split
  · rfl
  · rename_i q; rw [if_neg q] at h; simp at h
theorem rs_zero {s : List UInt8} (h : (onRS s).2 = false) : onRS s = (zOn, false) := by
  unfold onRS at h ⊢
  split
  · rename_i q; rw [if_pos q] at h; simp at h
  · rfl
theorem onR_eq (s : List UInt8) : onRI s = onRS s := by
  cases h : (onRI s).2 with
  | true => rw [rs_vd (read_i h), ri_vd (read_i h)]
  | false =>
    cases h2 : (onRS s).2 with
    | true => exact absurd h (by rw [ri_vd (read_s h2)]; exact Bool.noConfusion)
    | false => rw [ri_zero h, rs_zero h2]
theorem raw_1 {s : ByteArray} (h1 : (s.size : Int) > 4) (h2 : (s.extract 0 4).toList = (⟨#[108, 97, 115, 116]⟩ : ByteArray).toList) :
    rawS s.data.toList = (⟨2, 0, (rd4 (s.extract 4 s.size).data.toList).1⟩, (rd4 (s.extract 4 s.size).data.toList).2) := by
  rw [ByteArray.toList_eq, ByteArray.toList_eq, ext_in] at h2
  have hn : s.data.toList.length = s.size := Array.length_toList
  unfold rawS
  rw [if_pos ⟨by omega, h2⟩, ext_to]
theorem raw_c {s : ByteArray} (h : ¬ ((s.size : Int) > 4 ∧ (s.extract 0 4).toList = (⟨#[108, 97, 115, 116]⟩ : ByteArray).toList)) : ¬ (4 < s.data.toList.length ∧ s.data.toList.take 4 = [108, 97, 115, 116]) := by
  rw [ByteArray.toList_eq, ByteArray.toList_eq, ext_in] at h
  have hn : s.data.toList.length = s.size := Array.length_toList
  exact fun q => h ⟨by omega, q.2⟩
theorem raw_2 {s : ByteArray} (h : ¬ ((s.size : Int) > 4 ∧ (s.extract 0 4).toList = (⟨#[108, 97, 115, 116]⟩ : ByteArray).toList)) (h1 : (s.size : Int) > 3) (h2 : (s.extract 1 3).toList = (⟨#[62, 61]⟩ : ByteArray).toList) :
    rawS s.data.toList = (⟨3, (rd4 (s.extract 3 s.size).data.toList).1, (rd4 (s.extract 0 1).data.toList).1⟩, (rd4 (s.extract 0 1).data.toList).2 && (rd4 (s.extract 3 s.size).data.toList).2) := by
  have hn : s.data.toList.length = s.size := Array.length_toList
  rw [ByteArray.toList_eq, ByteArray.toList_eq, ext_in] at h2
  unfold rawS
  rw [if_neg (raw_c h), if_pos ⟨by omega, h2⟩, ext_to, ext_in]
  rfl
theorem raw_3 {s : ByteArray} (h : ¬ ((s.size : Int) > 4 ∧ (s.extract 0 4).toList = (⟨#[108, 97, 115, 116]⟩ : ByteArray).toList)) (h1 : ¬ ((s.size : Int) > 3 ∧ (s.extract 1 3).toList = (⟨#[62, 61]⟩ : ByteArray).toList)) :
    rawS s.data.toList = (⟨1, (rd4 s.data.toList).1, 0⟩, (rd4 s.data.toList).2) := by
  have hn : s.data.toList.length = s.size := Array.length_toList
  rw [ByteArray.toList_eq, ByteArray.toList_eq, ext_in] at h1
  unfold rawS
  rw [if_neg (raw_c h), if_neg (fun q => h1 ⟨by omega, q.2⟩)]
theorem rs_ok {l : List UInt8} {o : On} {b : Bool} (hr : rawS l = (o, b)) (hb : b = true) (h : onOk o = true) : onRS l = (o, true) := by unfold onRS; rw [hr, if_pos ⟨hb, h⟩]
theorem rs_no {l : List UInt8} {o : On} {b : Bool} (hr : rawS l = (o, b)) (h : onOk o = false) : onRS l = (zOn, false) := by unfold onRS; rw [hr, if_neg (fun q => by rw [h] at q; exact absurd q.2 (by decide))]
theorem rs_bad {l : List UInt8} {o : On} {b : Bool} (hr : rawS l = (o, b)) (h : b = false) : onRS l = (zOn, false) := by unfold onRS; rw [hr, if_neg (fun q => by rw [h] at q; exact Bool.noConfusion q.1)]
def onEqA (a b : On) : Bool := (a.kind == b.kind) && ((a.day == b.day) && ((a.week == b.week) && true))
theorem onEqA_refl (a : On) : onEqA a a = true := by simp [onEqA]
end Go.Sy
end

section
set_option linter.unusedVariables false
set_option linter.unusedSimpArgs false
namespace Go.Sy
open Go.RowKit
def ruleOk (r : Rul) : Bool := inR r.name 97 122 && (inR r.from_ 1900 2200 && (inR r.to 1900 2200 && (decide (r.from_ ≤ r.to) && (inR r.month 1 12 && (onOk r.on && (inR r.at_ 0 1439 && inR r.save 0 180))))))
def zoneOk (z : Zon) : Bool := inR z.name 65 90 && (inR z.off (-900) 900 && (z.rule == 0 || inR z.rule 97 122))
def hasR (n : Int) : List Rul → Bool
  | [] => false
  | r :: l => if r.name = n then true else hasR n l
def posZ (n : Int) : List Zon → Nat → Int
  | [], _ => -1
  | z :: l, i => if z.name = n then (i : Int) else posZ n l (i + 1)
def hasZ (n : Int) : List Zon → Bool
  | [] => false
  | z :: l => if z.name = n then true else hasZ n l
def rulesOk : List Rul → Bool
  | [] => true
  | r :: l => if ruleOk r = true then rulesOk l else false
def zone1 (rs : List Rul) (p : Int) (z : Zon) : Bool := inR z.name 65 90 && (inR z.off (-900) 900 && (decide (p < z.name) && (z.rule == 0 || hasR z.rule rs)))
def zonesOk (rs : List Rul) : Int → List Zon → Bool
  | _, [] => true
  | p, z :: l => if zone1 rs p z = true then zonesOk rs z.name l else false
def link1 (zs : List Zon) (p : Int) (l : Lnk) : Bool := inR l.name 65 90 && (decide (p < l.name) && (hasZ l.to zs && !hasZ l.name zs))
def linksOk (zs : List Zon) : Int → List Lnk → Bool
  | _, [] => true
  | p, x :: l => if link1 zs p x = true then linksOk zs x.name l else false
def srcOk (s : Srce) : Bool := decide (s.rules.length ≤ 20) && (rulesOk s.rules && (zonesOk s.rules 0 s.zones && linksOk s.zones 0 s.links))
def lastZ (zs : List Zon) : Int := match zs.getLast? with
  | some z => z.name
  | none => 0
def lastL (ls : List Lnk) : Int := match ls.getLast? with
  | some z => z.name
  | none => 0
def letT (n : Int) : List UInt8 := if n = 0 then [45] else [u8Of n]
def ruleT (r : Rul) : List UInt8 := [114, 117, 108, 101, 32] ++ letT r.name ++ [32] ++ Lib.itoa r.from_ ++ [32] ++ Lib.itoa r.to ++ [32] ++ Lib.itoa r.month ++ [32] ++ txO r.on ++ [32] ++ Lib.itoa r.at_ ++ [32] ++ Lib.itoa r.save ++ [10]
def zoneT (z : Zon) : List UInt8 := [122, 111, 110, 101, 32] ++ letT z.name ++ [32] ++ Lib.itoa z.off ++ [32] ++ letT z.rule ++ [10]
def linkT (l : Lnk) : List UInt8 := [108, 105, 110, 107, 32] ++ letT l.name ++ [32] ++ letT l.to ++ [10]
def srcT (s : Srce) : List UInt8 := s.rules.flatMap ruleT ++ s.zones.flatMap zoneT ++ s.links.flatMap linkT
def srcP (s : Srce) : List UInt8 × Bool := if srcOk s = true then (if (srcT s).length ≤ 1000 then (srcT s, true) else ([], false)) else ([], false)
theorem rulesOk_mem {rs : List Rul} (h : rulesOk rs = true) {k : Nat} {r : Rul} (he : rs[k]? = some r) : ruleOk r = true := by
  induction rs generalizing k with
  | nil => simp at he
  | cons x l ih =>
    unfold rulesOk at h
    split at h
    · rename_i hx
      cases k with
      | zero => simp at he; rw [← he]; exact hx
      | succ k => exact ih h (by simpa using he)
    · simp at h
theorem hasR_small {rs : List Rul} (h : rulesOk rs = true) {n : Int} (hn : hasR n rs = true) : inR n 97 122 = true := by
  induction rs with
  | nil => simp [hasR] at hn
  | cons x l ih =>
    unfold rulesOk at h
    split at h
    · rename_i hx
      unfold hasR at hn
      split at hn
      · rename_i e
        unfold ruleOk at hx
        simp only [Bool.and_eq_true] at hx
        rw [← e]; exact hx.1
      · exact ih h hn
    · simp at h
theorem hasR_step {rs : List Rul} {k : Nat} {r : Rul} {n : Int} (he : rs[k]? = some r) (h : ¬ r.name = n) : hasR n (rs.drop k) = hasR n (rs.drop (k + 1)) := by rw [dropCons he, hasR, if_neg h]
theorem hasR_hit {rs : List Rul} {k : Nat} {r : Rul} {n : Int} (he : rs[k]? = some r) (h : r.name = n) : hasR n (rs.drop k) = true := by rw [dropCons he, hasR, if_pos h]
theorem hasR_end {rs : List Rul} {k : Nat} {n : Int} (h : rs.length ≤ k) : hasR n (rs.drop k) = false := by rw [List.drop_of_length_le h]; rfl
theorem hasZ_step {rs : List Zon} {k : Nat} {r : Zon} {n : Int} (he : rs[k]? = some r) (h : ¬ r.name = n) : hasZ n (rs.drop k) = hasZ n (rs.drop (k + 1)) := by rw [dropCons he, hasZ, if_neg h]
theorem hasZ_hit {rs : List Zon} {k : Nat} {r : Zon} {n : Int} (he : rs[k]? = some r) (h : r.name = n) : hasZ n (rs.drop k) = true := by rw [dropCons he, hasZ, if_pos h]
theorem hasZ_end {rs : List Zon} {k : Nat} {n : Int} (h : rs.length ≤ k) : hasZ n (rs.drop k) = false := by rw [List.drop_of_length_le h]; rfl
theorem posZ_has (n : Int) (zs : List Zon) (i : Nat) : (posZ n zs i < 0 ↔ hasZ n zs = false) := by
  induction zs generalizing i with
  | nil => simp [posZ, hasZ]
  | cons z l ih =>
    unfold posZ hasZ
    split
    · simp
    · exact ih (i + 1)
theorem lastZ_take {zs : List Zon} {k : Nat} {z : Zon} (he : zs[k]? = some z) : lastZ (zs.take (k + 1)) = z.name := by
  unfold lastZ
  rw [List.take_add_one, he]
  simp
theorem lastL_take {zs : List Lnk} {k : Nat} {z : Lnk} (he : zs[k]? = some z) : lastL (zs.take (k + 1)) = z.name := by
  unfold lastL
  rw [List.take_add_one, he]
  simp
theorem lastZ_at {zs : List Zon} {z : Zon} (h : zs[zs.length - 1]? = some z) : lastZ zs = z.name := by
  unfold lastZ; rw [List.getLast?_eq_getElem?, h]
theorem lastL_at {zs : List Lnk} {z : Lnk} (h : zs[zs.length - 1]? = some z) : lastL zs = z.name := by
  unfold lastL; rw [List.getLast?_eq_getElem?, h]
theorem zones_step {rs : List Rul} {zs : List Zon} {k : Nat} {z : Zon} (he : zs[k]? = some z) (h : zone1 rs (lastZ (zs.take k)) z = true) :
    zonesOk rs (lastZ (zs.take k)) (zs.drop k) = zonesOk rs (lastZ (zs.take (k + 1))) (zs.drop (k + 1)) := by
  rw [dropCons he, zonesOk, if_pos h, lastZ_take he]
theorem zones_bad {rs : List Rul} {zs : List Zon} {k : Nat} {z : Zon} (he : zs[k]? = some z) (h : zone1 rs (lastZ (zs.take k)) z = false) : zonesOk rs (lastZ (zs.take k)) (zs.drop k) = false := by
  rw [dropCons he, zonesOk, if_neg (by rw [h]; exact Bool.noConfusion)]
theorem zones_end {rs : List Rul} {zs : List Zon} {k : Nat} (h : zs.length ≤ k) (p : Int) : zonesOk rs p (zs.drop k) = true := by rw [List.drop_of_length_le h]; rfl
theorem links_step {rs : List Zon} {zs : List Lnk} {k : Nat} {z : Lnk} (he : zs[k]? = some z) (h : link1 rs (lastL (zs.take k)) z = true) :
    linksOk rs (lastL (zs.take k)) (zs.drop k) = linksOk rs (lastL (zs.take (k + 1))) (zs.drop (k + 1)) := by
  rw [dropCons he, linksOk, if_pos h, lastL_take he]
theorem links_bad {rs : List Zon} {zs : List Lnk} {k : Nat} {z : Lnk} (he : zs[k]? = some z) (h : link1 rs (lastL (zs.take k)) z = false) : linksOk rs (lastL (zs.take k)) (zs.drop k) = false := by
  rw [dropCons he, linksOk, if_neg (by rw [h]; exact Bool.noConfusion)]
theorem links_end {rs : List Zon} {zs : List Lnk} {k : Nat} (h : zs.length ≤ k) (p : Int) : linksOk rs p (zs.drop k) = true := by rw [List.drop_of_length_le h]; rfl
theorem rules_step {rs : List Rul} {k : Nat} {r : Rul} (he : rs[k]? = some r) (h : ruleOk r = true) : rulesOk (rs.drop k) = rulesOk (rs.drop (k + 1)) := by rw [dropCons he, rulesOk, if_pos h]
theorem rules_bad {rs : List Rul} {k : Nat} {r : Rul} (he : rs[k]? = some r) (h : ruleOk r = false) : rulesOk (rs.drop k) = false := by rw [dropCons he, rulesOk, if_neg (by rw [h]; exact Bool.noConfusion)]
theorem rules_end {rs : List Rul} {k : Nat} (h : rs.length ≤ k) : rulesOk (rs.drop k) = true := by rw [List.drop_of_length_le h]; rfl
theorem zones_len {rs : List Rul} : ∀ {zs : List Zon} {p : Int}, zonesOk rs p zs = true → p ≤ 90 → 64 ≤ p → (zs.length : Int) ≤ 90 - p := by
  intro zs
  induction zs with
  | nil => intro p _ h _; simp; omega
  | cons z l ih =>
    intro p h hp hq
    unfold zonesOk at h
    split at h
    · rename_i hz
      unfold zone1 at hz
      simp only [Bool.and_eq_true, inR_iff, decide_eq_true_eq] at hz
      have := ih h (by omega) (by omega)
      simp only [List.length_cons]; omega
    · simp at h
theorem zones_few {rs : List Rul} {zs : List Zon} (h : zonesOk rs 0 zs = true) : zs.length ≤ 26 := by
  cases zs with
  | nil => simp
  | cons z l =>
    unfold zonesOk at h
    split at h
    · rename_i hz
      unfold zone1 at hz
      simp only [Bool.and_eq_true, inR_iff, decide_eq_true_eq] at hz
      have := zones_len h (by omega) (by omega)
      simp only [List.length_cons]; omega
    · simp at h
theorem links_len {rs : List Zon} : ∀ {zs : List Lnk} {p : Int}, linksOk rs p zs = true → p ≤ 90 → 64 ≤ p → (zs.length : Int) ≤ 90 - p := by
  intro zs
  induction zs with
  | nil => intro p _ h _; simp; omega
  | cons z l ih =>
    intro p h hp hq
    unfold linksOk at h
    split at h
    · rename_i hz
      unfold link1 at hz
      simp only [Bool.and_eq_true, inR_iff, decide_eq_true_eq] at hz
      have := ih h (by omega) (by omega)
      simp only [List.length_cons]; omega
    · simp at h
theorem links_few {rs : List Zon} {zs : List Lnk} (h : linksOk rs 0 zs = true) : zs.length ≤ 26 := by
  cases zs with
  | nil => simp
  | cons z l =>
    unfold linksOk at h
    split at h
    · rename_i hz
      unfold link1 at hz
      simp only [Bool.and_eq_true, inR_iff, decide_eq_true_eq] at hz
      have := links_len h (by omega) (by omega)
      simp only [List.length_cons]; omega
    · simp at h
theorem letT_len (n : Int) : (letT n).length = 1 := by unfold letT; split <;> rfl
theorem ruleNums {r : Rul} (h : ruleOk r = true) : (1900 ≤ r.from_ ∧ r.from_ ≤ 2200) ∧ (1900 ≤ r.to ∧ r.to ≤ 2200) ∧ (1 ≤ r.month ∧ r.month ≤ 12) ∧ onOk r.on = true ∧ (0 ≤ r.at_ ∧ r.at_ ≤ 1439) ∧ (0 ≤ r.save ∧ r.save ≤ 180) ∧ 97 ≤ r.name ∧ r.name ≤ 122 := by
  unfold ruleOk at h
  simp only [Bool.and_eq_true, inR_iff, decide_eq_true_eq] at h
  obtain ⟨a, b, c, d, e, f, g, i⟩ := h
  exact ⟨b, c, e, f, g, i, a⟩
theorem txO_len {o : On} (h : onOk o = true) : (txO o).length ≤ 44 := by
  have hb := onOk_nums h
  have h1 := Lib.itoa_length_le o.day (by omega) (by omega)
  have h2 := Lib.itoa_length_le o.week (by omega) (by omega)
  unfold txO
  rw [if_neg (by rw [h]; decide)]
  split
  · omega
  · split <;> simp only [List.length_append, List.length_cons, List.length_nil] <;> omega
theorem ruleLens {r : Rul} (h : ruleOk r = true) : (Lib.itoa r.from_).length ≤ 21 ∧ (Lib.itoa r.to).length ≤ 21 ∧ (Lib.itoa r.month).length ≤ 21 ∧ (txO r.on).length ≤ 44 ∧ (Lib.itoa r.at_).length ≤ 21 ∧ (Lib.itoa r.save).length ≤ 21 ∧ (letT r.name).length = 1 := by
  have hb := ruleNums h
  exact ⟨Lib.itoa_length_le _ (by omega) (by omega), Lib.itoa_length_le _ (by omega) (by omega), Lib.itoa_length_le _ (by omega) (by omega), txO_len hb.2.2.2.1, Lib.itoa_length_le _ (by omega) (by omega), Lib.itoa_length_le _ (by omega) (by omega), letT_len _⟩
theorem ruleT_len {r : Rul} (h : ruleOk r = true) : (ruleT r).length ≤ 200 := by
  have hb := ruleLens h
  unfold ruleT
  simp only [List.length_append, List.length_cons, List.length_nil]
  omega
theorem flat_take {α : Type} (f : α → List UInt8) {l : List α} {k : Nat} {x : α} (he : l[k]? = some x) : (l.take (k + 1)).flatMap f = (l.take k).flatMap f ++ f x := by
  rw [List.take_add_one, he, List.flatMap_append]; simp
theorem flat_all {α : Type} (f : α → List UInt8) {l : List α} {k : Nat} (h : l.length ≤ k) : (l.take k).flatMap f = l.flatMap f := by rw [List.take_of_length_le h]
def ruleW (r : Rul) : List ByteArray := [⟨#[114, 117, 108, 101]⟩, strOf (letT r.name), strOf (Lib.itoa r.from_), strOf (Lib.itoa r.to), strOf (Lib.itoa r.month), strOf (txO r.on), strOf (Lib.itoa r.at_), strOf (Lib.itoa r.save)]
theorem join_rule (r : Rul) : Lib.join ((ruleW r).map (·.data.toList)) [32] ++ [10] = ruleT r := by
  simp only [ruleW, List.map_cons, List.map_nil, Lib.join, List.intercalate, List.intersperse, List.flatten, data_strOf, ruleT, List.append_eq, List.append_assoc, List.cons_append, List.nil_append, List.append_nil]
theorem rule_stepS {B : List UInt8} {rs : List Rul} {k : Nat} {r : Rul} {o : ByteArray} (he : rs[k]? = some r) (ho : o = strOf (B ++ (rs.take k).flatMap ruleT)) :
    ((((((((((((((((o ++ (⟨#[114, 117, 108, 101, 32]⟩ : ByteArray)) ++ strOf (letT r.name)) ++ (⟨#[32]⟩ : ByteArray)) ++ strOf (Lib.itoa r.from_)) ++ (⟨#[32]⟩ : ByteArray)) ++ strOf (Lib.itoa r.to)) ++ (⟨#[32]⟩ : ByteArray)) ++ strOf (Lib.itoa r.month)) ++ (⟨#[32]⟩ : ByteArray)) ++ strOf (txO r.on)) ++ (⟨#[32]⟩ : ByteArray)) ++ strOf (Lib.itoa r.at_)) ++ (⟨#[32]⟩ : ByteArray)) ++ strOf (Lib.itoa r.save)) ++ (⟨#[10]⟩ : ByteArray))) = strOf (B ++ (rs.take (k + 1)).flatMap ruleT) := by
  rw [flat_take ruleT he, ho, show (⟨#[114, 117, 108, 101, 32]⟩ : ByteArray) = strOf [114, 117, 108, 101, 32] from rfl, show (⟨#[32]⟩ : ByteArray) = strOf [32] from rfl, show (⟨#[10]⟩ : ByteArray) = strOf [10] from rfl]
  simp only [app_str, ruleT, List.append_assoc]
theorem rule_stepI {B : List UInt8} {rs : List Rul} {k : Nat} {r : Rul} {o : ByteArray} (he : rs[k]? = some r) (ho : o = strOf (B ++ (rs.take k).flatMap ruleT)) :
    o ++ (strOf (Lib.join ((ruleW r).map (·.data.toList)) [32]) ++ (⟨#[10]⟩ : ByteArray)) = strOf (B ++ (rs.take (k + 1)).flatMap ruleT) := by
  rw [flat_take ruleT he, ho, show (⟨#[10]⟩ : ByteArray) = strOf [10] from rfl, app_str, app_str, join_rule, List.append_assoc]
theorem zone_stepS {B : List UInt8} {rs : List Zon} {k : Nat} {r : Zon} {o : ByteArray} (he : rs[k]? = some r) (ho : o = strOf (B ++ (rs.take k).flatMap zoneT)) :
    (((((((o ++ (⟨#[122, 111, 110, 101, 32]⟩ : ByteArray)) ++ strOf (letT r.name)) ++ (⟨#[32]⟩ : ByteArray)) ++ strOf (Lib.itoa r.off)) ++ (⟨#[32]⟩ : ByteArray)) ++ strOf (letT r.rule)) ++ (⟨#[10]⟩ : ByteArray)) = strOf (B ++ (rs.take (k + 1)).flatMap zoneT) := by
  rw [flat_take zoneT he, ho, show (⟨#[122, 111, 110, 101, 32]⟩ : ByteArray) = strOf [122, 111, 110, 101, 32] from rfl, show (⟨#[32]⟩ : ByteArray) = strOf [32] from rfl, show (⟨#[10]⟩ : ByteArray) = strOf [10] from rfl]
  simp only [app_str, zoneT, List.append_assoc]
theorem zone_stepI {B : List UInt8} {rs : List Zon} {k : Nat} {r : Zon} {o : ByteArray} (he : rs[k]? = some r) (ho : o = strOf (B ++ (rs.take k).flatMap zoneT)) :
    o ++ (((((((⟨#[122, 111, 110, 101, 32]⟩ : ByteArray) ++ strOf (letT r.name)) ++ (⟨#[32]⟩ : ByteArray)) ++ strOf (Lib.itoa r.off)) ++ (⟨#[32]⟩ : ByteArray)) ++ strOf (letT r.rule)) ++ (⟨#[10]⟩ : ByteArray)) = strOf (B ++ (rs.take (k + 1)).flatMap zoneT) := by
  rw [flat_take zoneT he, ho, show (⟨#[122, 111, 110, 101, 32]⟩ : ByteArray) = strOf [122, 111, 110, 101, 32] from rfl, show (⟨#[32]⟩ : ByteArray) = strOf [32] from rfl, show (⟨#[10]⟩ : ByteArray) = strOf [10] from rfl]
  simp only [app_str, zoneT, List.append_assoc]
theorem link_stepS {B : List UInt8} {rs : List Lnk} {k : Nat} {r : Lnk} {o : ByteArray} (he : rs[k]? = some r) (ho : o = strOf (B ++ (rs.take k).flatMap linkT)) :
    (((((o ++ (⟨#[108, 105, 110, 107, 32]⟩ : ByteArray)) ++ strOf (letT r.name)) ++ (⟨#[32]⟩ : ByteArray)) ++ strOf (letT r.to)) ++ (⟨#[10]⟩ : ByteArray)) = strOf (B ++ (rs.take (k + 1)).flatMap linkT) := by
  rw [flat_take linkT he, ho, show (⟨#[108, 105, 110, 107, 32]⟩ : ByteArray) = strOf [108, 105, 110, 107, 32] from rfl, show (⟨#[32]⟩ : ByteArray) = strOf [32] from rfl, show (⟨#[10]⟩ : ByteArray) = strOf [10] from rfl]
  simp only [app_str, linkT, List.append_assoc]
theorem link_stepI {B : List UInt8} {rs : List Lnk} {k : Nat} {r : Lnk} {o : ByteArray} (he : rs[k]? = some r) (ho : o = strOf (B ++ (rs.take k).flatMap linkT)) :
    o ++ (((((⟨#[108, 105, 110, 107, 32]⟩ : ByteArray) ++ strOf (letT r.name)) ++ (⟨#[32]⟩ : ByteArray)) ++ strOf (letT r.to)) ++ (⟨#[10]⟩ : ByteArray)) = strOf (B ++ (rs.take (k + 1)).flatMap linkT) := by
  rw [flat_take linkT he, ho, show (⟨#[108, 105, 110, 107, 32]⟩ : ByteArray) = strOf [108, 105, 110, 107, 32] from rfl, show (⟨#[32]⟩ : ByteArray) = strOf [32] from rfl, show (⟨#[10]⟩ : ByteArray) = strOf [10] from rfl]
  simp only [app_str, linkT, List.append_assoc]
theorem join_len {r : Rul} (h : ruleOk r = true) : (Lib.join ((ruleW r).map (·.data.toList)) [32]).length ≤ 199 := by
  have h1 := ruleT_len h
  have h2 := congrArg List.length (join_rule r)
  rw [List.length_append] at h2
  simp only [List.length_cons, List.length_nil] at h2
  omega
theorem srcOk_iff {s : Srce} : srcOk s = true ↔ s.rules.length ≤ 20 ∧ rulesOk s.rules = true ∧ zonesOk s.rules 0 s.zones = true ∧ linksOk s.zones 0 s.links = true := by
  unfold srcOk; simp only [Bool.and_eq_true, decide_eq_true_eq]
theorem zones_mem {rs : List Rul} {zs : List Zon} {p : Int} (h : zonesOk rs p zs = true) {k : Nat} {z : Zon} (he : zs[k]? = some z) : (65 ≤ z.name ∧ z.name ≤ 90) ∧ (-900 ≤ z.off ∧ z.off ≤ 900) ∧ (z.rule = 0 ∨ hasR z.rule rs = true) := by
  induction zs generalizing k p with
  | nil => simp at he
  | cons x l ih =>
    unfold zonesOk at h
    split at h
    · rename_i hx
      cases k with
      | zero =>
        simp at he; subst he
        unfold zone1 at hx
        simp only [Bool.and_eq_true, inR_iff, decide_eq_true_eq, Bool.or_eq_true, beq_iff_eq] at hx
        exact ⟨hx.1, hx.2.1, hx.2.2.2⟩
      | succ k => exact ih h (by simpa using he)
    · simp at h
theorem links_mem {zs : List Zon} {ls : List Lnk} {p : Int} (h : linksOk zs p ls = true) {k : Nat} {z : Lnk} (he : ls[k]? = some z) : (65 ≤ z.name ∧ z.name ≤ 90) ∧ hasZ z.to zs = true ∧ hasZ z.name zs = false := by
  induction ls generalizing k p with
  | nil => simp at he
  | cons x l ih =>
    unfold linksOk at h
    split at h
    · rename_i hx
      cases k with
      | zero =>
        simp at he; subst he
        unfold link1 at hx
        simp only [Bool.and_eq_true, inR_iff, decide_eq_true_eq, Bool.not_eq_true'] at hx
        exact ⟨hx.1, hx.2.2.1, hx.2.2.2⟩
      | succ k => exact ih h (by simpa using he)
    · simp at h
theorem srcP_no {s : Srce} (h : srcOk s = false) : srcP s = ([], false) := by unfold srcP; rw [if_neg (by rw [h]; exact Bool.noConfusion)]
theorem srcP_big {s : Srce} {o : ByteArray} (h : srcOk s = true) (ho : o = strOf (srcT s)) (hs : (o.size : Int) > 1000) : srcP s = ([], false) := by
  unfold srcP; rw [if_pos h, if_neg]; rw [ho, strOf_size] at hs; omega
theorem srcP_ok {s : Srce} {o : ByteArray} (h : srcOk s = true) (ho : o = strOf (srcT s)) (hs : ¬ (o.size : Int) > 1000) : srcP s = (srcT s, true) := by
  unfold srcP; rw [if_pos h, if_pos]; rw [ho, strOf_size] at hs; omega
def zRul : Rul := ⟨0, 0, 0, 0, ⟨0, 0, 0⟩, 0, 0⟩
theorem zone1_t {rs : List Rul} {p : Int} {z : Zon} (h1 : inR z.name 65 90 = true) (h2 : inR z.off (-900) 900 = true) (h3 : p < z.name) (h4 : z.rule = 0 ∨ hasR z.rule rs = true) : zone1 rs p z = true := by
  unfold zone1
  simp only [Bool.and_eq_true, decide_eq_true_eq, Bool.or_eq_true, beq_iff_eq]
  exact ⟨h1, h2, h3, h4⟩
theorem zone1_iff {rs : List Rul} {p : Int} {z : Zon} : zone1 rs p z = true ↔ inR z.name 65 90 = true ∧ inR z.off (-900) 900 = true ∧ p < z.name ∧ (z.rule = 0 ∨ hasR z.rule rs = true) := by
  unfold zone1
  simp only [Bool.and_eq_true, decide_eq_true_eq, Bool.or_eq_true, beq_iff_eq]
theorem link1_iff {zs : List Zon} {p : Int} {l : Lnk} : link1 zs p l = true ↔ inR l.name 65 90 = true ∧ p < l.name ∧ hasZ l.to zs = true ∧ hasZ l.name zs = false := by
  unfold link1
  simp only [Bool.and_eq_true, decide_eq_true_eq, Bool.not_eq_true']
theorem zoneOk_iff {z : Zon} : zoneOk z = true ↔ inR z.name 65 90 = true ∧ inR z.off (-900) 900 = true ∧ (z.rule = 0 ∨ inR z.rule 97 122 = true) := by
  unfold zoneOk
  simp only [Bool.and_eq_true, Bool.or_eq_true, beq_iff_eq]
theorem zone1_I {rs : List Rul} {p : Int} {z : Zon} (hr : rulesOk rs = true) : zone1 rs p z = true ↔ zoneOk z = true ∧ p < z.name ∧ (z.rule = 0 ∨ hasR z.rule rs = true) := by
  rw [zone1_iff, zoneOk_iff]
  constructor
  · rintro ⟨a, b, c, d⟩
    exact ⟨⟨a, b, d.imp id (hasR_small hr)⟩, c, d⟩
  · rintro ⟨⟨a, b, _⟩, c, d⟩
    exact ⟨a, b, c, d⟩
theorem prevZ {zs : List Zon} {k : Nat} {y : Zon} (h : zs[((k : Int) - 1).toNat]? = some y) (hk : (k : Int) > 0) : lastZ (zs.take k) = y.name := by
  obtain ⟨j, rfl⟩ : ∃ j, k = j + 1 := ⟨k - 1, by omega⟩
  exact lastZ_take (by rwa [show ((((j + 1 : Nat)) : Int) - 1).toNat = j by omega] at h)
theorem prevL {zs : List Lnk} {k : Nat} {y : Lnk} (h : zs[((k : Int) - 1).toNat]? = some y) (hk : (k : Int) > 0) : lastL (zs.take k) = y.name := by
  obtain ⟨j, rfl⟩ : ∃ j, k = j + 1 := ⟨k - 1, by omega⟩
  exact lastL_take (by rwa [show ((((j + 1 : Nat)) : Int) - 1).toNat = j by omega] at h)
theorem prevZ0 {zs : List Zon} {k : Nat} (hk : ¬ (k : Int) > 0) : lastZ (zs.take k) = 0 := by
  obtain rfl : k = 0 := by omega
  rfl
theorem prevL0 {zs : List Lnk} {k : Nat} (hk : ¬ (k : Int) > 0) : lastL (zs.take k) = 0 := by
  obtain rfl : k = 0 := by omega
  rfl
theorem lastZ_len {zs : List Zon} {y : Zon} (h : zs[((zs.length : Int) - 1).toNat]? = some y) : lastZ zs = y.name := lastZ_at (by rwa [show ((zs.length : Int) - 1).toNat = zs.length - 1 by omega] at h)
theorem lastL_len {zs : List Lnk} {y : Lnk} (h : zs[((zs.length : Int) - 1).toNat]? = some y) : lastL zs = y.name := lastL_at (by rwa [show ((zs.length : Int) - 1).toNat = zs.length - 1 by omega] at h)
theorem lastZ_0 {zs : List Zon} (h : (zs.length : Int) = 0) : lastZ zs = 0 := by
  have : zs = [] := List.length_eq_zero_iff.1 (by omega)
  rw [this]; rfl
theorem lastL_0 {zs : List Lnk} (h : (zs.length : Int) = 0) : lastL zs = 0 := by
  have : zs = [] := List.length_eq_zero_iff.1 (by omega)
  rw [this]; rfl
theorem posZ_lt {n : Int} {zs : List Zon} (h : posZ n zs 0 < 0) : hasZ n zs = false := (posZ_has n zs 0).1 h
theorem posZ_ge {n : Int} {zs : List Zon} (h : ¬ posZ n zs 0 < 0) : hasZ n zs = true := by
  cases q : hasZ n zs with
  | true => rfl
  | false => exact absurd ((posZ_has n zs 0).2 q) h
theorem srcOk_r20 {s : Srce} (h : (s.rules.length : Int) > 20) : srcOk s = false := Bool.eq_false_iff.2 fun q => by have := (srcOk_iff.1 q).1; omega
theorem srcOk_z26 {s : Srce} (h : (s.zones.length : Int) > 26) : srcOk s = false := Bool.eq_false_iff.2 fun q => by have := zones_few (srcOk_iff.1 q).2.2.1; omega
theorem srcOk_l26 {s : Srce} (h : (s.links.length : Int) > 26) : srcOk s = false := Bool.eq_false_iff.2 fun q => by have := links_few (srcOk_iff.1 q).2.2.2; omega
theorem srcOk_rb {s : Srce} (h : rulesOk s.rules = false) : srcOk s = false := Bool.eq_false_iff.2 fun q => by rw [(srcOk_iff.1 q).2.1] at h; exact Bool.noConfusion h
theorem srcOk_zb {s : Srce} (h : zonesOk s.rules 0 s.zones = false) : srcOk s = false := Bool.eq_false_iff.2 fun q => by rw [(srcOk_iff.1 q).2.2.1] at h; exact Bool.noConfusion h
theorem srcOk_lb {s : Srce} (h : linksOk s.zones 0 s.links = false) : srcOk s = false := Bool.eq_false_iff.2 fun q => by rw [(srcOk_iff.1 q).2.2.2] at h; exact Bool.noConfusion h
theorem srcOk_all {s : Srce} (h0 : ¬ (s.rules.length : Int) > 20) (h1 : rulesOk s.rules = true) (h2 : zonesOk s.rules 0 s.zones = true) (h3 : linksOk s.zones 0 s.links = true) : srcOk s = true := srcOk_iff.2 ⟨by omega, h1, h2, h3⟩
theorem srcOk_20 {s : Srce} (h1 : rulesOk s.rules = true) (h2 : zonesOk s.rules 0 s.zones = true) (h3 : linksOk s.zones 0 s.links = true) : decide ((s.rules.length : Int) ≤ 20) = srcOk s := by
  unfold srcOk
  rw [h1, h2, h3, Bool.and_self, Bool.and_self, Bool.and_true]
  exact decide_eq_decide.2 (by omega)
theorem zone1_f1 {rs : List Rul} {p : Int} {z : Zon} (hr : rulesOk rs = true) (h : zoneOk z = false) : zone1 rs p z = false := Bool.eq_false_iff.2 fun q => by rw [((zone1_I hr).1 q).1] at h; exact Bool.noConfusion h
theorem zone1_f2 {rs : List Rul} {p : Int} {z : Zon} (h : ¬ p < z.name) : zone1 rs p z = false := Bool.eq_false_iff.2 fun q => h (zone1_iff.1 q).2.2.1
theorem zone1_f3 {rs : List Rul} {p : Int} {z : Zon} (h : ¬ z.rule = 0) (h2 : hasR z.rule rs = false) : zone1 rs p z = false := Bool.eq_false_iff.2 fun q => by
  rcases (zone1_iff.1 q).2.2.2 with e | e
  · exact h e
  · rw [h2] at e; exact Bool.noConfusion e
theorem link1_f1 {rs : List Zon} {p : Int} {z : Lnk} (h : inR z.name 65 90 = false) : link1 rs p z = false := Bool.eq_false_iff.2 fun q => by rw [(link1_iff.1 q).1] at h; exact Bool.noConfusion h
theorem link1_f2 {rs : List Zon} {p : Int} {z : Lnk} (h : ¬ p < z.name) : link1 rs p z = false := Bool.eq_false_iff.2 fun q => h (link1_iff.1 q).2.1
theorem link1_f3 {rs : List Zon} {p : Int} {z : Lnk} (h : posZ z.to rs 0 < 0) : link1 rs p z = false := Bool.eq_false_iff.2 fun q => by have := (link1_iff.1 q).2.2.1; rw [posZ_lt h] at this; exact Bool.noConfusion this
theorem link1_f4 {rs : List Zon} {p : Int} {z : Lnk} (h : posZ z.name rs 0 ≥ 0) : link1 rs p z = false := Bool.eq_false_iff.2 fun q => by have := (link1_iff.1 q).2.2.2; rw [posZ_ge (by omega)] at this; exact Bool.noConfusion this
theorem zone1_tI {rs : List Rul} {p : Int} {z : Zon} (hr : rulesOk rs = true) (h : zoneOk z = true) (h2 : p < z.name) (h3 : z.rule = 0 ∨ hasR z.rule rs = true) : zone1 rs p z = true := (zone1_I hr).2 ⟨h, h2, h3⟩
theorem link1_t {zs : List Zon} {p : Int} {l : Lnk} (h1 : inR l.name 65 90 = true) (h2 : p < l.name) (h3 : ¬ posZ l.to zs 0 < 0) (h4 : ¬ posZ l.name zs 0 ≥ 0) : link1 zs p l = true := link1_iff.2 ⟨h1, h2, posZ_ge h3, posZ_lt (by omega)⟩
theorem zoneOk_name {z : Zon} (h : zoneOk z = true) : 65 ≤ z.name ∧ z.name ≤ 90 := inR_iff.1 (zoneOk_iff.1 h).1
theorem base_next {α β : Type} {f : α → List UInt8} {g : β → List UInt8} {B : List UInt8} {l : List α} {l2 : List β} {k : Nat} {o : ByteArray} (h : o = strOf (B ++ (l.take k).flatMap f)) (hk : l.length ≤ k) : o = strOf ((B ++ l.flatMap f) ++ (l2.take 0).flatMap g) := by
  rw [h, flat_all f hk]; simp
theorem base_end {s : Srce} {i : Nat} {o : ByteArray} (h : o = strOf (((([] : List UInt8) ++ s.rules.flatMap ruleT) ++ s.zones.flatMap zoneT) ++ (s.links.take i).flatMap linkT)) (hi : s.links.length ≤ i) : o = strOf (srcT s) := by
  rw [h, flat_all linkT hi]; rfl
theorem zoneLens {rs : List Rul} {zs : List Zon} (h : zonesOk rs 0 zs = true) {k : Nat} {z : Zon} (he : zs[k]? = some z) : (-900 ≤ z.off ∧ z.off ≤ 900) ∧ (Lib.itoa z.off).length ≤ 21 ∧ (letT z.name).length = 1 ∧ (letT z.rule).length = 1 := by
  have := zones_mem h he
  exact ⟨this.2.1, Lib.itoa_length_le _ (by omega) (by omega), letT_len _, letT_len _⟩
end Go.Sy
end

section
set_option linter.unusedVariables false
set_option linter.unusedSimpArgs false
namespace Go.Sy
open Go.RowKit
structure SlAt (w : World) (A : Option Addr) (es : Nat) (xs : List V) : Prop where
  hit : ∀ (k : Nat) (cs : List V), xs[k]? = some (.agg cs) → cs ≠ [] → ∃ ad, A = some ad ∧ ad.block < w.heap.size ∧ ∀ (j : Nat) (n : Int), cs[j]? = some (.int .i64 n) → w.cell? (ad.add (k * es + j)) = some (.int .i64 n)
theorem sl_at {G : Gh} {w : World} {v : Value} {p : Bool} {es : Nat} {xs : List V} (H : Hold G w (obs [])) (h : G.Rep w v (.sl p es xs)) : ∃ (A : Option Addr) (c : Nat), v = .slice A xs.length c ∧ xs.length ≤ maxLen ∧ SlAt w A es xs := by
  have g0 := Rep.inv_sl h
  cases g0 with
  | slE A c => exact ⟨A, c, rfl, by simp, ⟨fun k cs hk => by simp at hk⟩⟩
  | sl ad m c _ _ _ u hm hc hmx hp' hl' hu' ho' hq' hr =>
    refine ⟨some ad, c, by rw [hm], by omega, ⟨fun k cs hk hne => ⟨ad, rfl, ?_, fun j n hj => ?_⟩⟩⟩
    · refine H.lt _ ?_
      cases p with
      | true => exact H.ij _ (by simpa using hp')
      | false => simpa using hp'
    · have q := hu' k (.agg cs) hk j (.int .i64 n) hj
      have q2 := hr k (.agg cs) hk j (.int .i64 n) hj
      rw [q]
      have := Rep.inv_int (Rep.g q2 : Rep (fun _ => none) w G.I G.J (u k j) (.int .i64 n))
      rw [this]
theorem SlAt.below {w w' : World} {A : Option Addr} {es : Nat} {xs : List V} (h : SlAt w A es xs) (hb : Below w.heap.size w w') : SlAt w' A es xs := by
  refine ⟨fun k cs hk hne => ?_⟩
  obtain ⟨ad, h1, h2, h3⟩ := h.hit k cs hk hne
  refine ⟨ad, h1, Nat.lt_of_lt_of_le h2 hb.size, fun j n hj => ?_⟩
  have e : (ad.add (k * es + j)).block = ad.block := by unfold Addr.add; split <;> rfl
  rw [← h3 j n hj]
  exact hb.cell (by rw [e]; exact h2)
theorem addF (ad : Addr) (a j : Nat) (h : 0 < j) : ad.add (a + j) = ⟨(ad.add a).block, (ad.add a).off + j, none⟩ := by
  unfold Addr.add
  rw [if_neg (by omega)]
  by_cases q : a = 0
  · subst q; simp
  · rw [if_neg q]; simp; omega
theorem zon_at {w : World} {A : Option Addr} {zs : List Zon} (h : SlAt w A 3 (zs.map encZon)) {k : Nat} {z : Zon} (he : zs[k]? = some z) :
    ∃ ad, A = some ad ∧ w.cell? (ad.add (k * 3)) = some (.int .i64 z.name) ∧ w.cell? ⟨(ad.add (k * 3)).block, (ad.add (k * 3)).off + 1, none⟩ = some (.int .i64 z.off) ∧ w.cell? ⟨(ad.add (k * 3)).block, (ad.add (k * 3)).off + 2, none⟩ = some (.int .i64 z.rule) := by
  obtain ⟨ad, h1, h2, h3⟩ := h.hit k _ (by rw [List.getElem?_map, he]; rfl) (by simp)
  refine ⟨ad, h1, h3 0 _ rfl, ?_, ?_⟩
  · rw [← addF _ _ 1 (by omega)]; exact h3 1 _ rfl
  · rw [← addF _ _ 2 (by omega)]; exact h3 2 _ rfl
theorem rul_at {w : World} {A : Option Addr} {zs : List Rul} (h : SlAt w A 9 (zs.map encRul)) {k : Nat} {z : Rul} (he : zs[k]? = some z) :
    ∃ ad, A = some ad ∧ w.cell? (ad.add (k * 9)) = some (.int .i64 z.name) ∧ w.cell? ⟨(ad.add (k * 9)).block, (ad.add (k * 9)).off + 1, none⟩ = some (.int .i64 z.from_) ∧ w.cell? ⟨(ad.add (k * 9)).block, (ad.add (k * 9)).off + 2, none⟩ = some (.int .i64 z.to)
      ∧ w.cell? ⟨(ad.add (k * 9)).block, (ad.add (k * 9)).off + 3, none⟩ = some (.int .i64 z.month) ∧ w.cell? ⟨(ad.add (k * 9)).block, (ad.add (k * 9)).off + 4, none⟩ = some (.int .i64 z.on.kind) ∧ w.cell? ⟨(ad.add (k * 9)).block, (ad.add (k * 9)).off + 5, none⟩ = some (.int .i64 z.on.day)
      ∧ w.cell? ⟨(ad.add (k * 9)).block, (ad.add (k * 9)).off + 6, none⟩ = some (.int .i64 z.on.week) ∧ w.cell? ⟨(ad.add (k * 9)).block, (ad.add (k * 9)).off + 7, none⟩ = some (.int .i64 z.at_) ∧ w.cell? ⟨(ad.add (k * 9)).block, (ad.add (k * 9)).off + 8, none⟩ = some (.int .i64 z.save) := by
  obtain ⟨ad, h1, h2, h3⟩ := h.hit k _ (by rw [List.getElem?_map, he]; rfl) (by simp)
  refine ⟨ad, h1, h3 0 _ rfl, ?_, ?_, ?_, ?_, ?_, ?_, ?_, ?_⟩
  · rw [← addF _ _ 1 (by omega)]; exact h3 1 _ rfl
  · rw [← addF _ _ 2 (by omega)]; exact h3 2 _ rfl
  · rw [← addF _ _ 3 (by omega)]; exact h3 3 _ rfl
  · rw [← addF _ _ 4 (by omega)]; exact h3 4 _ rfl
  · rw [← addF _ _ 5 (by omega)]; exact h3 5 _ rfl
  · rw [← addF _ _ 6 (by omega)]; exact h3 6 _ rfl
  · rw [← addF _ _ 7 (by omega)]; exact h3 7 _ rfl
  · rw [← addF _ _ 8 (by omega)]; exact h3 8 _ rfl
def posR (n : Int) : List Rul → Nat → Int
  | [], _ => -1
  | z :: l, i => if z.name = n then (i : Int) else posR n l (i + 1)
theorem posR_has (n : Int) (zs : List Rul) (i : Nat) : hasR n zs = decide (posR n zs i ≥ 0) := by
  induction zs generalizing i with
  | nil => simp [posR, hasR]
  | cons z l ih =>
    unfold posR hasR
    split
    · simp
    · exact ih (i + 1)
theorem posR_drop {l : List Rul} {a : Int} {k : Nat} {z : Rul} (he : l[k]? = some z) : posR a (l.drop k) k = if (z.name == a) = true then (k : Int) else posR a (l.drop (k + 1)) (k + 1) := by
  rw [dropCons he]; simp only [posR, beq_iff_eq]
theorem posZ_drop {l : List Zon} {a : Int} {k : Nat} {z : Zon} (he : l[k]? = some z) : posZ a (l.drop k) k = if (z.name == a) = true then (k : Int) else posZ a (l.drop (k + 1)) (k + 1) := by
  rw [dropCons he]; simp only [posZ, beq_iff_eq]
theorem inv_agg2 {G : Gh} {w : World} {v : Value} {a b c : V} (h : G.Rep w v (.agg [a, b, c])) : ∃ x y z, v = .agg #[x, y, z] ∧ G.Rep w x a ∧ G.Rep w y b ∧ G.Rep w z c := by
  obtain ⟨s, rfl, hn, hr⟩ := Rep.inv_agg h
  refine ⟨_, _, _, ?_, hr 0 _ rfl, hr 1 _ rfl, hr 2 _ rfl⟩
  congr 1
  apply Array.ext (by simpa using hn)
  intro i h1 h2
  have : i = 0 ∨ i = 1 ∨ i = 2 := by simp at h2; omega
  rcases this with rfl | rfl | rfl <;> simp [Array.getD, h1]
theorem sargs2 {args : Array Value} (h : args.size = 2) : args = #[args.getD 0 undef, args.getD 1 undef] := by
  apply Array.ext (by simpa using h)
  intro i h1 h2
  have : i = 0 ∨ i = 1 := by simp at h2; omega
  rcases this with rfl | rfl <;> simp [Array.getD, h1]
theorem join_g {P : Program} {f : Nat} (xs : List ByteArray) (sep R : ByteArray)
    (h0 : xs = [] → ∀ (a : Option Addr) (c : Nat) (w : World), Calls P f #[.slice a 0 c, .string sep] w fun e w' => e = .returned (.string R) ∧ Below w.heap.size w w')
    (h1 : ∀ (bk o c : Nat) (w : World), (∀ (j : Nat) x, xs[j]? = some x → w.cell? ⟨bk, o + j, none⟩ = some (.string x)) → bk < w.heap.size → xs.length ≤ c → Calls P f #[.slice (some ⟨bk, o, none⟩) xs.length c, .string sep] w fun e w' => e = .returned (.string R) ∧ Below w.heap.size w w') :
    FnSpec P f [.sl false 1 (xs.map encS), .str sep] [] (.str R) [] := by
  refine FnSpec.pure (.string R) (fun G w => .g (.str _)) ?_
  intro G w args H hn ha
  have g0 := Rep.inv_sl (ha 0 _ rfl)
  have g1 := Rep.inv_str (ha 1 _ rfl)
  rw [sargs2 hn, g1]
  generalize args.getD 0 undef = v at g0
  generalize hX : xs.map encS = X at g0
  cases g0 with
  | slE A c => exact h0 (List.map_eq_nil_iff.1 hX) A c w
  | sl ad m c _ _ _ u hm hc hmx hp' hl' hu' ho' hq' hr =>
    subst hX
    have hm' : m = xs.length := by rw [← hm, List.length_map]
    subst hm'
    cases xs with
    | nil => exact h0 rfl _ _ w
    | cons x l =>
      have cell : ∀ (j : Nat) (y : ByteArray), (x :: l)[j]? = some y → w.cell? (ad.add j) = some (.string y) := by
        intro j y hy
        have q := hu' j (encS y) (by rw [List.getElem?_map, hy]; rfl) 0 (.str y) rfl
        have q2 := hr j (encS y) (by rw [List.getElem?_map, hy]; rfl) 0 (.str y) rfl
        cases q2h : u j 0 with
        | string s => rw [q2h] at q2; cases q2; rw [show j * 1 + 0 = j by omega, q2h] at q; exact q
        | _ => rw [q2h] at q2; cases q2
      obtain ⟨bk, o, sp⟩ := ad
      have hsp : sp = none := by
        have q := cell 0 x rfl
        rw [show (⟨bk, o, sp⟩ : Addr).add 0 = ⟨bk, o, sp⟩ from by unfold Addr.add; rw [if_pos rfl]] at q
        unfold World.cell? at q
        simp only at q
        split at q
        · split at q
          · cases q
          · rename_i h; simpa using h
        · cases q
      subst hsp
      refine h1 bk o c w (fun j y hy => by rw [← add_lit]; exact cell j y hy) ?_ hc
      exact H.lt _ (by simpa using hp')
end Go.Sy
end

section
set_option linter.unusedVariables false
set_option linter.unusedSimpArgs false
namespace Go.Sy
open Go.RowKit
def cutB (c : UInt8) : List UInt8 → List (List UInt8)
  | [] => [[]]
  | b :: l => if b = c then [] :: cutB c l else (b :: (cutB c l).headD []) :: (cutB c l).tail
theorem cutB_ne (c : UInt8) (l : List UInt8) : cutB c l ≠ [] := by
  cases l with
  | nil => simp [cutB]
  | cons b l => unfold cutB; split <;> simp
theorem idx_cut (c : UInt8) (s : List UInt8) : (Lib.index s [c] = -1 ∧ cutB c s = [s]) ∨ ∃ i : Nat, Lib.index s [c] = i ∧ i < s.length ∧ cutB c s = s.take i :: cutB c (s.drop (i + 1)) := by
  induction s with
  | nil => exact .inl ⟨rfl, rfl⟩
  | cons b l ih =>
    have hp : [c].isPrefixOf (b :: l) = (c == b) := by simp [List.isPrefixOf]
    by_cases q : b = c
    · subst q
      refine .inr ⟨0, ?_, by simp, ?_⟩
      · unfold Lib.index; rw [hp, if_pos (by simp)]; rfl
      · rw [cutB, if_pos rfl]; rfl
    · have hq : (c == b) = false := by simpa using fun h => q h.symm
      rcases ih with ⟨h1, h2⟩ | ⟨i, h1, h2, h3⟩
      · refine .inl ⟨?_, ?_⟩
        · unfold Lib.index; rw [hp, hq, if_neg (by simp), h1]; rfl
        · rw [cutB, if_neg q, h2]; rfl
      · refine .inr ⟨i + 1, ?_, by simp; omega, ?_⟩
        · unfold Lib.index
          rw [hp, hq, if_neg (by simp), h1, if_neg (by simp)]; omega
        · rw [cutB, if_neg q, h3]; rfl
theorem split_cut (c : UInt8) : ∀ (n : Nat) (s : List UInt8), s.length ≤ n → Lib.splitK [c] 0 (Lib.count s [c]) s = cutB c s := by
  intro n
  induction n with
  | zero =>
    intro s h
    have : s = [] := List.length_eq_zero_iff.1 (by omega)
    subst this
    rw [Lib.count_miss rfl]; rfl
  | succ n ih =>
    intro s h
    rcases idx_cut c s with ⟨h1, h2⟩ | ⟨i, h1, h2, h3⟩
    · rw [Lib.count_miss h1, h2]; rfl
    · rw [Lib.count_hit (by simp) h1, Nat.add_comm, Lib.splitK, h1, if_neg (by simp), h3]
      congr 1
      have := ih (s.drop (i + 1)) (by rw [List.length_drop]; omega)
      rw [← this]
      rfl
theorem cut_line {c : UInt8} {l r : List UInt8} (h : c ∉ l) : cutB c (l ++ c :: r) = l :: cutB c r := by
  induction l with
  | nil => simp [cutB]
  | cons b l ih =>
    rw [List.mem_cons, not_or] at h
    rw [List.cons_append, cutB, if_neg (fun e => h.1 e.symm), ih h.2]; rfl
theorem cut_one {c : UInt8} {l : List UInt8} (h : c ∉ l) : cutB c l = [l] := by
  induction l with
  | nil => rfl
  | cons b l ih =>
    rw [List.mem_cons, not_or] at h
    rw [cutB, if_neg (fun e => h.1 e.symm), ih h.2]; rfl
def tot : List (List UInt8) → Nat
  | [] => 0
  | l :: r => l.length + 1 + tot r
theorem tot_cut (c : UInt8) (l : List UInt8) : tot (cutB c l) = l.length + 1 := by
  induction l with
  | nil => rfl
  | cons b l ih =>
    unfold cutB
    split
    · simp only [tot, ih, List.length_nil, List.length_cons]; omega
    · have hn := cutB_ne c l
      revert ih hn
      cases cutB c l with
      | nil => intro _ h; exact absurd rfl h
      | cons w ws =>
        intro ih _
        simp only [tot, List.headD_cons, List.tail_cons, List.length_cons] at ih ⊢
        omega
def joinC (c : UInt8) : List (List UInt8) → List UInt8
  | [] => []
  | [w] => w
  | w :: v :: r => w ++ c :: joinC c (v :: r)
theorem join_cut (c : UInt8) (l : List UInt8) : joinC c (cutB c l) = l := by
  induction l with
  | nil => rfl
  | cons b l ih =>
    unfold cutB
    have hn := cutB_ne c l
    revert ih hn
    cases cutB c l with
    | nil => intro _ h; exact absurd rfl h
    | cons w ws =>
      intro ih _
      split
      · rename_i e
        rw [joinC, ih, e]; rfl
      · cases ws with
        | nil => simp only [List.headD_cons, List.tail_cons, joinC] at ih ⊢; rw [ih]
        | cons v r => simp only [List.headD_cons, List.tail_cons, joinC] at ih ⊢; rw [← ih]; rfl
def d4 (n : Nat) : List UInt8 :=
  if n < 10 then [UInt8.ofNat (48 + n)] else if n < 100 then [UInt8.ofNat (48 + n / 10), UInt8.ofNat (48 + n % 10)]
  else if n < 1000 then [UInt8.ofNat (48 + n / 10 / 10), UInt8.ofNat (48 + n / 10 % 10), UInt8.ofNat (48 + n % 10)]
  else [UInt8.ofNat (48 + n / 10 / 10 / 10), UInt8.ofNat (48 + n / 10 / 10 % 10), UInt8.ofNat (48 + n / 10 % 10), UInt8.ofNat (48 + n % 10)]
theorem dec_big {n : Nat} (h : ¬ n < 10) : Lib.decDigits n = Lib.decDigits (n / 10) ++ [UInt8.ofNat (48 + n % 10)] := by rw [Lib.decDigits, dif_neg h]
theorem dec_d4 {n : Nat} (h : n < 10000) : Lib.decDigits n = d4 n := by
  unfold d4
  by_cases h1 : n < 10
  · rw [if_pos h1, Lib.decDigits_one h1]
  rw [if_neg h1]
  by_cases h2 : n < 100
  · rw [if_pos h2, Lib.decDigits_two h1 h2]
  rw [if_neg h2]
  by_cases h3 : n < 1000
  · rw [if_pos h3, dec_big h1, Lib.decDigits_two (by omega) (by omega)]; rfl
  · rw [if_neg h3, dec_big h1, dec_big (by omega), Lib.decDigits_two (by omega) (by omega)]; rfl
def D4P (n : Nat) : Prop := Lib.parseMag (d4 n) = .ok n ∧ dgo 0 (d4 n) = some (n : Int) ∧ 1 ≤ (d4 n).length ∧ (d4 n).length ≤ 4 ∧ (d4 n).headD 0 ≠ 45 ∧ (d4 n).headD 0 ≠ 43 ∧ (d4 n) ≠ []
instance (n : Nat) : Decidable (D4P n) := by unfold D4P; infer_instance
theorem d4_all : ∀ a, a < 100 → ∀ b, b < 100 → D4P (100 * a + b) := by decide +kernel
theorem d4_p {n : Nat} (h : n < 10000) : D4P n := by
  have := d4_all (n / 100) (by omega) (n % 100) (by omega)
  rwa [show 100 * (n / 100) + n % 100 = n by omega] at this
theorem dec_len {n : Nat} : ∀ k, 10 ^ k ≤ n → k + 1 ≤ (Lib.decDigits n).length := by
  intro k
  induction k generalizing n with
  | zero =>
    intro _
    by_cases h : n < 10
    · rw [Lib.decDigits_one h]; simp
    · rw [dec_big h]; simp
  | succ k ih =>
    intro h
    have h1 : ¬ n < 10 := by
      have : 10 ^ (k + 1) = 10 ^ k * 10 := Nat.pow_succ ..
      have : 1 ≤ 10 ^ k := Nat.pos_of_ne_zero (by simp)
      omega
    rw [dec_big h1, List.length_append]
    have := ih (n := n / 10) (by rw [Nat.le_div_iff_mul_le (by omega)]; rw [Nat.pow_succ] at h; exact h)
    simp only [List.length_cons, List.length_nil]; omega
theorem dec_bytes (n : Nat) : ∀ b ∈ Lib.decDigits n, 48 ≤ b.toNat ∧ b.toNat ≤ 57 := by
  induction n using Nat.strongRecOn with
  | _ n ih =>
    intro b hb
    have dg : ∀ k, k < 10 → 48 ≤ (UInt8.ofNat (48 + k)).toNat ∧ (UInt8.ofNat (48 + k)).toNat ≤ 57 := by decide
    by_cases h : n < 10
    · rw [Lib.decDigits_one h, List.mem_singleton] at hb
      subst hb; exact dg n h
    · rw [dec_big h, List.mem_append, List.mem_singleton] at hb
      rcases hb with hb | rfl
      · exact ih (n / 10) (by omega) b hb
      · exact dg _ (by omega)
theorem itoa_bytes (n : Int) : ∀ b ∈ Lib.itoa n, 45 ≤ b.toNat ∧ b.toNat ≤ 57 := by
  intro b hb
  unfold Lib.itoa at hb
  split at hb
  · rcases List.mem_cons.1 hb with rfl | hb
    · decide
    · have := dec_bytes _ b hb; omega
  · have := dec_bytes _ b hb; omega
theorem itoa_pos {n : Int} (h : 0 ≤ n) : Lib.itoa n = Lib.decDigits n.toNat := by unfold Lib.itoa; rw [if_neg (by omega)]
theorem itoa_neg {n : Int} (h : n < 0) : Lib.itoa n = 45 :: Lib.decDigits n.natAbs := by unfold Lib.itoa; rw [if_pos h]
theorem dec_no45 (n : Nat) (r : List UInt8) (c : UInt8) (h : Lib.decDigits n = c :: r) : c ≠ 45 := by
  intro e
  have := dec_bytes n c (by rw [h]; simp)
  rw [e] at this
  exact absurd this.1 (by decide)
theorem minus_itoa (n : Int) : minus (Lib.itoa n) = if n < 0 then 1 else 0 := by
  by_cases h : n < 0
  · rw [itoa_neg h, if_pos h]; rfl
  · rw [itoa_pos (by omega), if_neg h]
    have := dec_no45 n.toNat
    revert this
    cases Lib.decDigits n.toNat with
    | nil => intro _; rfl
    | cons c r => intro q; show (if c = 45 then 1 else 0) = 0; rw [if_neg (q r c rfl)]
theorem trim_itoa (n : Int) : Lib.trimPrefix (Lib.itoa n) [45] = Lib.decDigits n.natAbs := by
  by_cases h : n < 0
  · rw [itoa_neg h]; rfl
  · rw [itoa_pos (by omega), show n.toNat = n.natAbs by omega]
    have := dec_no45 n.natAbs
    unfold Lib.trimPrefix Lib.hasPrefix
    revert this
    cases Lib.decDigits n.natAbs with
    | nil => intro _; rfl
    | cons c r => intro q; rw [if_neg]; simp [List.isPrefixOf]; exact fun e => q r c rfl e.symm
theorem atoi_itoa {n : Int} (h : -10000 < n ∧ n < 10000) : Lib.atoiAll (Lib.itoa n) = .ok n := by
  have hp := d4_p (n := n.natAbs) (by omega)
  obtain ⟨p1, _, _, _, p5, p6, p7⟩ := hp
  by_cases q : n < 0
  · rw [itoa_neg q, dec_d4 (by omega)]
    unfold Lib.atoiAll
    simp only
    rw [if_pos (.inr (by decide)), p1]
    simp only
    rw [if_neg (by simp), if_neg (by intro e; omega), if_pos (by decide)]
    congr 1; omega
  · rw [itoa_pos (by omega), show n.toNat = n.natAbs by omega, dec_d4 (by omega)]
    unfold Lib.atoiAll
    revert p1 p5 p6 p7
    cases d4 n.natAbs with
    | nil => intro _ _ _ h; exact absurd rfl h
    | cons c r =>
      intro p1 p5 p6 _
      have c1 : ¬ c.toNat = 45 := fun e => p5 (UInt8.toNat_inj.1 e)
      have c2 : ¬ c.toNat = 43 := fun e => p6 (UInt8.toNat_inj.1 e)
      simp only
      rw [if_neg (by omega), p1]
      simp only
      rw [if_neg (by omega), if_neg (by omega), if_neg c1]
      congr 1; omega
theorem rdN_itoa {n : Int} (h : -10000 < n ∧ n < 10000) : rdN (Lib.itoa n) 4 = (n, true) := by
  have hp := d4_p (n := n.natAbs) (by omega)
  unfold rdN
  rw [atoi_itoa h]
  dsimp only
  rw [if_pos ⟨rfl, by rw [trim_itoa, dec_d4 (by omega)]; have := hp.2.2.2.1; omega⟩]
theorem rd4_itoa {n : Int} (h : -10000 < n ∧ n < 10000) : rd4 (Lib.itoa n) = (n, true) := by
  have hp := d4_p (n := n.natAbs) (by omega)
  obtain ⟨_, p2, p3, p4, _⟩ := hp
  unfold rd4
  rw [minus_itoa]
  by_cases q : n < 0
  · rw [if_pos q, itoa_neg q, dec_d4 (by omega)]
    rw [if_pos (by rw [inR_iff, List.length_cons]; omega), List.drop_one, List.tail_cons, p2]
    dsimp only
    rw [if_pos rfl, show 0 - (n.natAbs : Int) = n by omega, if_pos (by rw [itoa_neg q, dec_d4 (by omega)])]
  · rw [if_neg q, itoa_pos (by omega), show n.toNat = n.natAbs by omega, dec_d4 (by omega)]
    rw [if_pos (by rw [inR_iff]; omega), List.drop_zero, p2]
    dsimp only
    rw [if_neg (show ¬ ((0 : Nat) = 1) by decide), if_pos (by rw [itoa_pos (by omega), Int.toNat_natCast, dec_d4 (by omega)])]
    rw [show (n.natAbs : Int) = n by omega]
theorem few_digits {n : Int} (h : (Lib.decDigits n.natAbs).length ≤ 4) : -10000 < n ∧ n < 10000 := by
  by_cases q : n.natAbs < 10000
  · omega
  · have := dec_len (n := n.natAbs) 4 (by omega)
    omega
theorem rdN_fits {w : List UInt8} (h : (rdN w 4).2 = true) : ∃ n, w = Lib.itoa n ∧ -10000 < n ∧ n < 10000 := by
  have h0 := itoa_in h
  refine ⟨(rdN w 4).1, h0.symm, few_digits ?_⟩
  rw [← trim_itoa, h0]
  unfold rdN at h
  split at h
  · split at h
    · rename_i q; omega
    · simp at h
  · simp at h
theorem rd4_fits {w : List UInt8} (h : (rd4 w).2 = true) : ∃ n, w = Lib.itoa n ∧ -10000 < n ∧ n < 10000 := by
  have h0 := itoa_rd4 h
  refine ⟨(rd4 w).1, h0.symm, few_digits ?_⟩
  unfold rd4 at h
  split at h
  · rename_i q
    rw [inR_iff] at q
    rw [← h0, minus_itoa] at q
    rw [h0] at q
    have e : w.length = (Lib.itoa (rd4 w).1).length := by rw [h0]
    by_cases s : (rd4 w).1 < 0
    · rw [if_pos s] at q
      rw [itoa_neg s, List.length_cons] at e
      omega
    · rw [if_neg s] at q
      rw [itoa_pos (by omega), show (rd4 w).1.toNat = (rd4 w).1.natAbs by omega] at e
      omega
  · simp at h
theorem rdN_zero {w : List UInt8} {m : Int} (h : (rdN w m).2 = false) : rdN w m = (0, false) := by
  unfold rdN at h ⊢
  split
  · rename_i n hn
    rw [hn] at h
    dsimp only at h
    split
    · rename_i q; rw [if_pos q] at h; simp at h
    · rfl
  · rfl
theorem rd4_zero {w : List UInt8} (h : (rd4 w).2 = false) : rd4 w = (0, false) := by
  unfold rd4 at h ⊢
  split
  · rename_i q
    rw [if_pos q] at h
    split
    · rfl
    · rename_i x hx
      rw [hx] at h
      dsimp only at h
      by_cases e : Lib.itoa (if minus w = 1 then 0 - x else x) = w
      · rw [if_pos e] at h; simp at h
      · rw [if_neg e]
  · rfl
theorem num_eq (w : List UInt8) : rdN w 4 = rd4 w := by
  cases h : (rdN w 4).2 with
  | true =>
    obtain ⟨n, rfl, hn⟩ := rdN_fits h
    rw [rdN_itoa hn, rd4_itoa hn]
  | false =>
    cases h2 : (rd4 w).2 with
    | true =>
      obtain ⟨n, rfl, hn⟩ := rd4_fits h2
      rw [rdN_itoa hn] at h
      exact absurd h (by simp)
    | false => rw [rdN_zero h, rd4_zero h2]
end Go.Sy
end

section
set_option linter.unusedVariables false
set_option linter.unusedSimpArgs false
namespace Go.Sy
open Go.RowKit
def wat (ws : List (List UInt8)) (i : Nat) : List UInt8 := ws.getD i []
def nm (w : List UInt8) : Int := match w with
  | [c] => (c.toNat : Int)
  | _ => 0
def nmS (w : List UInt8) : Int := match w with
  | [c] => (c.toNat : Int)
  | _ => -1
def nmD (w : List UInt8) : Int := match w with
  | [c] => if c = 45 then 0 else (c.toNat : Int)
  | _ => -1
def rulW (ws : List (List UInt8)) : Rul := ⟨nm (wat ws 1), (rd4 (wat ws 2)).1, (rd4 (wat ws 3)).1, (rd4 (wat ws 4)).1, (onRI (wat ws 5)).1, (rd4 (wat ws 6)).1, (rd4 (wat ws 7)).1⟩
def numsOk (ws : List (List UInt8)) : Bool := (rd4 (wat ws 2)).2 && ((rd4 (wat ws 3)).2 && ((rd4 (wat ws 4)).2 && ((rd4 (wat ws 6)).2 && (rd4 (wat ws 7)).2)))
def rulOk (ws : List (List UInt8)) : Bool := numsOk ws && ((onRI (wat ws 5)).2 && ruleOk (rulW ws))
def rulS (ws : List (List UInt8)) : Rul := ⟨nmS (wat ws 1), (rd4 (wat ws 2)).1, (rd4 (wat ws 3)).1, (rd4 (wat ws 4)).1, (onRS (wat ws 5)).1, (rd4 (wat ws 6)).1, (rd4 (wat ws 7)).1⟩
def zonW (ws : List (List UInt8)) : Zon := ⟨nm (wat ws 1), (rd4 (wat ws 2)).1, if wat ws 3 = [45] then 0 else nm (wat ws 3)⟩
def zonOk (ws : List (List UInt8)) : Bool := (decide (wat ws 3 = [45]) || inR (nm (wat ws 3)) 97 122) && ((rd4 (wat ws 2)).2 && zoneOk (zonW ws))
def zonS (ws : List (List UInt8)) : Zon := ⟨nmS (wat ws 1), (rd4 (wat ws 2)).1, nmD (wat ws 3)⟩
def zonOkS (ws : List (List UInt8)) : Bool := (rd4 (wat ws 2)).2 && (inR (zonS ws).name 65 90 && (inR (zonS ws).off (-900) 900 && ((zonS ws).rule == 0 || inR (zonS ws).rule 97 122)))
def lnkW (ws : List (List UInt8)) : Lnk := ⟨nm (wat ws 1), nm (wat ws 2)⟩
def lnkOk (ws : List (List UInt8)) : Bool := inR (nm (wat ws 1)) 65 90 && inR (nm (wat ws 2)) 65 90
def stepR (s : Srce) (ws : List (List UInt8)) : Srce × Int :=
  if rulOk ws = false then (s, 5) else if 0 < s.zones.length + s.links.length ∨ s.rules.length = 20 then (s, 6) else (⟨s.rules ++ [rulW ws], s.zones, s.links⟩, 0)
def stepZ (ok : Bool) (z : Zon) (s : Srce) : Srce × Int :=
  if ok = false then (s, 5) else if 0 < s.links.length ∨ zone1 s.rules (lastZ s.zones) z = false then (s, 6) else (⟨s.rules, s.zones ++ [z], s.links⟩, 0)
def stepL (s : Srce) (ws : List (List UInt8)) : Srce × Int :=
  if lnkOk ws = false then (s, 5) else if link1 s.zones (lastL s.links) (lnkW ws) = false then (s, 6) else (⟨s.rules, s.zones, s.links ++ [lnkW ws]⟩, 0)
def wRule : List UInt8 := [114, 117, 108, 101]
def wZone : List UInt8 := [122, 111, 110, 101]
def wLink : List UInt8 := [108, 105, 110, 107]
def stepW (ok : Bool) (z : Zon) (s : Srce) (ws : List (List UInt8)) : Srce × Int :=
  if wat ws 0 = wRule then (if ws.length = 8 then stepR s ws else (s, 4))
  else if wat ws 0 = wZone then (if ws.length = 4 then stepZ ok z s else (s, 4))
  else if wat ws 0 = wLink then (if ws.length = 3 then stepL s ws else (s, 4))
  else (s, 3)
theorem stepW_rule {ok : Bool} {z : Zon} {s : Srce} {ws : List (List UInt8)} (h0 : wat ws 0 = wRule) (h8 : ws.length = 8) : stepW ok z s ws = stepR s ws := by unfold stepW; rw [if_pos h0, if_pos h8]
theorem stepW_zone {ok : Bool} {z : Zon} {s : Srce} {ws : List (List UInt8)} (h0 : wat ws 0 = wZone) (h8 : ws.length = 4) : stepW ok z s ws = stepZ ok z s := by unfold stepW; rw [if_neg (by rw [h0]; decide), if_pos h0, if_pos h8]
theorem stepW_link {ok : Bool} {z : Zon} {s : Srce} {ws : List (List UInt8)} (h0 : wat ws 0 = wLink) (h8 : ws.length = 3) : stepW ok z s ws = stepL s ws := by unfold stepW; rw [if_neg (by rw [h0]; decide), if_neg (by rw [h0]; decide), if_pos h0, if_pos h8]
def lineI (s : Srce) (l : List UInt8) : Srce × Int := stepW (zonOk (cutB 32 l)) (zonW (cutB 32 l)) s (cutB 32 l)
def lineS (s : Srce) (l : List UInt8) : Srce × Int := stepW (zonOkS (cutB 32 l)) (zonS (cutB 32 l)) s (cutB 32 l)
def zSrc : Srce := ⟨[], [], []⟩
def runP (f : Srce → List UInt8 → Srce × Int) : Srce → Int → List (List UInt8) → Srce × Int × Int
  | s, n, [] => (s, n, 0)
  | s, n, l :: r =>
    if r = [] then (if l = [] then (s, n, 0) else (zSrc, n, 2))
    else if l = [] ∨ l.head? = some 35 then runP f s (n + 1) r
    else if (f s l).2 = 0 then runP f (f s l).1 (n + 1) r
    else (zSrc, n, (f s l).2)
def parP (f : Srce → List UInt8 → Srce × Int) (t : List UInt8) : Srce × Int × Int := if t.length > 1000 then (zSrc, 0, 1) else runP f zSrc 0 (cutB 10 t)
theorem cut_mem {c b : UInt8} {l : List UInt8} (h : b ∉ l) : ∀ w ∈ cutB c l, b ∉ w := by
  induction l with
  | nil => intro w hw; simp [cutB] at hw; subst hw; simp
  | cons a l ih =>
    rw [List.mem_cons, not_or] at h
    have ih := ih h.2
    intro w hw
    unfold cutB at hw
    split at hw
    · rcases List.mem_cons.1 hw with rfl | hw
      · simp
      · exact ih w hw
    · have hn := cutB_ne c l
      revert ih hw hn
      cases cutB c l with
      | nil => intro _ _ h; exact absurd rfl h
      | cons v vs =>
        intro ih hw _
        simp only [List.headD_cons, List.tail_cons] at hw
        rcases List.mem_cons.1 hw with rfl | hw
        · rw [List.mem_cons, not_or]; exact ⟨h.1, ih v (by simp)⟩
        · exact ih w (by simp [hw])
theorem wat_mem {ws : List (List UInt8)} {b : UInt8} (h : ∀ w ∈ ws, b ∉ w) (i : Nat) : b ∉ wat ws i := by
  unfold wat
  rw [List.getD_eq_getElem?_getD]
  cases q : ws[i]? with
  | none => simp
  | some w => exact h w (List.mem_of_getElem? q)
theorem zon_both {ws : List (List UInt8)} (h : ∀ w ∈ ws, (0 : UInt8) ∉ w) : zonOk ws = zonOkS ws ∧ (zonOk ws = true → zonW ws = zonS ws) := by
  have h3 := wat_mem h 3
  unfold zonOk zonOkS zoneOk zonW zonS
  have n1 : inR (nm (wat ws 1)) 65 90 = inR (nmS (wat ws 1)) 65 90 ∧ (inR (nm (wat ws 1)) 65 90 = true → nm (wat ws 1) = nmS (wat ws 1)) := by
    rcases wat ws 1 with _ | ⟨c, _ | ⟨d, r⟩⟩
    · exact ⟨by decide, fun h => absurd h (by decide)⟩
    · exact ⟨rfl, fun _ => rfl⟩
    · exact ⟨(by decide : inR 0 65 90 = inR (-1) 65 90), fun h => absurd h (by decide : ¬ inR 0 65 90 = true)⟩
  have n3 : ((decide (wat ws 3 = [45]) || inR (nm (wat ws 3)) 97 122) = (nmD (wat ws 3) == 0 || inR (nmD (wat ws 3)) 97 122)) ∧ ((decide (wat ws 3 = [45]) || inR (nm (wat ws 3)) 97 122) = true → (if wat ws 3 = [45] then 0 else nm (wat ws 3)) = nmD (wat ws 3))
      ∧ (((if wat ws 3 = [45] then 0 else nm (wat ws 3)) == 0 || inR (if wat ws 3 = [45] then 0 else nm (wat ws 3)) 97 122) = true ∨ (decide (wat ws 3 = [45]) || inR (nm (wat ws 3)) 97 122) = false) := by
    revert h3
    rcases wat ws 3 with _ | ⟨c, _ | ⟨d, r⟩⟩
    · intro _; simp [nm, nmD, inR]
    · intro h3
      have hc : c ≠ 0 := fun e => h3 (by simp [e])
      have hc2 : ¬ ((c.toNat : Int) = 0) := fun e => hc (UInt8.toNat_inj.1 (by show c.toNat = 0; omega))
      by_cases q : c = 45
      · subst q; simp [nm, nmD]
      · have hb : ((c.toNat : Int) == 0) = false := beq_eq_false_iff_ne.2 hc2
        simp only [nm, nmD, q, List.cons.injEq, and_true, if_false, decide_false, Bool.false_or, hb]
        refine ⟨trivial, fun _ => trivial, ?_⟩
        cases inR (c.toNat : Int) 97 122 <;> simp
    · intro _; simp [nm, nmD, inR]
  refine ⟨?_, ?_⟩
  · rw [n1.1]
    cases a : (decide (wat ws 3 = [45]) || inR (nm (wat ws 3)) 97 122) with
    | true =>
      rw [a] at n3
      rw [← n3.1, (n3.2.2.resolve_right (by simp))]
      simp
    | false =>
      rw [a] at n3
      rw [← n3.1]
      simp
  · intro hz
    simp only [Bool.and_eq_true] at hz
    rw [n1.2 hz.2.2.1, n3.2.1 hz.1]
theorem stepW_ok (s : Srce) (ws : List (List UInt8)) {a b : Bool} {y z : Zon} (h : a = b) (h2 : a = true → y = z) : stepW a y s ws = stepW b z s ws := by
  subst h
  cases a with
  | true => rw [h2 rfl]
  | false =>
    unfold stepW stepZ
    simp
theorem line_both {s : Srce} {l : List UInt8} (h : (0 : UInt8) ∉ l) : lineI s l = lineS s l :=
  stepW_ok s _ (zon_both (cut_mem h)).1 (zon_both (cut_mem h)).2
theorem run_both : ∀ {ls : List (List UInt8)} {s : Srce} {n : Int}, (∀ w ∈ ls, (0 : UInt8) ∉ w) → runP lineI s n ls = runP lineS s n ls := by
  intro ls
  induction ls with
  | nil => intro s n _; rfl
  | cons l r ih =>
    intro s n h
    have h2 : ∀ w ∈ r, (0 : UInt8) ∉ w := fun w hw => h w (by simp [hw])
    unfold runP
    rw [line_both (h l (by simp)), ih h2, ih h2]
theorem par_both {t : List UInt8} (h : (0 : UInt8) ∉ t) : parP lineI t = parP lineS t := by
  unfold parP; rw [run_both (cut_mem h)]
end Go.Sy
end

section
set_option linter.unusedVariables false
set_option linter.unusedSimpArgs false
namespace Go.Sy
open Go.RowKit
theorem cut_join {c : UInt8} : ∀ {ws : List (List UInt8)}, ws ≠ [] → (∀ w ∈ ws, c ∉ w) → cutB c (joinC c ws) = ws := by
  intro ws
  induction ws with
  | nil => intro h; exact absurd rfl h
  | cons w r ih =>
    intro _ h
    cases r with
    | nil => exact cut_one (h w (by simp))
    | cons v r => rw [joinC, cut_line (h w (by simp)), ih (by simp) (fun x hx => h x (by simp [hx]))]
theorem no_join {c b : UInt8} (hb : b ≠ c) : ∀ {ws : List (List UInt8)}, (∀ w ∈ ws, b ∉ w) → b ∉ joinC c ws := by
  intro ws
  induction ws with
  | nil => intro _; simp [joinC]
  | cons w r ih =>
    intro h
    cases r with
    | nil => exact h w (by simp)
    | cons v r =>
      rw [joinC, List.mem_append, not_or, List.mem_cons, not_or]
      exact ⟨h w (by simp), hb, ih (fun x hx => h x (by simp [hx]))⟩
def Hi (w : List UInt8) : Prop := ∀ b ∈ w, 45 ≤ b.toNat
theorem Hi.no {w : List UInt8} (h : Hi w) {c : UInt8} (hc : c.toNat < 45) : c ∉ w := fun hm => by have := h c hm; omega
theorem hi_itoa (n : Int) : Hi (Lib.itoa n) := fun b hb => (itoa_bytes n b hb).1
theorem u8_nat {n : Int} (h : 0 ≤ n ∧ n ≤ 255) : (u8Of n).toNat = n.toNat := by
  unfold u8Of
  rw [UInt8.toNat_ofNat']
  omega
theorem hi_let {n : Int} (h : n = 0 ∨ (45 ≤ n ∧ n ≤ 255)) : Hi (letT n) := by
  intro b hb
  unfold letT at hb
  split at hb
  · rw [List.mem_singleton] at hb; subst hb; decide
  · rw [List.mem_singleton] at hb; subst hb
    rw [u8_nat (by omega)]; omega
theorem hi_app {a b : List UInt8} (ha : Hi a) (hb : Hi b) : Hi (a ++ b) := fun x hx => by
  rcases List.mem_append.1 hx with h | h
  · exact ha x h
  · exact hb x h
theorem hi_tx (o : On) : Hi (txO o) := by
  unfold txO
  split
  · intro b hb; simp at hb
  split
  · exact hi_itoa _
  split
  · exact hi_app (by unfold Hi; decide) (hi_itoa _)
  · exact hi_app (hi_app (hi_itoa _) (by unfold Hi; decide)) (hi_itoa _)
def rulWs (r : Rul) : List (List UInt8) := [wRule, letT r.name, Lib.itoa r.from_, Lib.itoa r.to, Lib.itoa r.month, txO r.on, Lib.itoa r.at_, Lib.itoa r.save]
def zonWs (z : Zon) : List (List UInt8) := [wZone, letT z.name, Lib.itoa z.off, letT z.rule]
def lnkWs (l : Lnk) : List (List UInt8) := [wLink, letT l.name, letT l.to]
theorem rul_line (r : Rul) : ruleT r = joinC 32 (rulWs r) ++ [10] := by
  simp only [rulWs, joinC, ruleT, wRule, List.append_assoc, List.cons_append, List.nil_append]
theorem zon_line (r : Zon) : zoneT r = joinC 32 (zonWs r) ++ [10] := by
  simp only [zonWs, joinC, zoneT, wZone, List.append_assoc, List.cons_append, List.nil_append]
theorem lnk_line (r : Lnk) : linkT r = joinC 32 (lnkWs r) ++ [10] := by
  simp only [lnkWs, joinC, linkT, wLink, List.append_assoc, List.cons_append, List.nil_append]
theorem nm_let {n : Int} (h : 0 < n ∧ n ≤ 255) : nm (letT n) = n := by
  unfold letT
  rw [if_neg (by omega)]
  show ((u8Of n).toNat : Int) = n
  rw [u8_nat (by omega)]; omega
theorem let_nm {w : List UInt8} (h : 0 < nm w) : letT (nm w) = w := by
  rcases w with _ | ⟨c, _ | ⟨d, r⟩⟩
  · simp [nm] at h
  · unfold letT
    show (if (c.toNat : Int) = 0 then [45] else [u8Of (c.toNat : Int)]) = [c]
    have hc : 0 < (c.toNat : Int) := h
    rw [if_neg (by omega)]
    congr 1
    apply UInt8.toNat_inj.1
    rw [u8_nat (by have := UInt8.toNat_lt c; omega)]; omega
  · simp [nm] at h
theorem hi_rul {r : Rul} (h : ruleOk r = true) : ∀ w ∈ rulWs r, Hi w := by
  have hb := ruleNums h
  intro w hw
  simp only [rulWs, List.mem_cons, List.not_mem_nil, or_false] at hw
  rcases hw with rfl | rfl | rfl | rfl | rfl | rfl | rfl | rfl
  · unfold Hi; decide
  · exact hi_let (by omega)
  · exact hi_itoa _
  · exact hi_itoa _
  · exact hi_itoa _
  · exact hi_tx _
  · exact hi_itoa _
  · exact hi_itoa _
theorem hi_zon {z : Zon} (h : 45 ≤ z.name ∧ z.name ≤ 255) (h2 : z.rule = 0 ∨ (45 ≤ z.rule ∧ z.rule ≤ 255)) : ∀ w ∈ zonWs z, Hi w := by
  intro w hw
  simp only [zonWs, List.mem_cons, List.not_mem_nil, or_false] at hw
  rcases hw with rfl | rfl | rfl | rfl
  · unfold Hi; decide
  · exact hi_let (.inr h)
  · exact hi_itoa _
  · exact hi_let h2
theorem hi_lnk {z : Lnk} (h : 45 ≤ z.name ∧ z.name ≤ 255) (h2 : 45 ≤ z.to ∧ z.to ≤ 255) : ∀ w ∈ lnkWs z, Hi w := by
  intro w hw
  simp only [lnkWs, List.mem_cons, List.not_mem_nil, or_false] at hw
  rcases hw with rfl | rfl | rfl
  · unfold Hi; decide
  · exact hi_let (.inr h)
  · exact hi_let (.inr h2)
theorem rul_read {r : Rul} (h : ruleOk r = true) : rulOk (rulWs r) = true ∧ rulW (rulWs r) = r := by
  have hb := ruleNums h
  have e : rulW (rulWs r) = r := by
    unfold rulW
    simp only [rulWs, wat, List.getD_eq_getElem?_getD, List.getElem?_cons_succ, List.getElem?_cons_zero, Option.getD_some]
    rw [nm_let (by omega), rd4_itoa (by omega), rd4_itoa (by omega), rd4_itoa (by omega), rd4_itoa (by omega), rd4_itoa (by omega), ri_vd ⟨hb.2.2.2.1, rfl⟩]
  refine ⟨?_, e⟩
  unfold rulOk numsOk
  rw [e, h]
  simp only [rulWs, wat, List.getD_eq_getElem?_getD, List.getElem?_cons_succ, List.getElem?_cons_zero, Option.getD_some]
  rw [rd4_itoa (by omega), rd4_itoa (by omega), rd4_itoa (by omega), rd4_itoa (by omega), rd4_itoa (by omega), ri_vd ⟨hb.2.2.2.1, rfl⟩]
  rfl
theorem line_rule {rs : List Rul} {r : Rul} (h : ruleOk r = true) (hl : rs.length < 20) : lineI ⟨rs, [], []⟩ (joinC 32 (rulWs r)) = (⟨rs ++ [r], [], []⟩, 0) := by
  unfold lineI
  rw [cut_join (by simp [rulWs]) (fun w hw => (hi_rul h w hw).no (by decide))]
  rw [stepW_rule rfl rfl]
  unfold stepR
  rw [(rul_read h).1, (rul_read h).2, if_neg (by decide), if_neg (by simp; omega)]
theorem line_zone {rs : List Rul} {zs : List Zon} {z : Zon} (h : zone1 rs (lastZ zs) z = true) (hs : z.rule = 0 ∨ (97 ≤ z.rule ∧ z.rule ≤ 122)) : lineI ⟨rs, zs, []⟩ (joinC 32 (zonWs z)) = (⟨rs, zs ++ [z], []⟩, 0) := by
  have h1 := h
  unfold zone1 at h1
  simp only [Bool.and_eq_true, inR_iff, decide_eq_true_eq, Bool.or_eq_true, beq_iff_eq] at h1
  have ew : wat (zonWs z) 3 = letT z.rule := rfl
  have er : (if letT z.rule = [45] then 0 else nm (letT z.rule)) = z.rule ∧ ((decide (letT z.rule = [45]) || inR (nm (letT z.rule)) 97 122) = true) := by
    rcases hs with e | e
    · rw [e]; exact ⟨rfl, rfl⟩
    · have hne : ¬ letT z.rule = [45] := by
        intro q
        have q2 := nm_let (n := z.rule) (by omega)
        rw [q] at q2
        have q3 : nm [45] = 45 := rfl
        omega
      rw [if_neg hne, nm_let (by omega)]
      exact ⟨rfl, by rw [Bool.or_eq_true, inR_iff]; exact .inr e⟩
  have e : zonW (zonWs z) = z := by
    unfold zonW
    rw [ew, er.1, show wat (zonWs z) 1 = letT z.name from rfl, show wat (zonWs z) 2 = Lib.itoa z.off from rfl, nm_let (by omega), rd4_itoa (by omega)]
  have ok : zonOk (zonWs z) = true := by
    unfold zonOk
    rw [e, ew, er.2, show wat (zonWs z) 2 = Lib.itoa z.off from rfl, rd4_itoa (by omega)]
    unfold zoneOk
    simp only [Bool.true_and, Bool.and_eq_true, inR_iff, Bool.or_eq_true, beq_iff_eq]
    exact ⟨h1.1, h1.2.1, hs⟩
  unfold lineI
  rw [cut_join (by simp [zonWs]) (fun w hw => (hi_zon (by omega) (by omega) w hw).no (by decide))]
  rw [stepW_zone rfl rfl]
  unfold stepZ
  rw [e, ok, if_neg (by decide), if_neg (by rw [h]; simp)]
theorem line_link {rs : List Rul} {zs : List Zon} {ls : List Lnk} {l : Lnk} (h : link1 zs (lastL ls) l = true) (hs : 65 ≤ l.to ∧ l.to ≤ 90) : lineI ⟨rs, zs, ls⟩ (joinC 32 (lnkWs l)) = (⟨rs, zs, ls ++ [l]⟩, 0) := by
  have h1 := h
  unfold link1 at h1
  simp only [Bool.and_eq_true, inR_iff, decide_eq_true_eq] at h1
  have e : lnkW (lnkWs l) = l := by
    unfold lnkW
    rw [show wat (lnkWs l) 1 = letT l.name from rfl, show wat (lnkWs l) 2 = letT l.to from rfl, nm_let (by omega), nm_let (by omega)]
  have ok : lnkOk (lnkWs l) = true := by
    unfold lnkOk
    rw [show wat (lnkWs l) 1 = letT l.name from rfl, show wat (lnkWs l) 2 = letT l.to from rfl, nm_let (by omega), nm_let (by omega)]
    simp only [Bool.and_eq_true, inR_iff]
    exact ⟨h1.1, hs⟩
  unfold lineI
  rw [cut_join (by simp [lnkWs]) (fun w hw => (hi_lnk (by omega) (by omega) w hw).no (by decide))]
  rw [stepW_link rfl rfl]
  unfold stepL
  rw [e, ok, if_neg (by decide), if_neg (by rw [h]; simp)]
theorem psrc_step {f : Srce → List UInt8 → Srce × Int} {s s' : Srce} {n : Int} {l t : List UInt8} (h10 : (10 : UInt8) ∉ l) (hne : l ≠ []) (h35 : l.head? ≠ some 35) (hf : f s l = (s', 0)) : runP f s n (cutB 10 (l ++ 10 :: t)) = runP f s' (n + 1) (cutB 10 t) := by
  rw [cut_line h10, runP, if_neg (cutB_ne _ _), if_neg (by rw [not_or]; exact ⟨hne, h35⟩), hf, if_pos rfl]
theorem hasZ_mem {n : Int} {zs : List Zon} (h : hasZ n zs = true) : ∃ (k : Nat) (z : Zon), zs[k]? = some z ∧ z.name = n := by
  induction zs with
  | nil => simp [hasZ] at h
  | cons z l ih =>
    unfold hasZ at h
    split at h
    · rename_i e; exact ⟨0, z, rfl, e⟩
    · obtain ⟨k, y, h1, h2⟩ := ih h
      exact ⟨k + 1, y, by simpa using h1, h2⟩
theorem lastL_snoc (ls : List Lnk) (l : Lnk) : lastL (ls ++ [l]) = l.name := by unfold lastL; simp
theorem lastZ_snoc (ls : List Zon) (l : Zon) : lastZ (ls ++ [l]) = l.name := by unfold lastZ; simp
theorem join_head {w : List UInt8} {v : List UInt8} {r : List (List UInt8)} {c : UInt8} (h : w.head? = some c) (hc : c ≠ 35) : joinC 32 (w :: v :: r) ≠ [] ∧ (joinC 32 (w :: v :: r)).head? ≠ some 35 := by
  cases w with
  | nil => simp at h
  | cons b w =>
    simp at h; subst h
    rw [joinC]
    exact ⟨by simp, by simpa using hc⟩
theorem run_links {rs : List Rul} {zs : List Zon} (hz : zonesOk rs 0 zs = true) : ∀ (ls : List Lnk) (done : List Lnk) (n : Int), linksOk zs (lastL done) ls = true → runP lineI ⟨rs, zs, done⟩ n (cutB 10 (ls.flatMap linkT)) = (⟨rs, zs, done ++ ls⟩, n + (ls.length : Int), 0) := by
  intro ls
  induction ls with
  | nil => intro done n _; simp [cutB, runP]
  | cons l r ih =>
    intro done n h
    unfold linksOk at h
    split at h
    case isFalse => simp at h
    rename_i hl
    have hk : (65 ≤ l.name ∧ l.name ≤ 90) ∧ 65 ≤ l.to ∧ l.to ≤ 90 := by
      have h1 := hl
      unfold link1 at h1
      simp only [Bool.and_eq_true, inR_iff] at h1
      obtain ⟨k, z, e1, e2⟩ := hasZ_mem h1.2.2.1
      have := zones_mem hz e1
      rw [← e2]; exact ⟨h1.1, this.1⟩
    have hh := hi_lnk (z := l) (by omega) (by omega)
    rw [List.flatMap_cons, lnk_line, List.append_assoc, List.cons_append, List.nil_append]
    rw [psrc_step (no_join (by decide) (fun w hw => (hh w hw).no (by decide))) (join_head (c := 108) rfl (by decide)).1 (join_head (c := 108) rfl (by decide)).2 (line_link hl hk.2)]
    rw [ih _ _ (by rw [lastL_snoc]; exact h)]
    simp only [List.append_assoc, List.cons_append, List.nil_append, List.length_cons]
    congr 2; omega
theorem run_zones {rs : List Rul} {ls : List Lnk} {all : List Zon} (hr : rulesOk rs = true) (hz : zonesOk rs 0 all = true) (hls : linksOk all 0 ls = true) : ∀ (zs : List Zon) (done : List Zon) (n : Int), all = done ++ zs → zonesOk rs (lastZ done) zs = true → ∃ m, runP lineI ⟨rs, done, []⟩ n (cutB 10 (zs.flatMap zoneT ++ ls.flatMap linkT)) = (⟨rs, all, ls⟩, m, 0) := by
  intro zs
  induction zs with
  | nil =>
    intro done n e _
    rw [List.append_nil] at e
    subst e
    exact ⟨_, run_links hz ls [] n hls⟩
  | cons z r ih =>
    intro done n e h
    unfold zonesOk at h
    split at h
    case isFalse => simp at h
    rename_i hl
    have hk : (65 ≤ z.name ∧ z.name ≤ 90) ∧ (z.rule = 0 ∨ (97 ≤ z.rule ∧ z.rule ≤ 122)) := by
      have h1 := hl
      unfold zone1 at h1
      simp only [Bool.and_eq_true, inR_iff, decide_eq_true_eq, Bool.or_eq_true, beq_iff_eq] at h1
      refine ⟨h1.1, ?_⟩
      rcases h1.2.2.2 with q | q
      · exact .inl q
      · exact .inr (inR_iff.1 (hasR_small hr q))
    have hh := hi_zon (z := z) (by omega) (by omega)
    rw [List.flatMap_cons, zon_line, List.append_assoc, List.append_assoc, List.cons_append, List.nil_append]
    rw [psrc_step (no_join (by decide) (fun w hw => (hh w hw).no (by decide))) (join_head (c := 122) rfl (by decide)).1 (join_head (c := 122) rfl (by decide)).2 (line_zone hl hk.2)]
    exact ih _ _ (by rw [e]; simp) (by rw [lastZ_snoc]; exact h)
theorem run_rules {zs : List Zon} {ls : List Lnk} {all : List Rul} (h20 : all.length ≤ 20) (hr : rulesOk all = true) (hz : zonesOk all 0 zs = true) (hls : linksOk zs 0 ls = true) : ∀ (rs : List Rul) (done : List Rul) (n : Int), all = done ++ rs → rulesOk rs = true → ∃ m, runP lineI ⟨done, [], []⟩ n (cutB 10 (rs.flatMap ruleT ++ (zs.flatMap zoneT ++ ls.flatMap linkT))) = (⟨all, zs, ls⟩, m, 0) := by
  intro rs
  induction rs with
  | nil =>
    intro done n e _
    rw [List.append_nil] at e
    subst e
    exact run_zones hr hz hls zs [] n rfl hz
  | cons r l ih =>
    intro done n e h
    unfold rulesOk at h
    split at h
    case isFalse => simp at h
    rename_i hl
    have hh := hi_rul hl
    have hlen : done.length < 20 := by rw [e, List.length_append, List.length_cons] at h20; omega
    rw [List.flatMap_cons, rul_line, List.append_assoc, List.append_assoc, List.cons_append, List.nil_append]
    rw [psrc_step (no_join (by decide) (fun w hw => (hh w hw).no (by decide))) (join_head (c := 114) rfl (by decide)).1 (join_head (c := 114) rfl (by decide)).2 (line_rule hl hlen)]
    exact ih _ _ (by rw [e]; simp) h
theorem print_read {s : Srce} (h : srcOk s = true) (hl : (srcT s).length ≤ 1000) : ∃ m, parP lineI (srcT s) = (s, m, 0) := by
  obtain ⟨h1, h2, h3, h4⟩ := srcOk_iff.1 h
  unfold parP
  rw [if_neg (by omega)]
  unfold srcT
  rw [List.append_assoc]
  exact run_rules h1 h2 h3 h4 s.rules [] 0 rfl h2
theorem rulesOk_snoc {rs : List Rul} {r : Rul} (h : rulesOk rs = true) (hr : ruleOk r = true) : rulesOk (rs ++ [r]) = true := by
  induction rs with
  | nil => simp [rulesOk, hr]
  | cons x l ih =>
    unfold rulesOk at h
    split at h
    · rename_i q; rw [List.cons_append, rulesOk, if_pos q]; exact ih h
    · simp at h
theorem zonesOk_snoc {rs : List Rul} {z : Zon} : ∀ {zs : List Zon} {p : Int}, zonesOk rs p zs = true → zone1 rs (if zs = [] then p else lastZ zs) z = true → zonesOk rs p (zs ++ [z]) = true := by
  intro zs
  induction zs with
  | nil => intro p _ h; rw [if_pos rfl] at h; simp [zonesOk, h]
  | cons x l ih =>
    intro p h hz
    unfold zonesOk at h
    split at h
    · rename_i q
      rw [List.cons_append, zonesOk, if_pos q]
      refine ih h ?_
      rw [if_neg (by simp)] at hz
      split
      · rename_i e; subst e; exact hz
      · rename_i e
        have : lastZ (x :: l) = lastZ l := by unfold lastZ; cases l with
          | nil => exact absurd rfl e
          | cons a b => rw [List.getLast?_cons_cons]
        rw [this] at hz; exact hz
    · simp at h
theorem linksOk_snoc {zs : List Zon} {z : Lnk} : ∀ {ls : List Lnk} {p : Int}, linksOk zs p ls = true → link1 zs (if ls = [] then p else lastL ls) z = true → linksOk zs p (ls ++ [z]) = true := by
  intro zs
  induction zs with
  | nil => intro p _ h; rw [if_pos rfl] at h; simp [linksOk, h]
  | cons x l ih =>
    intro p h hz
    unfold linksOk at h
    split at h
    · rename_i q
      rw [List.cons_append, linksOk, if_pos q]
      refine ih h ?_
      rw [if_neg (by simp)] at hz
      split
      · rename_i e; subst e; exact hz
      · rename_i e
        have : lastL (x :: l) = lastL l := by unfold lastL; cases l with
          | nil => exact absurd rfl e
          | cons a b => rw [List.getLast?_cons_cons]
        rw [this] at hz; exact hz
    · simp at h
theorem list8 {ws : List (List UInt8)} (h : ws.length = 8) : ws = [wat ws 0, wat ws 1, wat ws 2, wat ws 3, wat ws 4, wat ws 5, wat ws 6, wat ws 7] := by
  match ws, h with
  | [a, b, c, d, e, f, g, i], _ => rfl
theorem list4 {ws : List (List UInt8)} (h : ws.length = 4) : ws = [wat ws 0, wat ws 1, wat ws 2, wat ws 3] := by
  match ws, h with
  | [a, b, c, d], _ => rfl
theorem list3 {ws : List (List UInt8)} (h : ws.length = 3) : ws = [wat ws 0, wat ws 1, wat ws 2] := by
  match ws, h with
  | [a, b, c], _ => rfl
theorem rul_canon {ws : List (List UInt8)} (h0 : wat ws 0 = wRule) (h8 : ws.length = 8) (h : rulOk ws = true) : rulWs (rulW ws) = ws := by
  unfold rulOk numsOk at h
  simp only [Bool.and_eq_true] at h
  obtain ⟨⟨a, b, c, d, e⟩, f, g⟩ := h
  have hn := ruleNums g
  have hnm : 0 < nm (wat ws 1) := by have := hn.2.2.2.2.2.2.1; show 0 < (rulW ws).name; omega
  conv => rhs; rw [list8 h8]
  unfold rulWs
  rw [h0]
  show [wRule, letT (nm (wat ws 1)), Lib.itoa (rd4 (wat ws 2)).1, Lib.itoa (rd4 (wat ws 3)).1, Lib.itoa (rd4 (wat ws 4)).1, txO (onRI (wat ws 5)).1, Lib.itoa (rd4 (wat ws 6)).1, Lib.itoa (rd4 (wat ws 7)).1] = _
  rw [let_nm hnm, itoa_rd4 a, itoa_rd4 b, itoa_rd4 c, itoa_rd4 d, itoa_rd4 e, (read_i f).2]
theorem zon_canon {ws : List (List UInt8)} (h0 : wat ws 0 = wZone) (h4 : ws.length = 4) (h : zonOk ws = true) : zonWs (zonW ws) = ws := by
  unfold zonOk at h
  simp only [Bool.and_eq_true] at h
  obtain ⟨a, b, c⟩ := h
  unfold zoneOk at c
  simp only [Bool.and_eq_true, inR_iff] at c
  have hnm : 0 < nm (wat ws 1) := by have := c.1.1; show 0 < (zonW ws).name; omega
  have h3 : letT (if wat ws 3 = [45] then 0 else nm (wat ws 3)) = wat ws 3 := by
    split
    · rename_i e; rw [e]; rfl
    · rename_i e
      rw [decide_eq_false e, Bool.false_or, inR_iff] at a
      exact let_nm (by omega)
  conv => rhs; rw [list4 h4]
  unfold zonWs
  rw [h0]
  show [wZone, letT (nm (wat ws 1)), Lib.itoa (rd4 (wat ws 2)).1, letT (if wat ws 3 = [45] then 0 else nm (wat ws 3))] = _
  rw [let_nm hnm, itoa_rd4 b, h3]
theorem lnk_canon {ws : List (List UInt8)} (h0 : wat ws 0 = wLink) (h3 : ws.length = 3) (h : lnkOk ws = true) : lnkWs (lnkW ws) = ws := by
  unfold lnkOk at h
  simp only [Bool.and_eq_true, inR_iff] at h
  conv => rhs; rw [list3 h3]
  unfold lnkWs
  rw [h0]
  show [wLink, letT (nm (wat ws 1)), letT (nm (wat ws 2))] = _
  rw [let_nm (by omega), let_nm (by omega)]
theorem line_inv {s s' : Srce} {l : List UInt8} (hs : srcOk s = true) (h : lineI s l = (s', 0)) : srcOk s' = true ∧ (srcT s').length ≤ (srcT s).length + l.length + 1 := by
  obtain ⟨h1, h2, h3, h4⟩ := srcOk_iff.1 hs
  unfold lineI stepW at h
  have hj := join_cut 32 l
  generalize cutB 32 l = ws at h hj
  split at h
  · rename_i w0
    split at h
    case isFalse => simp at h
    rename_i hl
    unfold stepR at h
    split at h
    · simp at h
    rename_i ok
    rw [Bool.not_eq_false] at ok
    split at h
    · simp at h
    rename_i hc
    rw [not_or] at hc
    have hz : s.zones = [] := List.length_eq_zero_iff.1 (by omega)
    have hk : s.links = [] := List.length_eq_zero_iff.1 (by omega)
    simp only [Prod.mk.injEq, and_true] at h
    subst h
    have ho := ok
    unfold rulOk at ho
    simp only [Bool.and_eq_true] at ho
    refine ⟨srcOk_iff.2 ⟨by simp; omega, rulesOk_snoc h2 ho.2.2, by rw [hz]; rfl, by rw [hk]; rfl⟩, ?_⟩
    have e : (ruleT (rulW ws)).length = l.length + 1 := by rw [rul_line, rul_canon w0 hl ok, hj]; simp
    unfold srcT
    simp only [hz, hk, List.flatMap_append, List.flatMap_cons, List.flatMap_nil, List.append_nil, List.length_append]
    omega
  split at h
  · rename_i w0
    split at h
    case isFalse => simp at h
    rename_i hl
    unfold stepZ at h
    split at h
    · simp at h
    rename_i ok
    rw [Bool.not_eq_false] at ok
    split at h
    · simp at h
    rename_i hc
    rw [not_or] at hc
    have hk : s.links = [] := List.length_eq_zero_iff.1 (by omega)
    have hz := hc.2
    rw [Bool.not_eq_false] at hz
    simp only [Prod.mk.injEq, and_true] at h
    subst h
    refine ⟨srcOk_iff.2 ⟨h1, h2, zonesOk_snoc h3 ?_, by rw [hk]; rfl⟩, ?_⟩
    · split
      · rename_i e; rw [e] at hz; exact hz
      · exact hz
    have e : (zoneT (zonW ws)).length = l.length + 1 := by rw [zon_line, zon_canon w0 hl ok, hj]; simp
    unfold srcT
    simp only [hk, List.flatMap_append, List.flatMap_cons, List.flatMap_nil, List.append_nil, List.length_append]
    omega
  split at h
  · rename_i w0
    split at h
    case isFalse => simp at h
    rename_i hl
    unfold stepL at h
    split at h
    · simp at h
    rename_i ok
    rw [Bool.not_eq_false] at ok
    split at h
    · simp at h
    rename_i hz
    rw [Bool.not_eq_false] at hz
    simp only [Prod.mk.injEq, and_true] at h
    subst h
    refine ⟨srcOk_iff.2 ⟨h1, h2, h3, linksOk_snoc h4 ?_⟩, ?_⟩
    · split
      · rename_i e; rw [e] at hz; exact hz
      · exact hz
    have e : (linkT (lnkW ws)).length = l.length + 1 := by rw [lnk_line, lnk_canon w0 hl ok, hj]; simp
    unfold srcT
    simp only [List.flatMap_append, List.flatMap_cons, List.flatMap_nil, List.append_nil, List.length_append]
    omega
  · simp at h
theorem run_inv : ∀ {ls : List (List UInt8)} {s x : Srce} {n m : Int}, ls ≠ [] → srcOk s = true → runP lineI s n ls = (x, m, 0) → srcOk x = true ∧ (srcT x).length + 1 ≤ (srcT s).length + tot ls := by
  intro ls
  induction ls with
  | nil => intro s x n m h; exact absurd rfl h
  | cons l r ih =>
    intro s x n m _ hs h
    unfold runP at h
    split at h
    · rename_i e
      subst e
      split at h
      · rename_i e2
        simp only [Prod.mk.injEq, and_true] at h
        rw [← h.1, e2]
        exact ⟨hs, by simp [tot]⟩
      · simp at h
    · rename_i e
      split at h
      · have := ih e hs h
        refine ⟨this.1, ?_⟩
        unfold tot; omega
      · split at h
        · rename_i q
          have hl := line_inv hs (s' := (lineI s l).1) (by rw [← q])
          have := ih e hl.1 h
          refine ⟨this.1, ?_⟩
          unfold tot; omega
        · rename_i q
          simp only [Prod.mk.injEq] at h
          exact absurd h.2.2 q
theorem read_inv {t : List UInt8} {x : Srce} {n : Int} (h : parP lineI t = (x, n, 0)) : srcOk x = true ∧ (srcT x).length ≤ 1000 := by
  unfold parP at h
  split at h
  · simp at h
  · have := run_inv (cutB_ne _ _) (show srcOk zSrc = true from rfl) h
    rw [tot_cut] at this
    refine ⟨this.1, ?_⟩
    have e : (srcT zSrc).length = 0 := rfl
    omega
theorem psrc_zero : ∀ {f : Srce → List UInt8 → Srce × Int} {ls : List (List UInt8)} {s x : Srce} {n m c : Int}, runP f s n ls = (x, m, c) → c ≠ 0 → x = zSrc := by
  intro f ls
  induction ls with
  | nil => intro s x n m c h hc; simp only [runP, Prod.mk.injEq] at h; exact absurd h.2.2.symm hc
  | cons l r ih =>
    intro s x n m c h hc
    unfold runP at h
    split at h
    · split at h
      · simp only [Prod.mk.injEq] at h; exact absurd h.2.2.symm hc
      · simp only [Prod.mk.injEq] at h; exact h.1.symm
    · split at h
      · exact ih h hc
      · split at h
        · exact ih h hc
        · simp only [Prod.mk.injEq] at h; exact h.1.symm
theorem par_zero {t : List UInt8} (h : (parP lineI t).2.2 ≠ 0) : (parP lineI t).1 = zSrc := by
  revert h
  unfold parP
  split
  · intro _; rfl
  · intro h; exact psrc_zero (by rfl : runP lineI zSrc 0 (cutB 10 t) = ((runP lineI zSrc 0 (cutB 10 t)).1, (runP lineI zSrc 0 (cutB 10 t)).2.1, (runP lineI zSrc 0 (cutB 10 t)).2.2)) h
theorem par_well {t : List UInt8} (h : (parP lineI t).2.2 = 0) : srcOk (parP lineI t).1 = true ∧ (srcT (parP lineI t).1).length ≤ 1000 := read_inv (by rw [← h])
theorem srcP_well {t : List UInt8} (h : (parP lineI t).2.2 = 0) : srcP (parP lineI t).1 = (srcT (parP lineI t).1, true) := by
  obtain ⟨h1, h2⟩ := par_well h
  unfold srcP; rw [if_pos h1, if_pos h2]
theorem src_no0 (s : Srce) : (0 : UInt8) ∉ (srcP s).1 := by
  unfold srcP
  split
  · rename_i h
    obtain ⟨h1, h2, h3, h4⟩ := srcOk_iff.1 h
    split
    · show (0 : UInt8) ∉ srcT s
      unfold srcT
      intro hm
      rw [List.mem_append, List.mem_append] at hm
      have nz : ∀ {ws : List (List UInt8)}, (∀ w ∈ ws, Hi w) → (0 : UInt8) ∉ joinC 32 ws ++ [10] := by
        intro ws hw hq
        rw [List.mem_append] at hq
        rcases hq with hq | hq
        · exact no_join (by decide) (fun w hx => (hw w hx).no (by decide)) hq
        · simp at hq
      rcases hm with (hm | hm) | hm
      · obtain ⟨r, hr, hb⟩ := List.mem_flatMap.1 hm
        obtain ⟨k, he⟩ := List.getElem?_of_mem hr
        rw [rul_line] at hb
        exact nz (hi_rul (rulesOk_mem h2 he)) hb
      · obtain ⟨z, hr, hb⟩ := List.mem_flatMap.1 hm
        obtain ⟨k, he⟩ := List.getElem?_of_mem hr
        have := zones_mem h3 he
        rw [zon_line] at hb
        refine nz (hi_zon (by omega) ?_) hb
        rcases this.2.2 with q | q
        · exact .inl q
        · have := inR_iff.1 (hasR_small h2 q); exact .inr (by omega)
      · obtain ⟨z, hr, hb⟩ := List.mem_flatMap.1 hm
        obtain ⟨k, he⟩ := List.getElem?_of_mem hr
        have := links_mem h4 he
        obtain ⟨k2, z2, e1, e2⟩ := hasZ_mem this.2.1
        have h5 := zones_mem h3 e1
        rw [lnk_line] at hb
        exact nz (hi_lnk (by omega) (by omega)) hb
    · simp
  · simp
end Go.Sy
end

section
set_option linter.unusedVariables false
set_option linter.unusedSimpArgs false
namespace Go.Sy
open Go.RowKit
def qOfN (NG : Nat) (Q : World → Prop) : Gh → World → Prop := fun G0 w0 => (∀ i b, G0.F i b → NG ≤ b) ∧ Q w0
def FnSpecO (NG : Nat) (Q : World → Prop) (P : Program) (f : Nat) (As : List V) (T : List Ob) (R : V) (T' : List Ob) : Prop :=
  ∀ (G : Gh) (w : World) (args : Array Value), (∀ i b, G.F i b → NG ≤ b) → Q w → Hold G w (obs T) → args.size = As.length → (∀ (k : Nat) (x : V), As[k]? = some x → G.Rep w (args.getD k undef) x) →
    Calls P f args w (fun e w' => ∃ v G', e = .returned v ∧ Hold G' w' (obs T') ∧ G'.Rep w' v R ∧ Fr G w G' w')
structure Stay (NG : Nat) (Q : World → Prop) : Prop where
  size : ∀ w, Q w → NG ≤ w.heap.size
  keep : ∀ w w', Q w → w.heap.size ≤ w'.heap.size → (∀ k, k < NG → w'.heap[k]? = w.heap[k]?) → Q w'
theorem FnSpec.toO {P : Program} {f : Nat} {As : List V} {T T' : List Ob} {R : V} (NG : Nat) (Q : World → Prop) (h : FnSpec P f As T R T') : FnSpecO NG Q P f As T R T' := fun G w args _ _ => h G w args
theorem FnSpecQ.toO {P : Program} {f : Nat} {As : List V} {R : V} {NG : Nat} {Q Q' : World → Prop} (hQ : ∀ w, Q w → Q' w) (h : FnSpecQ Q' P f As R) : FnSpecO NG Q P f As [] R [] := fun G w args _ hq => h G w args (hQ w hq)
section
variable {P : Program} {Q : World → Prop} {NG : Nat}
theorem FnSpecO.of {f : Nat} {fn : Func} {c : Code} {As : List V} {T : List Ob} {R : V} {T' : List Ob} (n : Nat) (hf : P.funcs[f]? = some fn) (hb : fn.body = some c) (hn : fn.ntmps = n) (hl : As.length ≤ n)
    (h : AW P ⟨n, T.length, qOfN NG Q⟩ c ⟨lkT As, obs T⟩ (KF P T.length fn.results.toList R T')) : FnSpecO NG Q P f As T R T' := by
  intro G w args hF hQ H hs hr
  refine calls_of_wp hf hb ?_
  have hst : St G w ⟨n, T.length, qOfN NG Q⟩ ⟨lkT As, obs T⟩ { tmps := args ++ Array.replicate (fn.ntmps - args.size) undef, defers := [] } w := by
    refine ⟨G, H, fun t => ?_, by simp; omega, rfl, Fr.refl G w, fun i hi => ?_, hF, hQ⟩
    · have hlk : ∀ (l : List V) (t : Nat), lkT l t = l.getD t .un := by
        intro l
        induction l with
        | nil => intro t; simp [lkT]
        | cons x l ih => intro t; cases t <;> simp [lkT, ih]
      show G.Rep w _ (lkT As t)
      rw [hlk]
      rcases Nat.lt_or_ge t As.length with ht | ht
      · have h1 := List.getElem?_eq_getElem ht
        rw [List.getD_eq_getElem?_getD, h1]
        have h2 := hr t _ h1
        have : (args ++ Array.replicate (fn.ntmps - args.size) undef).getD t undef = args.getD t undef := by
          simp [Array.getD_eq_getD_getElem?, Array.getElem?_append, show t < args.size by omega]
        rw [this]
        exact h2
      · rw [List.getD_eq_getElem?_getD, List.getElem?_eq_none ht]
        exact .g (.un _)
    · have hfree : obs T i = .free := by
        unfold obs
        rw [List.getD_eq_getElem?_getD, List.getElem?_eq_none hi]
        rfl
      exact (H.free hfree).1
  refine wp_mono (h G w _ w hst) ?_
  rintro e a' w' ⟨σ', ⟨he, L, vs, hL, hv, hR, hL2, hT'⟩, ⟨G', H', ht', h1, h2, h3, h4⟩⟩
  simp only [Bool.and_eq_true, fixes, List.all_eq_true, List.mem_range, beq_iff_eq] at hL
  obtain ⟨v, r1, r2⟩ := run_results H' ht' hv
  have hpost : a'.defers = [] ∧ ∃ v, (results fn a'.tmps).run P w' = .ok v w' ∧ ∃ v' G', Ending.returned v = .returned v' ∧ Hold G' w' (obs T') ∧ G'.Rep w' v' R ∧ Fr G w G' w' := by
    refine ⟨h2, v, r1, v, G'.ren L, rfl, ?_, ?_, h3.ren h4.1 hL.2⟩
    · rw [← obRen_list hL.1 T' hL2 hT']
      exact H'.ren hL.1
    · rw [hR]
      exact Rep.ren (Gh.ren_rho hL.1) r2
  rcases he with rfl | rfl
  · exact hpost
  · exact hpost
theorem lend_F {G : Gh} {q : Bool} {L : List (Nat × Nat)} {j b : Nat} (h : (G.lend q L).F j b) : ∃ i, G.F i b := by
  have h' : (match gOf L j with
    | some i => G.F i b
    | none => False) := h
  split at h'
  · exact ⟨_, h'⟩
  · exact h'.elim
end
section
variable {P : Program} {N : Cx} {ops : Array Oper} {K : List Tr → Sg → Prop} {k : Nat} {σ : Sg}
theorem At.callO {NG : Nat} {Q : World → Prop} {f : Nat} {As : List V} {T T' : List Ob} {R : V} (hl : Stay NG Q) (hq : N.q = qOfN NG Q) (hs : FnSpecO NG Q P f As T R T') (hcall : ∀ args w, (callFunc f args).run P w = .ok (.enter f args) w) (q : Bool) (L M : List (Nat × Nat)) (ro : List (Nat × Nat × List V)) (hg : goes ops σ k = true) (ho : (callOf (opAt ops k)).map Prod.fst = some f)
    (hA : viewL L ro (evs σ (argsAt ops k)) = As) (hT : (L.map fun p => (σ.ob p.1).ren (hOf L)) = T)
    (hL : ((match (opAt ops k).dst with
      | some d => decide (d < N.n)
      | none => true) && (okL (L ++ M) && (L.map Prod.snd == List.range T.length) && L.all (fun p => live (σ.ob p.1)) && (!q || ro.isEmpty)) && M.all (fun p => isFree (σ.ob p.1))) = true) (hro : RoOk σ.ob L ro)
    (r : At P N ops (k + 1) (σ.puts (backW q T' (L ++ M) (L ++ M) ++ dstW (opAt ops k).dst (R.bk q (L ++ M)))) (fun t s => K (⟨(gpOf ops σ (opAt ops k)).getD [] ++ (argsW (argsAt ops k) (evs σ (argsAt ops k)) ++ obW σ.ob (L.map Prod.fst) ++ obW σ.ob (ro.map Prod.fst) ++ freeW M), backW q T' (L ++ M) (L ++ M) ++ dstW (opAt ops k).dst (R.bk q (L ++ M))⟩ :: t) s)) : At P N ops k σ K :=
  At.callG hcall q L M (fun G0 G w0 w h fr args H => by
    rw [hq] at h
    have h6 := hl.size w0 h.2
    refine hs (G.lend q L) w args (fun i b hb => ?_) (hl.keep w0 w h.2 fr.sz fun k hk => fr.blk k (by omega) fun i hi => ?_) H
    · obtain ⟨j, hj⟩ := lend_F hb
      rcases fr.F j b hj with ⟨i', hi'⟩ | hi'
      · exact h.1 i' b hi'
      · omega
    · have := h.1 i k hi; omega) ro hg ho hA hT hL hro r
end
theorem lawO_calls {P : Program} {W : World} {NG : Nat} {Q : World → Prop} {f : Nat} {As : List V} {b : Bool} (hQ : Q W) (h : FnSpecO NG Q P f As [] (.bool b) []) {args : Array Value} (hs : args.size = As.length) (hr : ∀ (k : Nat) (x : V), As[k]? = some x → (hereG W).Rep W (args.getD k undef) x) :
    Calls P f args W (fun e W' => e = .returned (.bool b) ∧ Below W.heap.size W W') := by
  refine (h (hereG W) W args (fun i b hb => hb.elim) hQ (here_hold W) hs hr).mono fun e W' ⟨v, G', h1, h2, h3, h4⟩ => ?_
  have := Rep.inv_bool h3
  subst this
  exact ⟨h1, h4.os, h4.tape, h4.output, h4.sz, fun k hk => h4.blk k hk (fun _ h => h)⟩
end Go.Sy
end

section
set_option linter.unusedVariables false
set_option linter.unusedSimpArgs false
namespace Go.Sy
open Go.RowKit
structure FieldR where
  bad : Bool
def pcs (c : UInt8) (s : ByteArray) : List ByteArray := (cutB c s.data.toList).map strOf
def wb (ws : List ByteArray) : List (List UInt8) := ws.map (·.data.toList)
theorem wb_cut (c : UInt8) (s : ByteArray) : wb (pcs c s) = cutB c s.data.toList := by
  unfold wb pcs
  rw [List.map_map]
  exact (List.map_congr_left fun l _ => data_strOf l).trans (List.map_id _)
theorem of_wb (o : List ByteArray) : (wb o).map strOf = o := by
  unfold wb
  rw [List.map_map]
  exact (List.map_congr_left fun l _ => strOf_data l).trans (List.map_id _)
theorem wb_at {ws : List ByteArray} {k : Nat} {e : ByteArray} (h : ws[k]? = some e) : wat (wb ws) k = e.data.toList := by
  unfold wat wb
  rw [List.getD_eq_getElem?_getD, List.getElem?_map, h]; rfl
theorem wb_len (ws : List ByteArray) : (wb ws).length = ws.length := List.length_map _
theorem len_tot (l : List (List UInt8)) : l.length ≤ tot l := by
  induction l with
  | nil => simp [tot]
  | cons a l ih => simp only [tot, List.length_cons]; omega
theorem mem_tot {l : List (List UInt8)} {w : List UInt8} (h : w ∈ l) : w.length + 1 ≤ tot l := by
  induction l with
  | nil => cases h
  | cons a l ih =>
    unfold tot
    rcases List.mem_cons.1 h with rfl | h
    · omega
    · have := ih h; omega
theorem pcs_len (c : UInt8) (s : ByteArray) : (pcs c s).length = (cutB c s.data.toList).length := List.length_map _
theorem pcs_few (c : UInt8) (s : ByteArray) : 1 ≤ (pcs c s).length ∧ (pcs c s).length ≤ s.size + 1 := by
  rw [pcs_len]
  have h1 := cutB_ne c s.data.toList
  have h2 := len_tot (cutB c s.data.toList)
  rw [tot_cut] at h2
  have h3 : s.data.toList.length = s.size := Array.length_toList
  have h4 := List.length_pos_iff.2 h1
  omega
theorem pcs_small (c : UInt8) (s : ByteArray) : ∀ x ∈ pcs c s, x.size ≤ s.size := by
  intro x hx
  obtain ⟨w, hw, rfl⟩ := List.mem_map.1 hx
  have := mem_tot hw
  rw [tot_cut] at this
  rw [strOf_size]
  have h3 : s.data.toList.length = s.size := Array.length_toList
  omega
theorem pcs_split (c : UInt8) (s : ByteArray) : Lib.splitB ⟨#[c]⟩ 0 (Lib.countB s ⟨#[c]⟩) s = pcs c s := by
  rw [← of_wb (Lib.splitB ⟨#[c]⟩ 0 (Lib.countB s ⟨#[c]⟩) s)]
  unfold pcs
  congr 1
  exact (Lib.splitB_data _ _ _ _).trans (split_cut c _ _ (Nat.le_refl _))
theorem pcs_count (c : UInt8) (s : ByteArray) : Lib.countB s ⟨#[c]⟩ + 1 = (pcs c s).length := by
  have := pcs_split c s
  rw [← this]
  exact (Lib.splitB_all ⟨#[c]⟩ (Nat.le_refl 1) 0 _ s rfl).symm
theorem split_g {P : Program} {NG : Nat} {Q : World → Prop} {f : Nat} (s : ByteArray) (c : UInt8) (e : Nat) (hl : s.size ≤ 1048576)
    (h : ∀ w, Q w → Calls P f #[.string s, .string ⟨#[c]⟩] w fun e' w' => e' = .returned (.slice (some ⟨w.heap.size, 0, none⟩) (Lib.countB s ⟨#[c]⟩ + 1) (Lib.countB s ⟨#[c]⟩ + 1)) ∧ w' = w.alloc (.cells ((Lib.splitB ⟨#[c]⟩ 0 (Lib.countB s ⟨#[c]⟩) s).map Value.string).toArray e)) :
    FnSpecO NG Q P f [.str s, .str ⟨#[c]⟩] [] (.ref 0) [.arr e 1 ((pcs c s).map encS)] := by
  intro G w args hF hQ H hn ha
  have g0 := Rep.inv_str (ha 0 _ rfl)
  have g1 := Rep.inv_str (ha 1 _ rfl)
  rw [sargs2 hn, g0, g1]
  have hk := h w hQ
  rw [pcs_split, pcs_count] at hk
  refine hk.mono ?_
  rintro e' w' ⟨rfl, rfl⟩
  have hfew := pcs_few c s
  obtain ⟨G', r, r1, r2, r3, r4⟩ := new_arr H (k := 0) (e := e) (es := 1) (n := (pcs c s).length) rfl (fun _ => False) (fun h => h) ((pcs c s).map Value.string).toArray (xs := (pcs c s).map encS) (ob' := obs [.arr e 1 ((pcs c s).map encS)])
    (by simp) (by simp) (by unfold maxLen; omega)
    (fun k x hx => by
      rw [List.getElem?_map] at hx
      obtain ⟨y, _, rfl⟩ := Option.map_eq_some_iff.1 hx
      rfl)
    (fun u hu => by
      obtain ⟨y, _, rfl⟩ := List.mem_map.1 (by simpa using hu : u ∈ (pcs c s).map Value.string)
      rfl)
    (fun x hx => by
      obtain ⟨y, _, rfl⟩ := List.mem_map.1 hx
      rfl) (fun _ _ _ => False)
    (fun k x hx j y hy => by
      rw [List.getElem?_map] at hx
      obtain ⟨z, hz, rfl⟩ := Option.map_eq_some_iff.1 hx
      have hj : j = 0 := by
        cases j with
        | zero => rfl
        | succ j => simp [encS, cl] at hy
      subst hj
      simp only [encS, cl, List.getElem?_cons_zero, Option.some.injEq] at hy
      subst hy
      have e1 : (((pcs c s).map Value.string).toArray).getD (k * 1 + 0) undef = .string z := by
        rw [Array.getD_eq_getD_getElem?, List.getElem?_toArray, List.getElem?_map, show k * 1 + 0 = k by omega, hz]; rfl
      rw [e1]
      exact ⟨.str z, fun b h => h⟩)
    (fun _ _ _ h => h.elim) (fun _ _ _ _ _ h => h.elim) (fun _ _ _ h => h.elim) rfl (fun _ h => h.elim) (fun i h1 _ => by
      unfold obs
      cases i with
      | zero => exact absurd rfl h1
      | succ i => simp)
  exact ⟨_, G', rfl, r1, .ref 0 r _ r3 r4, r2⟩
theorem nm_no {s : ByteArray} (h : ¬ (s.size : Int) = 1) : nm s.data.toList = 0 := by
  have e : s.data.toList.length = s.size := Array.length_toList
  rcases q : s.data.toList with _ | ⟨c, _ | ⟨d, r⟩⟩
  · rfl
  · rw [q] at e; exact absurd (by rw [← e]; rfl) h
  · rfl
theorem one_of_size {s : ByteArray} {c : UInt8} (he : s.data[0]? = some c) (h : (s.size : Int) = 1) : s.data.toList = [c] := by
  have e : s.data.toList.length = s.size := Array.length_toList
  have g := strGet he
  rcases q : s.data.toList with _ | ⟨a, _ | ⟨d, r⟩⟩
  · rw [q] at g; cases g
  · rw [q] at g; simp at g; rw [g]
  · rw [q] at e; simp only [List.length_cons] at e; omega
theorem nm_one {s : ByteArray} {c : UInt8} (he : s.data[0]? = some c) (h : (s.size : Int) = 1) : nm s.data.toList = (c.toNat : Int) := by rw [one_of_size he h]; rfl
def nmX (d : Bool) (w : List UInt8) : Int := match w with
  | [c] => if d = true ∧ c = 45 then 0 else (c.toNat : Int)
  | _ => -1
theorem nmX_f (w : List UInt8) : nmX false w = nmS w := by
  rcases w with _ | ⟨c, _ | ⟨d, r⟩⟩
  · rfl
  · simp [nmX, nmS]
  · rfl
theorem nmX_t (w : List UInt8) : nmX true w = nmD w := by
  rcases w with _ | ⟨c, _ | ⟨d, r⟩⟩
  · rfl
  · simp [nmX, nmD]
  · rfl
theorem nmX_no {d : Bool} {s : ByteArray} (h : ¬ (s.size : Int) = 1) : -1 = nmX d s.data.toList := by
  have e : s.data.toList.length = s.size := Array.length_toList
  rcases q : s.data.toList with _ | ⟨c, _ | ⟨a, r⟩⟩
  · rfl
  · rw [q] at e; exact absurd (by rw [← e]; rfl) h
  · rfl
theorem dash_is {s : ByteArray} (h : s.toList = (⟨#[45]⟩ : ByteArray).toList) : s.data.toList = [45] := by
  rw [Lib.toList_data, Lib.toList_data] at h; exact h
theorem dash_not {s : ByteArray} (h : ¬ s.toList = (⟨#[45]⟩ : ByteArray).toList) : ¬ s.data.toList = [45] := by
  rw [Lib.toList_data, Lib.toList_data] at h; exact h
theorem nmX_dash {d : Bool} {s : ByteArray} (hd : d = true) (h : s.toList = (⟨#[45]⟩ : ByteArray).toList) : 0 = nmX d s.data.toList := by
  rw [dash_is h, hd]; rfl
theorem nmX_one {d : Bool} {s : ByteArray} {c : UInt8} (he : s.data[0]? = some c) (h : (s.size : Int) = 1) (hd : d = false ∨ ¬ s.toList = (⟨#[45]⟩ : ByteArray).toList) : (c.toNat : Int) = nmX d s.data.toList := by
  have e := one_of_size he h
  rw [e]
  show (c.toNat : Int) = if d = true ∧ c = 45 then 0 else (c.toNat : Int)
  rw [if_neg]
  rintro ⟨h1, h2⟩
  rcases hd with q | q
  · rw [q] at h1; exact Bool.noConfusion h1
  · exact dash_not q (by rw [e, h2])
theorem rulOk_bad (ws : List (List UInt8)) : (((((false || !(rd4 (wat ws 2)).2) || !(rd4 (wat ws 3)).2) || !(rd4 (wat ws 4)).2) || !(rd4 (wat ws 6)).2) || !(rd4 (wat ws 7)).2) = !numsOk ws := by
  unfold numsOk
  cases (rd4 (wat ws 2)).2 <;> cases (rd4 (wat ws 3)).2 <;> cases (rd4 (wat ws 4)).2 <;> cases (rd4 (wat ws 6)).2 <;> cases (rd4 (wat ws 7)).2 <;> rfl
theorem rulOk_1 {ws : List (List UInt8)} (h : (onRI (wat ws 5)).2 = false) : false = rulOk ws := by
  unfold rulOk; rw [h, Bool.false_and, Bool.and_false]
theorem rulOk_2 {ws : List (List UInt8)} {b : Bool} (hb : b = !numsOk ws) (h : b = true) : false = rulOk ws := by
  unfold rulOk
  rw [h] at hb
  have : numsOk ws = false := by cases q : numsOk ws with
    | true => rw [q] at hb; cases hb
    | false => rfl
  rw [this, Bool.false_and]
theorem rulOk_3 {ws : List (List UInt8)} {b : Bool} (h1 : (onRI (wat ws 5)).2 = true) (hb : b = !numsOk ws) (h : b = false) : ruleOk (rulW ws) = rulOk ws := by
  unfold rulOk
  rw [h] at hb
  have : numsOk ws = true := by cases q : numsOk ws with
    | true => rfl
    | false => rw [q] at hb; cases hb
  rw [this, h1, Bool.true_and, Bool.true_and]
theorem zonW_d {ws : List (List UInt8)} (h : wat ws 3 = [45]) : (⟨nm (wat ws 1), (rd4 (wat ws 2)).1, 0⟩ : Zon) = zonW ws := by unfold zonW; rw [if_pos h]
theorem zonW_n {ws : List (List UInt8)} (h : ¬ wat ws 3 = [45]) : (⟨nm (wat ws 1), (rd4 (wat ws 2)).1, nm (wat ws 3)⟩ : Zon) = zonW ws := by unfold zonW; rw [if_neg h]
theorem zonOk_1 {ws : List (List UInt8)} (h : ¬ wat ws 3 = [45]) (h2 : inR (nm (wat ws 3)) 97 122 = false) : false = zonOk ws := by
  unfold zonOk; rw [decide_eq_false h, h2]; rfl
theorem zonOk_2 {ws : List (List UInt8)} (h : (false || !(rd4 (wat ws 2)).2) = true) : false = zonOk ws := by
  unfold zonOk
  have : (rd4 (wat ws 2)).2 = false := by simpa using h
  rw [this, Bool.false_and, Bool.and_false]
theorem zonOk_3 {ws : List (List UInt8)} (h : (false || !(rd4 (wat ws 2)).2) = false) (h3 : wat ws 3 = [45] ∨ inR (nm (wat ws 3)) 97 122 = true) : zoneOk (zonW ws) = zonOk ws := by
  unfold zonOk
  have h1 : (rd4 (wat ws 2)).2 = true := by simpa using h
  rw [h1, Bool.true_and]
  rcases h3 with q | q
  · rw [decide_eq_true q, Bool.true_or, Bool.true_and]
  · rw [q, Bool.or_true, Bool.true_and]
theorem stepR_5 {s : Srce} {ws : List (List UInt8)} (h : rulOk ws = false) : stepR s ws = (s, 5) := by unfold stepR; rw [if_pos h]
theorem stepR_6 {s : Srce} {ws : List (List UInt8)} (h : rulOk ws = true) (h2 : (s.zones.length : Int) + (s.links.length : Int) > 0 ∨ (s.rules.length : Int) = 20) : stepR s ws = (s, 6) := by
  unfold stepR; rw [if_neg (by rw [h]; decide), if_pos (by omega)]
theorem stepR_0 {s : Srce} {ws : List (List UInt8)} (h : rulOk ws = true) (h2 : ¬ (s.zones.length : Int) + (s.links.length : Int) > 0) (h3 : ¬ (s.rules.length : Int) = 20) : stepR s ws = (⟨s.rules ++ [rulW ws], s.zones, s.links⟩, 0) := by
  unfold stepR; rw [if_neg (by rw [h]; decide), if_neg (by omega)]
theorem stepZ_5 {ok : Bool} {z : Zon} {s : Srce} (h : ok = false) : stepZ ok z s = (s, 5) := by unfold stepZ; rw [if_pos h]
theorem stepZ_6 {ok : Bool} {z : Zon} {s : Srce} (h : ok = true) (h2 : (s.links.length : Int) > 0 ∨ zone1 s.rules (lastZ s.zones) z = false) : stepZ ok z s = (s, 6) := by
  unfold stepZ; rw [if_neg (by rw [h]; decide), if_pos (h2.imp (fun q => by omega) id)]
theorem stepZ_0 {ok : Bool} {z : Zon} {s : Srce} (h : ok = true) (h2 : ¬ (s.links.length : Int) > 0) (h3 : zone1 s.rules (lastZ s.zones) z = true) : stepZ ok z s = (⟨s.rules, s.zones ++ [z], s.links⟩, 0) := by
  unfold stepZ; rw [if_neg (by rw [h]; decide), if_neg (by rw [not_or, h3]; exact ⟨by omega, by decide⟩)]
theorem stepL_5 {s : Srce} {ws : List (List UInt8)} (h : lnkOk ws = false) : stepL s ws = (s, 5) := by unfold stepL; rw [if_pos h]
theorem stepL_6 {s : Srce} {ws : List (List UInt8)} (h : lnkOk ws = true) (h2 : link1 s.zones (lastL s.links) (lnkW ws) = false) : stepL s ws = (s, 6) := by
  unfold stepL; rw [if_neg (by rw [h]; decide), if_pos h2]
theorem stepL_0 {s : Srce} {ws : List (List UInt8)} (h : lnkOk ws = true) (h2 : link1 s.zones (lastL s.links) (lnkW ws) = true) : stepL s ws = (⟨s.rules, s.zones, s.links ++ [lnkW ws]⟩, 0) := by
  unfold stepL; rw [if_neg (by rw [h]; decide), if_neg (by rw [h2]; decide)]
theorem lnkOk_t {ws : List (List UInt8)} (h1 : inR (nm (wat ws 1)) 65 90 = true) (h2 : inR (nm (wat ws 2)) 65 90 = true) : lnkOk ws = true := by unfold lnkOk; rw [h1, h2]; rfl
theorem lnkOk_1 {ws : List (List UInt8)} (h1 : inR (nm (wat ws 1)) 65 90 = false) : lnkOk ws = false := by unfold lnkOk; rw [h1]; rfl
theorem lnkOk_2 {ws : List (List UInt8)} (h1 : inR (nm (wat ws 2)) 65 90 = false) : lnkOk ws = false := by unfold lnkOk; rw [h1, Bool.and_false]
theorem zonOk_zone {ws : List (List UInt8)} (h : zonOk ws = true) : inR (zonW ws).name 65 90 = true ∧ inR (zonW ws).off (-900) 900 = true := by
  unfold zonOk at h
  simp only [Bool.and_eq_true] at h
  have := zoneOk_iff.1 h.2.2
  exact ⟨this.1, this.2.1⟩
theorem lastZ_neg {zs : List Zon} (h : ¬ (zs.length : Int) - 1 ≥ 0) : lastZ zs = 0 := lastZ_0 (by omega)
theorem lastL_neg {zs : List Lnk} (h : ¬ (zs.length : Int) - 1 ≥ 0) : lastL zs = 0 := lastL_0 (by omega)
theorem zonOk_pos {ws : List (List UInt8)} (h : zonOk ws = true) : 0 < (zonW ws).name := by have := inR_iff.1 (zonOk_zone h).1; omega
theorem zonOk_1t {ws : List (List UInt8)} {rs : List Rul} {p : Int} (h : zonOk ws = true) (h3 : p < (zonW ws).name) (h4 : (zonW ws).rule = 0 ∨ hasR (zonW ws).rule rs = true) : zone1 rs p (zonW ws) = true := zone1_t (zonOk_zone h).1 (zonOk_zone h).2 h3 h4
theorem seq_is {s : ByteArray} {a : Array UInt8} (h : s.toList = (⟨a⟩ : ByteArray).toList) : s.data.toList = a.toList := by rw [Lib.toList_data, Lib.toList_data] at h; exact h
theorem seq_not {s : ByteArray} {a : Array UInt8} (h : ¬ s.toList = (⟨a⟩ : ByteArray).toList) : ¬ s.data.toList = a.toList := by rw [Lib.toList_data, Lib.toList_data] at h; exact h
theorem line_is (s : Srce) (l : ByteArray) : lineI s l.data.toList = stepW (zonOk (wb (pcs 32 l))) (zonW (wb (pcs 32 l))) s (wb (pcs 32 l)) := by unfold lineI; rw [wb_cut]
theorem lineS_is (s : Srce) (l : ByteArray) : lineS s l.data.toList = stepW (zonOkS (wb (pcs 32 l))) (zonS (wb (pcs 32 l))) s (wb (pcs 32 l)) := by unfold lineS; rw [wb_cut]
section
variable {ok : Bool} {z : Zon} {s : Srce} {ws : List (List UInt8)}
theorem stepW_r4 (h0 : wat ws 0 = wRule) (h8 : ¬ (ws.length : Int) = 8) : stepW ok z s ws = (s, 4) := by unfold stepW; rw [if_pos h0, if_neg (by omega)]
theorem stepW_z4 (h0 : wat ws 0 = wZone) (h8 : ¬ (ws.length : Int) = 4) : stepW ok z s ws = (s, 4) := by unfold stepW; rw [if_neg (by rw [h0]; decide), if_pos h0, if_neg (by omega)]
theorem stepW_l4 (h0 : wat ws 0 = wLink) (h8 : ¬ (ws.length : Int) = 3) : stepW ok z s ws = (s, 4) := by unfold stepW; rw [if_neg (by rw [h0]; decide), if_neg (by rw [h0]; decide), if_pos h0, if_neg (by omega)]
theorem stepW_3 (h0 : ¬ wat ws 0 = wRule) (h1 : ¬ wat ws 0 = wZone) (h2 : ¬ wat ws 0 = wLink) : stepW ok z s ws = (s, 3) := by unfold stepW; rw [if_neg h0, if_neg h1, if_neg h2]
end
theorem step_len (ok : Bool) (z : Zon) (s : Srce) (ws : List (List UInt8)) : (stepW ok z s ws).1.rules.length ≤ s.rules.length + 1 ∧ (stepW ok z s ws).1.zones.length ≤ s.zones.length + 1 ∧ (stepW ok z s ws).1.links.length ≤ s.links.length + 1 := by
  unfold stepW stepR stepZ stepL
  repeat' split
  all_goals simp
def NoB (c : UInt8) (s : ByteArray) (f i : Nat) : Prop := c ∉ (s.data.toList.drop f).take (i - f)
theorem NoB.start (c : UInt8) (s : ByteArray) (f : Nat) : NoB c s f f := by unfold NoB; simp
theorem NoB.next {c : UInt8} {s : ByteArray} {f i : Nat} {e : UInt8} (h : NoB c s f i) (hf : f ≤ i) (he : s.data[i]? = some e) (hn : ¬ (e.toNat : Int) = (c.toNat : Int)) : NoB c s f (i + 1) := by
  unfold NoB at h ⊢
  rw [show i + 1 - f = (i - f) + 1 by omega, List.take_add_one, List.getElem?_drop, show f + (i - f) = i by omega, strGet he]
  rw [List.mem_append, not_or]
  refine ⟨h, ?_⟩
  simp only [Option.toList, List.mem_singleton]
  exact fun q => hn (by rw [q])
theorem NoB.cut {c : UInt8} {s : ByteArray} {f i : Nat} {e : UInt8} (h : NoB c s f i) (hf : f ≤ i) (he : s.data[i]? = some e) (hn : (e.toNat : Int) = (c.toNat : Int)) : cutB c (s.data.toList.drop f) = (s.extract f i).data.toList :: cutB c (s.data.toList.drop (i + 1)) := by
  have hc : e = c := UInt8.toNat_inj.1 (by omega)
  subst hc
  rw [Lib.extract_data]
  have e1 : s.data.toList.drop f = (s.data.toList.drop f).take (i - f) ++ e :: s.data.toList.drop (i + 1) := by
    rw [← dropCons (strGet he)]
    conv => lhs; rw [← List.take_append_drop (i - f) (s.data.toList.drop f)]
    rw [List.drop_drop, show f + (i - f) = i by omega]
  conv => lhs; rw [e1]
  exact cut_line h
theorem NoB.last {c : UInt8} {s : ByteArray} {f i : Nat} (h : NoB c s f i) (hi : s.size ≤ i) : cutB c (s.data.toList.drop f) = [(s.extract f i).data.toList] := by
  have e : (s.data.toList.drop f).take (i - f) = s.data.toList.drop f := by
    apply List.take_of_length_le
    have h3 : s.data.toList.length = s.size := Array.length_toList
    rw [List.length_drop]; omega
  unfold NoB at h
  rw [e] at h
  rw [Lib.extract_data, e]
  exact cut_one h
structure WInv (s : ByteArray) (i f : Nat) (o : List ByteArray) : Prop where
  fi : f ≤ i
  ol : o.length ≤ i
  cut : (i ≤ s.size ∧ NoB 32 s f i ∧ cutB 32 s.data.toList = wb o ++ cutB 32 (s.data.toList.drop f)) ∨ (s.size < i ∧ o = pcs 32 s)
theorem WInv.start (s : ByteArray) : WInv s 0 0 [] := ⟨Nat.le_refl _, Nat.le_refl _, .inl ⟨Nat.zero_le _, NoB.start _ _ _, rfl⟩⟩
theorem wb_snoc (o : List ByteArray) (x : ByteArray) : wb (o ++ [x]) = wb o ++ [x.data.toList] := by unfold wb; rw [List.map_append]; rfl
theorem WInv.pass {s : ByteArray} {i f : Nat} {o : List ByteArray} {e : UInt8} (h : WInv s i f o) (he : s.data[i]? = some e) (hn : ¬ (e.toNat : Int) = 32) : WInv s (i + 1) f o := by
  have hi : i < s.size := (Array.getElem?_eq_some_iff.1 he).1
  refine ⟨Nat.le_succ_of_le h.fi, Nat.le_succ_of_le h.ol, ?_⟩
  rcases h.cut with ⟨h1, h2, h3⟩ | ⟨h1, _⟩
  · exact .inl ⟨hi, h2.next h.fi he hn, h3⟩
  · omega
theorem WInv.hit {s : ByteArray} {i f : Nat} {o : List ByteArray} {e : UInt8} (h : WInv s i f o) (he : s.data[i]? = some e) (hn : (e.toNat : Int) = 32) : WInv s (i + 1) (i + 1) (o ++ [s.extract f i]) := by
  have hi : i < s.size := (Array.getElem?_eq_some_iff.1 he).1
  refine ⟨Nat.le_refl _, by have := h.ol; simp; omega, ?_⟩
  rcases h.cut with ⟨h1, h2, h3⟩ | ⟨h1, _⟩
  · refine .inl ⟨hi, NoB.start _ _ _, ?_⟩
    rw [h3, h2.cut h.fi he hn, wb_snoc, List.append_assoc]; rfl
  · omega
theorem WInv.last {s : ByteArray} {i f : Nat} {o : List ByteArray} (h : WInv s i f o) (hi : (i : Int) = (s.size : Int)) : WInv s (i + 1) (i + 1) (o ++ [s.extract f i]) := by
  refine ⟨Nat.le_refl _, by have := h.ol; simp; omega, ?_⟩
  rcases h.cut with ⟨h1, h2, h3⟩ | ⟨h1, _⟩
  · refine .inr ⟨by omega, ?_⟩
    unfold pcs
    rw [h3, h2.last (by omega), ← wb_snoc, of_wb]
  · omega
theorem WInv.done {s : ByteArray} {i f : Nat} {o : List ByteArray} (h : WInv s i f o) (hi : ¬ (i : Int) ≤ (s.size : Int)) : o = pcs 32 s := by
  rcases h.cut with ⟨h1, _⟩ | ⟨_, h2⟩
  · omega
  · exact h2
def rulQ (ws : List (List UInt8)) : Rul × Bool := if numsOk ws = true then (rulS ws, (onRS (wat ws 5)).2 && ruleOk (rulS ws)) else (zRul, false)
def numL (ws : List (List UInt8)) (i : Nat) : List Int := (List.range i).map fun j => (rd4 (wat ws (j + 2))).1
structure NInv (ws : List (List UInt8)) (i : Nat) (l : List Int) : Prop where
  lo : 2 ≤ i ∧ i ≤ 8
  eq : l = numL ws (i - 2)
  ok : ∀ j, 2 ≤ j → j < i → j ≠ 5 → (rd4 (wat ws j)).2 = true
theorem NInv.start (ws : List (List UInt8)) : NInv ws 2 [] := ⟨by omega, rfl, fun j h1 h2 => by omega⟩
theorem NInv.next {ws : List ByteArray} {i : Nat} {l : List Int} {e : ByteArray} (h : NInv (wb ws) i l) (he : ws[i]? = some e) (hi : (i : Int) < 8) (hk : (rd4 e.data.toList).2 = true ∨ (i : Int) = 5) : NInv (wb ws) (i + 1) (l ++ [(rd4 e.data.toList).1]) := by
  have h0 := h.lo
  refine ⟨by omega, ?_, fun j h1 h2 h3 => ?_⟩
  · rw [h.eq, show i + 1 - 2 = (i - 2) + 1 by omega]
    unfold numL
    rw [List.range_succ, List.map_append, List.map_cons, List.map_nil, show i - 2 + 2 = i by omega, wb_at he]
  · rcases Nat.lt_or_ge j i with q | q
    · exact h.ok j h1 q h3
    · have : j = i := by omega
      subst this
      rw [wb_at he]
      exact hk.resolve_right (by omega)
theorem NInv.all {ws : List (List UInt8)} {i : Nat} {l : List Int} (h : NInv ws i l) (hi : ¬ (i : Int) < 8) : numsOk ws = true := by
  have h0 := h.lo
  unfold numsOk
  rw [h.ok 2 (by omega) (by omega) (by omega), h.ok 3 (by omega) (by omega) (by omega), h.ok 4 (by omega) (by omega) (by omega), h.ok 6 (by omega) (by omega) (by omega), h.ok 7 (by omega) (by omega) (by omega)]; rfl
theorem NInv.len {ws : List (List UInt8)} {i : Nat} {l : List Int} (h : NInv ws i l) : l.length = i - 2 := by rw [h.eq]; unfold numL; simp
theorem NInv.at {ws : List (List UInt8)} {i : Nat} {l : List Int} {k : Nat} {e : Int} (h : NInv ws i l) (he : l[k]? = some e) : e = (rd4 (wat ws (k + 2))).1 := by
  rw [h.eq] at he
  unfold numL at he
  rw [List.getElem?_map] at he
  obtain ⟨j, h1, h2⟩ := Option.map_eq_some_iff.1 he
  rw [← h2]
  have := List.getElem?_range (show k < i - 2 by
    have := (List.getElem?_eq_some_iff.1 h1).1
    simpa using this)
  rw [this] at h1
  simp at h1; rw [h1]
theorem NInv.bad {ws : List ByteArray} {i : Nat} {l : List Int} {e : ByteArray} (h : NInv (wb ws) i l) (he : ws[i]? = some e) (hi : (i : Int) < 8) (hk : (rd4 e.data.toList).2 = false) (h5 : ¬ (i : Int) = 5) : rulQ (wb ws) = (zRul, false) := by
  unfold rulQ
  rw [if_neg]
  intro q
  have h0 := h.lo
  unfold numsOk at q
  simp only [Bool.and_eq_true] at q
  obtain ⟨q2, q3, q4, q6, q7⟩ := q
  rw [← wb_at he] at hk
  have : i = 2 ∨ i = 3 ∨ i = 4 ∨ i = 6 ∨ i = 7 := by omega
  rcases this with rfl | rfl | rfl | rfl | rfl
  · rw [q2] at hk; exact Bool.noConfusion hk
  · rw [q3] at hk; exact Bool.noConfusion hk
  · rw [q4] at hk; exact Bool.noConfusion hk
  · rw [q6] at hk; exact Bool.noConfusion hk
  · rw [q7] at hk; exact Bool.noConfusion hk
theorem rulQ_yes {ws : List (List UInt8)} (h : numsOk ws = true) : rulQ ws = (rulS ws, (onRS (wat ws 5)).2 && ruleOk (rulS ws)) := by unfold rulQ; rw [if_pos h]
theorem inR_nm (w : List UInt8) : inR (nm w) 97 122 = inR (nmS w) 97 122 ∧ (inR (nm w) 97 122 = true → nm w = nmS w) := by
  rcases w with _ | ⟨c, _ | ⟨d, r⟩⟩
  · exact ⟨(by decide : inR 0 97 122 = inR (-1) 97 122), fun h => absurd h (by decide : ¬ inR 0 97 122 = true)⟩
  · exact ⟨rfl, fun _ => rfl⟩
  · exact ⟨(by decide : inR 0 97 122 = inR (-1) 97 122), fun h => absurd h (by decide : ¬ inR 0 97 122 = true)⟩
theorem rulQ_ok (ws : List (List UInt8)) : (rulQ ws).2 = rulOk ws ∧ (rulOk ws = true → (rulQ ws).1 = rulW ws) := by
  have hn := inR_nm (wat ws 1)
  unfold rulQ rulOk
  cases hq : numsOk ws with
  | false => simp
  | true =>
    simp only [if_true, Bool.true_and]
    have e : ruleOk (rulS ws) = ruleOk (rulW ws) := by
      unfold ruleOk rulS rulW
      dsimp only
      rw [hn.1, onR_eq]
    refine ⟨by rw [e, onR_eq], fun h => ?_⟩
    simp only [Bool.and_eq_true] at h
    have h1 := h.2
    unfold ruleOk at h1
    simp only [Bool.and_eq_true] at h1
    unfold rulS rulW
    rw [← hn.2 h1.1, onR_eq]
theorem zonOkS_1 {ws : List (List UInt8)} (h : (rd4 (wat ws 2)).2 = false) : zonOkS ws = false := by unfold zonOkS; rw [h]; rfl
theorem zonOkS_2 {ws : List (List UInt8)} (h : inR (zonS ws).name 65 90 = false) : zonOkS ws = false := by unfold zonOkS; rw [h, Bool.false_and, Bool.and_false]
theorem zonOkS_3 {ws : List (List UInt8)} (h : inR (zonS ws).off (-900) 900 = false) : zonOkS ws = false := by unfold zonOkS; rw [h, Bool.false_and, Bool.and_false, Bool.and_false]
theorem zonOkS_4 {ws : List (List UInt8)} (h : ¬ (zonS ws).rule = 0) (h2 : inR (zonS ws).rule 97 122 = false) : zonOkS ws = false := by
  unfold zonOkS
  rw [h2, Bool.or_false, beq_eq_false_iff_ne.2 h, Bool.and_false, Bool.and_false, Bool.and_false]
theorem zonOkS_t {ws : List (List UInt8)} (h1 : (rd4 (wat ws 2)).2 = true) (h2 : inR (zonS ws).name 65 90 = true) (h3 : inR (zonS ws).off (-900) 900 = true) (h4 : (zonS ws).rule = 0 ∨ inR (zonS ws).rule 97 122 = true) : zonOkS ws = true := by
  unfold zonOkS
  rw [h1, h2, h3]
  rcases h4 with q | q
  · rw [q]; rfl
  · rw [q, Bool.or_true]; rfl
structure PInv (f : Srce → List UInt8 → Srce × Int) (t : ByteArray) (k : Nat) (s : Srce) (n : Int) : Prop where
  run : runP f zSrc 0 (cutB 10 t.data.toList) = runP f s n (cutB 10 (t.data.toList.drop k))
  sz : s.rules.length ≤ k ∧ s.zones.length ≤ k ∧ s.links.length ≤ k
  n0 : 0 ≤ n ∧ n ≤ k
theorem PInv.start (f : Srce → List UInt8 → Srce × Int) (t : ByteArray) : PInv f t 0 zSrc 0 := ⟨rfl, ⟨Nat.le_refl _, Nat.le_refl _, Nat.le_refl _⟩, by omega⟩
section
variable {f : Srce → List UInt8 → Srce × Int} {t : ByteArray} {k i : Nat} {s : Srce} {n : Int} {e : UInt8}
theorem ex_size (h : k ≤ i ∧ i ≤ t.size) : (t.extract k i).data.toList.length = i - k := by
  rw [Lib.extract_data, List.length_take, List.length_drop]
  have h3 : t.data.toList.length = t.size := Array.length_toList
  omega
theorem nil_is {s : ByteArray} (h : s.toList = (⟨#[]⟩ : ByteArray).toList) : s.data.toList = [] := by rw [Lib.toList_data, Lib.toList_data] at h; exact h
theorem nil_size {s : ByteArray} (h : ¬ s.toList = (⟨#[]⟩ : ByteArray).toList) : 0 < s.size ∧ s.data.toList ≠ [] := by
  rw [Lib.toList_data, Lib.toList_data] at h
  have h3 : s.data.toList.length = s.size := Array.length_toList
  exact ⟨by rw [← h3]; exact List.length_pos_iff.2 h, h⟩
theorem head_is {s : ByteArray} {c : UInt8} (he : s.data[0]? = some c) : s.data.toList.head? = some c := by rw [← strGet he]; cases s.data.toList <;> rfl
theorem PInv.skip (h : PInv f t k s n) (hb : NoB 10 t k i) (hk : k ≤ i) (he : t.data[i]? = some e) (hn : (e.toNat : Int) = 10) (hl : (t.extract k i).data.toList = [] ∨ (t.extract k i).data.toList.head? = some 35) : PInv f t (i + 1) s (n + 1) := by
  have := h.sz
  have := h.n0
  refine ⟨?_, by omega, by omega⟩
  rw [h.run, hb.cut hk he hn, runP, if_neg (cutB_ne _ _), if_pos hl]
theorem PInv.go (h : PInv f t k s n) (hb : NoB 10 t k i) (hk : k ≤ i) (he : t.data[i]? = some e) (hn : (e.toNat : Int) = 10) (h1 : (t.extract k i).data.toList ≠ []) (h2 : ¬ (t.extract k i).data.toList.head? = some 35) (h3 : (f s (t.extract k i).data.toList).2 = 0)
    (hz : (f s (t.extract k i).data.toList).1.rules.length ≤ s.rules.length + 1 ∧ (f s (t.extract k i).data.toList).1.zones.length ≤ s.zones.length + 1 ∧ (f s (t.extract k i).data.toList).1.links.length ≤ s.links.length + 1) : PInv f t (i + 1) (f s (t.extract k i).data.toList).1 (n + 1) := by
  have := h.sz
  have := h.n0
  refine ⟨?_, by omega, by omega⟩
  rw [h.run, hb.cut hk he hn, runP, if_neg (cutB_ne _ _), if_neg (not_or.2 ⟨h1, h2⟩), if_pos h3]
theorem par_of (h : ¬ (t.size : Int) > 1000) : parP f t.data.toList = runP f zSrc 0 (cutB 10 t.data.toList) := by
  unfold parP
  have h3 : t.data.toList.length = t.size := Array.length_toList
  rw [if_neg (by omega)]
theorem par_long (h : (t.size : Int) > 1000) : parP f t.data.toList = (zSrc, 0, 1) := by
  unfold parP
  have h3 : t.data.toList.length = t.size := Array.length_toList
  rw [if_pos (by omega)]
theorem PInv.bad (h : PInv f t k s n) (hb : NoB 10 t k i) (hk : k ≤ i) (he : t.data[i]? = some e) (hn : (e.toNat : Int) = 10) (h1 : (t.extract k i).data.toList ≠ []) (h2 : ¬ (t.extract k i).data.toList.head? = some 35) (h3 : ¬ (f s (t.extract k i).data.toList).2 = 0) (hs : ¬ (t.size : Int) > 1000) : parP f t.data.toList = (zSrc, n, (f s (t.extract k i).data.toList).2) := by
  rw [par_of hs, h.run, hb.cut hk he hn, runP, if_neg (cutB_ne _ _), if_neg (not_or.2 ⟨h1, h2⟩), if_neg h3]
theorem PInv.endl (h : PInv f t k s n) (hb : NoB 10 t k i) (hk : k ≤ i) (hk2 : (k : Int) < (t.size : Int)) (hi : (i : Int) = (t.size : Int)) (hs : ¬ (t.size : Int) > 1000) : parP f t.data.toList = (zSrc, n, 2) := by
  rw [par_of hs, h.run, hb.last (by omega), runP, if_pos rfl, if_neg]
  intro q
  have := ex_size (t := t) (k := k) (i := i) (by omega)
  rw [q] at this
  simp at this; omega
theorem PInv.done (h : PInv f t k s n) (hk : t.size ≤ k) (hs : ¬ (t.size : Int) > 1000) : parP f t.data.toList = (s, n, 0) := by
  have h3 : t.data.toList.length = t.size := Array.length_toList
  rw [par_of hs, h.run, List.drop_of_length_le (by omega)]
  rfl
end
structure IInv (t : ByteArray) (k : Nat) (s : Srce) : Prop where
  run : runP lineI zSrc 0 (cutB 10 t.data.toList) = runP lineI s k ((cutB 10 t.data.toList).drop k)
  sz : s.rules.length ≤ k ∧ s.zones.length ≤ k ∧ s.links.length ≤ k
  lt : k < (pcs 10 t).length
theorem IInv.start (t : ByteArray) : IInv t 0 zSrc := ⟨rfl, ⟨Nat.le_refl _, Nat.le_refl _, Nat.le_refl _⟩, (pcs_few 10 t).1⟩
section
variable {t : ByteArray} {k : Nat} {s : Srce} {e : ByteArray}
theorem IInv.here (h : IInv t k s) (he : (pcs 10 t)[k]? = some e) : runP lineI zSrc 0 (cutB 10 t.data.toList) = runP lineI s k (e.data.toList :: (cutB 10 t.data.toList).drop (k + 1)) := by
  rw [h.run]
  have : (cutB 10 t.data.toList)[k]? = some e.data.toList := by
    rw [← wb_cut]
    unfold wb
    rw [List.getElem?_map, he]; rfl
  rw [dropCons this]
theorem IInv.more (h : ¬ (k : Int) = ((pcs 10 t).length : Int) - 1) (hl : k < (pcs 10 t).length) : ¬ (cutB 10 t.data.toList).drop (k + 1) = [] ∧ k + 1 < (pcs 10 t).length := by
  rw [pcs_len] at h hl ⊢
  refine ⟨fun q => ?_, by omega⟩
  have := congrArg List.length q
  rw [List.length_drop] at this
  simp at this; omega
theorem IInv.skip (h : IInv t k s) (he : (pcs 10 t)[k]? = some e) (hk : ¬ (k : Int) = ((pcs 10 t).length : Int) - 1) (hl : e.data.toList = [] ∨ e.data.toList.head? = some 35) : IInv t (k + 1) s := by
  have := h.sz
  have hm := IInv.more hk h.lt
  refine ⟨?_, by omega, hm.2⟩
  rw [h.here he, runP, if_neg hm.1, if_pos hl]
  rfl
theorem IInv.go (h : IInv t k s) (he : (pcs 10 t)[k]? = some e) (hk : ¬ (k : Int) = ((pcs 10 t).length : Int) - 1) (h1 : e.data.toList ≠ []) (h2 : ¬ e.data.toList.head? = some 35) (h3 : (lineI s e.data.toList).2 = 0) : IInv t (k + 1) (lineI s e.data.toList).1 := by
  have := h.sz
  have hm := IInv.more hk h.lt
  have hz := step_len (zonOk (cutB 32 e.data.toList)) (zonW (cutB 32 e.data.toList)) s (cutB 32 e.data.toList)
  refine ⟨?_, ?_, hm.2⟩
  · rw [h.here he, runP, if_neg hm.1, if_neg (not_or.2 ⟨h1, h2⟩), if_pos h3]
    rfl
  · show (stepW _ _ _ _).1.rules.length ≤ _ ∧ _
    unfold lineI
    omega
theorem IInv.bad (h : IInv t k s) (he : (pcs 10 t)[k]? = some e) (hk : ¬ (k : Int) = ((pcs 10 t).length : Int) - 1) (h1 : e.data.toList ≠ []) (h2 : ¬ e.data.toList.head? = some 35) (h3 : ¬ (lineI s e.data.toList).2 = 0) (hs : ¬ (t.size : Int) > 1000) : parP lineI t.data.toList = (zSrc, (k : Int), (lineI s e.data.toList).2) := by
  have hm := IInv.more hk h.lt
  rw [par_of hs, h.here he, runP, if_neg hm.1, if_neg (not_or.2 ⟨h1, h2⟩), if_neg h3]
theorem IInv.tail (hk : (k : Int) = ((pcs 10 t).length : Int) - 1) : (cutB 10 t.data.toList).drop (k + 1) = [] := by
  apply List.drop_of_length_le
  rw [pcs_len] at hk; omega
theorem IInv.end0 (h : IInv t k s) (he : (pcs 10 t)[k]? = some e) (hk : (k : Int) = ((pcs 10 t).length : Int) - 1) (h1 : e.data.toList = []) (hs : ¬ (t.size : Int) > 1000) : parP lineI t.data.toList = (s, ((pcs 10 t).length : Int) - 1, 0) := by
  rw [par_of hs, h.here he, runP, if_pos (IInv.tail hk), if_pos h1, hk]
theorem IInv.end2 (h : IInv t k s) (he : (pcs 10 t)[k]? = some e) (hk : (k : Int) = ((pcs 10 t).length : Int) - 1) (h1 : e.data.toList ≠ []) (hs : ¬ (t.size : Int) > 1000) : parP lineI t.data.toList = (zSrc, (k : Int), 2) := by
  rw [par_of hs, h.here he, runP, if_pos (IInv.tail hk), if_neg h1]
end
def Nz (s : ByteArray) : Prop := (0 : UInt8) ∉ s.data.toList
theorem Nz.cat {a b : ByteArray} (ha : Nz a) (hb : Nz b) : Nz (a ++ b) := by
  unfold Nz at *
  rw [ByteArray.data_append, Array.toList_append, List.mem_append, not_or]
  exact ⟨ha, hb⟩
theorem Nz.ex {a : ByteArray} (ha : Nz a) (i j : Nat) : Nz (a.extract i j) := by
  unfold Nz at *
  rw [Lib.extract_data]
  exact fun h => ha (List.mem_of_mem_drop (List.mem_of_mem_take h))
theorem nz_src (s : Srce) : Nz (strOf (srcP s).1) := by unfold Nz; rw [data_strOf]; exact src_no0 s
theorem srcP_size (s : Srce) : (srcP s).1.length ≤ 1000 := by
  unfold srcP
  split
  · split
    · assumption
    · simp
  · simp
instance (s : ByteArray) : Decidable (Nz s) := by unfold Nz; infer_instance
theorem num_b1 {w : List UInt8} {f : FieldR} (h : (rdN w 4).2 = false) : (⟨true⟩ : FieldR) = ⟨f.bad || !(rd4 w).2⟩ := by rw [← num_eq, h]; simp
theorem num_b2 {w : List UInt8} {f : FieldR} (h : (rdN w 4).2 = true) : f = ⟨f.bad || !(rd4 w).2⟩ := by
  rw [← num_eq, h]
  cases f; simp
section
variable {ws : List ByteArray} {e1 e2 e3 : ByteArray}
theorem zW_d (w1 : wat (wb ws) 1 = e1.data.toList) (w2 : wat (wb ws) 2 = e3.data.toList) (w3 : wat (wb ws) 3 = e2.data.toList) (h : e2.toList = (⟨#[45]⟩ : ByteArray).toList) : (⟨nm e1.data.toList, (rd4 e3.data.toList).1, 0⟩ : Zon) = zonW (wb ws) := by
  rw [← w1, ← w2]; exact zonW_d (by rw [w3]; exact dash_is h)
theorem zW_n (w1 : wat (wb ws) 1 = e1.data.toList) (w2 : wat (wb ws) 2 = e3.data.toList) (w3 : wat (wb ws) 3 = e2.data.toList) (h : ¬ e2.toList = (⟨#[45]⟩ : ByteArray).toList) : (⟨nm e1.data.toList, (rd4 e3.data.toList).1, nm e2.data.toList⟩ : Zon) = zonW (wb ws) := by
  rw [← w1, ← w2, ← w3]; exact zonW_n (by rw [w3]; exact dash_not h)
theorem zO_1 (w3 : wat (wb ws) 3 = e2.data.toList) (h : ¬ e2.toList = (⟨#[45]⟩ : ByteArray).toList) (h2 : inR (nm e2.data.toList) 97 122 = false) : false = zonOk (wb ws) := zonOk_1 (by rw [w3]; exact dash_not h) (by rw [w3]; exact h2)
theorem zO_2 (w2 : wat (wb ws) 2 = e3.data.toList) (h : (false || !(rd4 e3.data.toList).2) = true) : false = zonOk (wb ws) := zonOk_2 (by rw [w2]; exact h)
theorem zO_3 (w1 : wat (wb ws) 1 = e1.data.toList) (w2 : wat (wb ws) 2 = e3.data.toList) (w3 : wat (wb ws) 3 = e2.data.toList) (h : e2.toList = (⟨#[45]⟩ : ByteArray).toList) (hb : (false || !(rd4 e3.data.toList).2) = false) : zoneOk (⟨nm e1.data.toList, (rd4 e3.data.toList).1, 0⟩ : Zon) = zonOk (wb ws) := by
  rw [zW_d w1 w2 w3 h]; exact zonOk_3 (by rw [w2]; exact hb) (.inl (by rw [w3]; exact dash_is h))
theorem zO_4 (w1 : wat (wb ws) 1 = e1.data.toList) (w2 : wat (wb ws) 2 = e3.data.toList) (w3 : wat (wb ws) 3 = e2.data.toList) (h : ¬ e2.toList = (⟨#[45]⟩ : ByteArray).toList) (h2 : inR (nm e2.data.toList) 97 122 = true) (hb : (false || !(rd4 e3.data.toList).2) = false) : zoneOk (⟨nm e1.data.toList, (rd4 e3.data.toList).1, nm e2.data.toList⟩ : Zon) = zonOk (wb ws) := by
  rw [zW_n w1 w2 w3 h]; exact zonOk_3 (by rw [w2]; exact hb) (.inr (by rw [w3]; exact h2))
theorem lW (w1 : wat (wb ws) 1 = e1.data.toList) (w2 : wat (wb ws) 2 = e2.data.toList) : lnkW (wb ws) = ⟨nm e1.data.toList, nm e2.data.toList⟩ := by unfold lnkW; rw [w1, w2]
end
theorem hash_is {s : ByteArray} {c : UInt8} (he : s.data[0]? = some c) (h : (c.toNat : Int) = 35) : s.data.toList.head? = some 35 := by
  rw [head_is he]
  exact congrArg some (UInt8.toNat_inj.1 (by show c.toNat = 35; omega))
theorem hash_not {s : ByteArray} {c : UInt8} (he : s.data[0]? = some c) (h : ¬ (c.toNat : Int) = 35) : ¬ s.data.toList.head? = some 35 := by
  rw [head_is he]
  intro q
  rw [Option.some.injEq] at q
  exact h (by rw [q]; rfl)
def rulEqA (a b : Rul) : Bool := (a.name == b.name) && ((a.from_ == b.from_) && ((a.to == b.to) && ((a.month == b.month) && ((onEqA a.on b.on) && ((a.at_ == b.at_) && ((a.save == b.save) && true))))))
def zonEqA (a b : Zon) : Bool := (a.name == b.name) && ((a.off == b.off) && ((a.rule == b.rule) && true))
def lnkEqA (a b : Lnk) : Bool := (a.name == b.name) && ((a.to == b.to) && true)
theorem rulEqA_refl (a : Rul) : rulEqA a a = true := by simp [rulEqA, onEqA_refl]
theorem zonEqA_refl (a : Zon) : zonEqA a a = true := by simp [zonEqA]
theorem lnkEqA_refl (a : Lnk) : lnkEqA a a = true := by simp [lnkEqA]
theorem same_el {α : Type} {l m : List α} {k : Nat} {x y : α} (h : l = m) (hx : l[k]? = some x) (hy : m[k]? = some y) : x = y := by
  subst h
  exact Option.some.inj (hx.symm.trans hy)
theorem sp_yes {s : Srce} (h : (srcP s).2 = true) : ∃ m : Int, parP lineI (strOf (srcP s).1).data.toList = (s, m, 0) := by
  rw [data_strOf]
  unfold srcP at h ⊢
  split at h
  · rename_i h1
    rw [if_pos h1]
    split at h
    · rename_i h2
      rw [if_pos h2]
      exact print_read h1 h2
    · cases h
  · cases h
theorem sz_ok {s : Srce} (h : srcOk s = true) : s.rules.length ≤ 1048576 ∧ s.zones.length ≤ 1048576 ∧ s.links.length ≤ 1048576 := by
  obtain ⟨q1, q2, q3, q4⟩ := srcOk_iff.1 h
  have := zones_few q3
  have := links_few q4
  omega
theorem sp_size (s : Srce) : (strOf (srcP s).1).size ≤ 1000 := by rw [strOf_size]; exact srcP_size s
theorem rul_ne {a b : Rul} (h : a = b) (h2 : rulEqA a b = false) : False := by rw [h, rulEqA_refl] at h2; exact Bool.noConfusion h2
theorem zon_ne {a b : Zon} (h : a = b) (h2 : zonEqA a b = false) : False := by rw [h, zonEqA_refl] at h2; exact Bool.noConfusion h2
theorem lnk_ne {a b : Lnk} (h : a = b) (h2 : lnkEqA a b = false) : False := by rw [h, lnkEqA_refl] at h2; exact Bool.noConfusion h2
theorem great_nm (w : List UInt8) : inR (nmX false w) 65 90 = inR (nm w) 65 90 ∧ (inR (nmX false w) 65 90 = true → nm w = nmX false w) := by
  rw [nmX_f]
  rcases w with _ | ⟨c, _ | ⟨d, r⟩⟩
  · exact ⟨(by decide : inR (-1) 65 90 = inR 0 65 90), fun h => absurd h (by decide : ¬ inR (-1) 65 90 = true)⟩
  · exact ⟨rfl, fun _ => rfl⟩
  · exact ⟨(by decide : inR (-1) 65 90 = inR 0 65 90), fun h => absurd h (by decide : ¬ inR (-1) 65 90 = true)⟩
section
variable {ws : List ByteArray} {e1 e2 e3 : ByteArray}
theorem zS_is (w1 : wat (wb ws) 1 = e1.data.toList) (w2 : wat (wb ws) 2 = e2.data.toList) (w3 : wat (wb ws) 3 = e3.data.toList) : zonS (wb ws) = ⟨nmX false e1.data.toList, (rd4 e2.data.toList).1, nmX true e3.data.toList⟩ := by
  unfold zonS; rw [w1, w2, w3, nmX_f, nmX_t]
theorem lS_is (w1 : wat (wb ws) 1 = e1.data.toList) (w2 : wat (wb ws) 2 = e2.data.toList) (h1 : inR (nmX false e1.data.toList) 65 90 = true) (h2 : inR (nmX false e2.data.toList) 65 90 = true) : lnkW (wb ws) = ⟨nmX false e1.data.toList, nmX false e2.data.toList⟩ := by
  rw [lW w1 w2, (great_nm _).2 h1, (great_nm _).2 h2]
theorem lS_t (w1 : wat (wb ws) 1 = e1.data.toList) (w2 : wat (wb ws) 2 = e2.data.toList) (h1 : inR (nmX false e1.data.toList) 65 90 = true) (h2 : inR (nmX false e2.data.toList) 65 90 = true) : lnkOk (wb ws) = true :=
  lnkOk_t (by rw [w1, ← (great_nm _).1]; exact h1) (by rw [w2, ← (great_nm _).1]; exact h2)
theorem lS_1 (w1 : wat (wb ws) 1 = e1.data.toList) (h1 : inR (nmX false e1.data.toList) 65 90 = false) : lnkOk (wb ws) = false := lnkOk_1 (by rw [w1, ← (great_nm _).1]; exact h1)
theorem lS_2 (w2 : wat (wb ws) 2 = e2.data.toList) (h2 : inR (nmX false e2.data.toList) 65 90 = false) : lnkOk (wb ws) = false := lnkOk_2 (by rw [w2, ← (great_nm _).1]; exact h2)
end
theorem rulQ_t {ws : List (List UInt8)} (h : (rulQ ws).2 = true) : rulOk ws = true := by rw [← (rulQ_ok ws).1]; exact h
theorem rulQ_f {ws : List (List UInt8)} (h : (rulQ ws).2 = false) : rulOk ws = false := by rw [← (rulQ_ok ws).1]; exact h
end Go.Sy
end
