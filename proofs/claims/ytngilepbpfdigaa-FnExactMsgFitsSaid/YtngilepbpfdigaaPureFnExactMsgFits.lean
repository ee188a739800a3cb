/- The law FnExactMsgFits answers true for every argument. No condition. -/
import Derived.Test.YtngilepbpfdigaaQFnExactMsgFitsx14
namespace Go.Proofs.Ytngilepbpfdigaa.Pure
open Go.RowKit Go.Proofs.Ytngilepbpfdigaa.QFnExactMsgFits Go.Proofs.YtngilepbpfdigaaW.PrintWords Go.Proofs.YtngilepbpfdigaaW.PrintLast
set_option linter.unusedVariables false
set_option linter.unusedSimpArgs false

def z (x : Int) : Bool := decide (x = 0)
def czB (a b c d : Int) (s : ByteArray) : Bool := a == 0 && (b == 0 && (c == 0 && (d == 0 && s.toList.isEmpty)))
def restB (a1 a2 a3 a4 a5 : Int) (a6 : Bool) (a7 a8 : Int) (a9 : ByteArray) (a10 a11 a12 a13 : Int) (a14 : ByteArray) (l : List S40) : Bool := z a1 && (z a2 && (z a3 && (z a4 && (z a5 && (!a6 && (z a7 && (z a8 && (z (a9.size : Int) && (czB a10 a11 a12 a13 a14 && l.isEmpty)))))))))
theorem smz (k : Int) (a1 a2 a3 a4 a5 : Int) (a6 : Bool) (a7 a8 : Int) (a9 : ByteArray) (a10 a11 a12 a13 : Int) (a14 : ByteArray) (l : List S40) : smB (k, a1, a2, a3, a4, a5, a6, a7, a8, a9, a10, a11, a12, a13, a14, l) (k, 0, 0, 0, 0, 0, false, 0, 0, (⟨#[]⟩ : ByteArray), 0, 0, 0, 0, (⟨#[]⟩ : ByteArray), ([] : List S40)) = restB a1 a2 a3 a4 a5 a6 a7 a8 a9 a10 a11 a12 a13 a14 l := by
  unfold smB sameM restB czB z
  rw [Bool.eq_iff_iff]
  simp only [Bool.and_eq_true, decide_eq_true_eq, SameP, nil_list, bal_nil]
  constructor
  · rintro ⟨⟨_, h1, h2, h3, h4, h5, h6, h7, h8, h9, hc⟩, hl, _⟩
    have hl' : l = [] := List.length_eq_zero_iff.mp hl
    subst hl'
    simp only [Bool.and_eq_true, beq_iff_eq] at hc
    obtain ⟨c0, c1, c2, c3, c4⟩ := hc
    simp [h1, h2, h3, h4, h5, h6, h7, h8, h9, c0, c1, c2, c3, c4]
  · rintro ⟨h1, h2, h3, h4, h5, h6, h7, h8, h9, ⟨c0, c1, c2, c3, c4⟩, hl⟩
    have hl' : l = [] := List.isEmpty_iff.mp hl
    subst hl'
    have c4' : a14.toList = [] := List.isEmpty_iff.mp c4
    have h6' : a6 = false := by cases a6 <;> simp_all
    refine ⟨⟨trivial, h1, h2, h3, h4, h5, h6', h7, h8, by omega, ?_⟩, rfl, rfl⟩
    simp only [beq_iff_eq] at c0 c1 c2 c3
    simp [c0, c1, c2, c3, c4']
theorem numT (x lo hi : Int) : numB true x lo hi = inr lo hi x := rfl
theorem numF (x lo hi : Int) : numB false x lo hi = z x := rfl
theorem lenB (l : List S40) : ((l.length : Int) == 0) = l.isEmpty := by cases l <;> simp <;> omega
theorem endF (l : List S40) : (numB (false || (l.length : Int) == 0) (l.length : Int) 0 6 && l.all entT) = l.isEmpty := by
  rw [lenB]
  cases l
  · rfl
  · simp [numB]; omega
theorem endT (l : List S40) : (numB (true || (l.length : Int) == 0) (l.length : Int) 0 6 && l.all entT) = (decide ((l.length : Int) ≤ 6) && l.all entT) := by
  simp only [Bool.true_or, numT, inr]
  congr 1
  simp
theorem czE (a b c d : Int) (s : ByteArray) : (a == 0 && (b == 0 && (c == 0 && (d == 0 && s.toList.isEmpty)))) = czB a b c d s := rfl
theorem cz0 : czB 0 0 0 0 (⟨#[]⟩ : ByteArray) = true := by unfold czB; rw [nil_list]; rfl
theorem z0 : z 0 = true := rfl
theorem zs0 : z (((⟨#[]⟩ : ByteArray).size : Nat) : Int) = true := rfl
theorem ifB (b c : Bool) : (if b = true then c else false) = (b && c) := by cases b <;> rfl
theorem kB_f (a0 a1 a2 a3 a4 a5 : Int) (a6 : Bool) (a7 a8 : Int) (a9 : ByteArray) (a10 a11 a12 a13 : Int) (a14 : ByteArray) (l : List S40) : tkB ((102 : UInt8).toNat : Int) (a0, a1, a2, a3, a4, a5, a6, a7, a8, a9, a10, a11, a12, a13, a14, l) = inr 0 4 a1 := rfl
theorem kX_f (a0 a1 a2 a3 a4 a5 : Int) (a6 : Bool) (a7 a8 : Int) (a9 : ByteArray) (a10 a11 a12 a13 : Int) (a14 : ByteArray) (l : List S40) : tkX ((102 : UInt8).toNat : Int) (a0, a1, a2, a3, a4, a5, a6, a7, a8, a9, a10, a11, a12, a13, a14, l) = (a0, 0, a2, a3, a4, a5, a6, a7, a8, a9, a10, a11, a12, a13, a14, l) := rfl
theorem run_f (a0 a1 a2 a3 a4 a5 : Int) (a6 : Bool) (a7 a8 : Int) (a9 : ByteArray) (a10 a11 a12 a13 : Int) (a14 : ByteArray) (l : List S40) (bs : List UInt8) : runF (102 :: bs) (a0, a1, a2, a3, a4, a5, a6, a7, a8, a9, a10, a11, a12, a13, a14, l) = if inr 0 4 a1 = true then runF bs (a0, 0, a2, a3, a4, a5, a6, a7, a8, a9, a10, a11, a12, a13, a14, l) else none := by rw [runF, kB_f, kX_f]
theorem kB_t (a0 a1 a2 a3 a4 a5 : Int) (a6 : Bool) (a7 a8 : Int) (a9 : ByteArray) (a10 a11 a12 a13 : Int) (a14 : ByteArray) (l : List S40) : tkB ((116 : UInt8).toNat : Int) (a0, a1, a2, a3, a4, a5, a6, a7, a8, a9, a10, a11, a12, a13, a14, l) = inr 0 1000000000 a2 := rfl
theorem kX_t (a0 a1 a2 a3 a4 a5 : Int) (a6 : Bool) (a7 a8 : Int) (a9 : ByteArray) (a10 a11 a12 a13 : Int) (a14 : ByteArray) (l : List S40) : tkX ((116 : UInt8).toNat : Int) (a0, a1, a2, a3, a4, a5, a6, a7, a8, a9, a10, a11, a12, a13, a14, l) = (a0, a1, 0, a3, a4, a5, a6, a7, a8, a9, a10, a11, a12, a13, a14, l) := rfl
theorem run_t (a0 a1 a2 a3 a4 a5 : Int) (a6 : Bool) (a7 a8 : Int) (a9 : ByteArray) (a10 a11 a12 a13 : Int) (a14 : ByteArray) (l : List S40) (bs : List UInt8) : runF (116 :: bs) (a0, a1, a2, a3, a4, a5, a6, a7, a8, a9, a10, a11, a12, a13, a14, l) = if inr 0 1000000000 a2 = true then runF bs (a0, a1, 0, a3, a4, a5, a6, a7, a8, a9, a10, a11, a12, a13, a14, l) else none := by rw [runF, kB_t, kX_t]
theorem kB_a (a0 a1 a2 a3 a4 a5 : Int) (a6 : Bool) (a7 a8 : Int) (a9 : ByteArray) (a10 a11 a12 a13 : Int) (a14 : ByteArray) (l : List S40) : tkB ((97 : UInt8).toNat : Int) (a0, a1, a2, a3, a4, a5, a6, a7, a8, a9, a10, a11, a12, a13, a14, l) = inr 0 80 a3 := rfl
theorem kX_a (a0 a1 a2 a3 a4 a5 : Int) (a6 : Bool) (a7 a8 : Int) (a9 : ByteArray) (a10 a11 a12 a13 : Int) (a14 : ByteArray) (l : List S40) : tkX ((97 : UInt8).toNat : Int) (a0, a1, a2, a3, a4, a5, a6, a7, a8, a9, a10, a11, a12, a13, a14, l) = (a0, a1, a2, 0, a4, a5, a6, a7, a8, a9, a10, a11, a12, a13, a14, l) := rfl
theorem run_a (a0 a1 a2 a3 a4 a5 : Int) (a6 : Bool) (a7 a8 : Int) (a9 : ByteArray) (a10 a11 a12 a13 : Int) (a14 : ByteArray) (l : List S40) (bs : List UInt8) : runF (97 :: bs) (a0, a1, a2, a3, a4, a5, a6, a7, a8, a9, a10, a11, a12, a13, a14, l) = if inr 0 80 a3 = true then runF bs (a0, a1, a2, 0, a4, a5, a6, a7, a8, a9, a10, a11, a12, a13, a14, l) else none := by rw [runF, kB_a, kX_a]
theorem kB_x (a0 a1 a2 a3 a4 a5 : Int) (a6 : Bool) (a7 a8 : Int) (a9 : ByteArray) (a10 a11 a12 a13 : Int) (a14 : ByteArray) (l : List S40) : tkB ((120 : UInt8).toNat : Int) (a0, a1, a2, a3, a4, a5, a6, a7, a8, a9, a10, a11, a12, a13, a14, l) = inr 0 1000000000 a4 := rfl
theorem kX_x (a0 a1 a2 a3 a4 a5 : Int) (a6 : Bool) (a7 a8 : Int) (a9 : ByteArray) (a10 a11 a12 a13 : Int) (a14 : ByteArray) (l : List S40) : tkX ((120 : UInt8).toNat : Int) (a0, a1, a2, a3, a4, a5, a6, a7, a8, a9, a10, a11, a12, a13, a14, l) = (a0, a1, a2, a3, 0, a5, a6, a7, a8, a9, a10, a11, a12, a13, a14, l) := rfl
theorem run_x (a0 a1 a2 a3 a4 a5 : Int) (a6 : Bool) (a7 a8 : Int) (a9 : ByteArray) (a10 a11 a12 a13 : Int) (a14 : ByteArray) (l : List S40) (bs : List UInt8) : runF (120 :: bs) (a0, a1, a2, a3, a4, a5, a6, a7, a8, a9, a10, a11, a12, a13, a14, l) = if inr 0 1000000000 a4 = true then runF bs (a0, a1, a2, a3, 0, a5, a6, a7, a8, a9, a10, a11, a12, a13, a14, l) else none := by rw [runF, kB_x, kX_x]
theorem kB_c (a0 a1 a2 a3 a4 a5 : Int) (a6 : Bool) (a7 a8 : Int) (a9 : ByteArray) (a10 a11 a12 a13 : Int) (a14 : ByteArray) (l : List S40) : tkB ((99 : UInt8).toNat : Int) (a0, a1, a2, a3, a4, a5, a6, a7, a8, a9, a10, a11, a12, a13, a14, l) = inr 0 80 a5 := rfl
theorem kX_c (a0 a1 a2 a3 a4 a5 : Int) (a6 : Bool) (a7 a8 : Int) (a9 : ByteArray) (a10 a11 a12 a13 : Int) (a14 : ByteArray) (l : List S40) : tkX ((99 : UInt8).toNat : Int) (a0, a1, a2, a3, a4, a5, a6, a7, a8, a9, a10, a11, a12, a13, a14, l) = (a0, a1, a2, a3, a4, 0, a6, a7, a8, a9, a10, a11, a12, a13, a14, l) := rfl
theorem run_c (a0 a1 a2 a3 a4 a5 : Int) (a6 : Bool) (a7 a8 : Int) (a9 : ByteArray) (a10 a11 a12 a13 : Int) (a14 : ByteArray) (l : List S40) (bs : List UInt8) : runF (99 :: bs) (a0, a1, a2, a3, a4, a5, a6, a7, a8, a9, a10, a11, a12, a13, a14, l) = if inr 0 80 a5 = true then runF bs (a0, a1, a2, a3, a4, 0, a6, a7, a8, a9, a10, a11, a12, a13, a14, l) else none := by rw [runF, kB_c, kX_c]
theorem kB_y (a0 a1 a2 a3 a4 a5 : Int) (a6 : Bool) (a7 a8 : Int) (a9 : ByteArray) (a10 a11 a12 a13 : Int) (a14 : ByteArray) (l : List S40) : tkB ((121 : UInt8).toNat : Int) (a0, a1, a2, a3, a4, a5, a6, a7, a8, a9, a10, a11, a12, a13, a14, l) = true := rfl
theorem kX_y (a0 a1 a2 a3 a4 a5 : Int) (a6 : Bool) (a7 a8 : Int) (a9 : ByteArray) (a10 a11 a12 a13 : Int) (a14 : ByteArray) (l : List S40) : tkX ((121 : UInt8).toNat : Int) (a0, a1, a2, a3, a4, a5, a6, a7, a8, a9, a10, a11, a12, a13, a14, l) = (a0, a1, a2, a3, a4, a5, false, a7, a8, a9, a10, a11, a12, a13, a14, l) := rfl
theorem run_y (a0 a1 a2 a3 a4 a5 : Int) (a6 : Bool) (a7 a8 : Int) (a9 : ByteArray) (a10 a11 a12 a13 : Int) (a14 : ByteArray) (l : List S40) (bs : List UInt8) : runF (121 :: bs) (a0, a1, a2, a3, a4, a5, a6, a7, a8, a9, a10, a11, a12, a13, a14, l) = if true = true then runF bs (a0, a1, a2, a3, a4, a5, false, a7, a8, a9, a10, a11, a12, a13, a14, l) else none := by rw [runF, kB_y, kX_y]
theorem kB_r (a0 a1 a2 a3 a4 a5 : Int) (a6 : Bool) (a7 a8 : Int) (a9 : ByteArray) (a10 a11 a12 a13 : Int) (a14 : ByteArray) (l : List S40) : tkB ((114 : UInt8).toNat : Int) (a0, a1, a2, a3, a4, a5, a6, a7, a8, a9, a10, a11, a12, a13, a14, l) = inr 1 1000 a7 := rfl
theorem kX_r (a0 a1 a2 a3 a4 a5 : Int) (a6 : Bool) (a7 a8 : Int) (a9 : ByteArray) (a10 a11 a12 a13 : Int) (a14 : ByteArray) (l : List S40) : tkX ((114 : UInt8).toNat : Int) (a0, a1, a2, a3, a4, a5, a6, a7, a8, a9, a10, a11, a12, a13, a14, l) = (a0, a1, a2, a3, a4, a5, a6, 0, a8, a9, a10, a11, a12, a13, a14, l) := rfl
theorem run_r (a0 a1 a2 a3 a4 a5 : Int) (a6 : Bool) (a7 a8 : Int) (a9 : ByteArray) (a10 a11 a12 a13 : Int) (a14 : ByteArray) (l : List S40) (bs : List UInt8) : runF (114 :: bs) (a0, a1, a2, a3, a4, a5, a6, a7, a8, a9, a10, a11, a12, a13, a14, l) = if inr 1 1000 a7 = true then runF bs (a0, a1, a2, a3, a4, a5, a6, 0, a8, a9, a10, a11, a12, a13, a14, l) else none := by rw [runF, kB_r, kX_r]
theorem kB_p (a0 a1 a2 a3 a4 a5 : Int) (a6 : Bool) (a7 a8 : Int) (a9 : ByteArray) (a10 a11 a12 a13 : Int) (a14 : ByteArray) (l : List S40) : tkB ((112 : UInt8).toNat : Int) (a0, a1, a2, a3, a4, a5, a6, a7, a8, a9, a10, a11, a12, a13, a14, l) = inr 0 1000 a8 := rfl
theorem kX_p (a0 a1 a2 a3 a4 a5 : Int) (a6 : Bool) (a7 a8 : Int) (a9 : ByteArray) (a10 a11 a12 a13 : Int) (a14 : ByteArray) (l : List S40) : tkX ((112 : UInt8).toNat : Int) (a0, a1, a2, a3, a4, a5, a6, a7, a8, a9, a10, a11, a12, a13, a14, l) = (a0, a1, a2, a3, a4, a5, a6, a7, 0, a9, a10, a11, a12, a13, a14, l) := rfl
theorem run_p (a0 a1 a2 a3 a4 a5 : Int) (a6 : Bool) (a7 a8 : Int) (a9 : ByteArray) (a10 a11 a12 a13 : Int) (a14 : ByteArray) (l : List S40) (bs : List UInt8) : runF (112 :: bs) (a0, a1, a2, a3, a4, a5, a6, a7, a8, a9, a10, a11, a12, a13, a14, l) = if inr 0 1000 a8 = true then runF bs (a0, a1, a2, a3, a4, a5, a6, a7, 0, a9, a10, a11, a12, a13, a14, l) else none := by rw [runF, kB_p, kX_p]
theorem kB_b (a0 a1 a2 a3 a4 a5 : Int) (a6 : Bool) (a7 a8 : Int) (a9 : ByteArray) (a10 a11 a12 a13 : Int) (a14 : ByteArray) (l : List S40) : tkB ((98 : UInt8).toNat : Int) (a0, a1, a2, a3, a4, a5, a6, a7, a8, a9, a10, a11, a12, a13, a14, l) = inr 1 16 (a9.size : Int) := rfl
theorem kX_b (a0 a1 a2 a3 a4 a5 : Int) (a6 : Bool) (a7 a8 : Int) (a9 : ByteArray) (a10 a11 a12 a13 : Int) (a14 : ByteArray) (l : List S40) : tkX ((98 : UInt8).toNat : Int) (a0, a1, a2, a3, a4, a5, a6, a7, a8, a9, a10, a11, a12, a13, a14, l) = (a0, a1, a2, a3, a4, a5, a6, a7, a8, (⟨#[]⟩ : ByteArray), a10, a11, a12, a13, a14, l) := rfl
theorem run_b (a0 a1 a2 a3 a4 a5 : Int) (a6 : Bool) (a7 a8 : Int) (a9 : ByteArray) (a10 a11 a12 a13 : Int) (a14 : ByteArray) (l : List S40) (bs : List UInt8) : runF (98 :: bs) (a0, a1, a2, a3, a4, a5, a6, a7, a8, a9, a10, a11, a12, a13, a14, l) = if inr 1 16 (a9.size : Int) = true then runF bs (a0, a1, a2, a3, a4, a5, a6, a7, a8, (⟨#[]⟩ : ByteArray), a10, a11, a12, a13, a14, l) else none := by rw [runF, kB_b, kX_b]
theorem kB_d (a0 a1 a2 a3 a4 a5 : Int) (a6 : Bool) (a7 a8 : Int) (a9 : ByteArray) (a10 a11 a12 a13 : Int) (a14 : ByteArray) (l : List S40) : tkB ((100 : UInt8).toNat : Int) (a0, a1, a2, a3, a4, a5, a6, a7, a8, a9, a10, a11, a12, a13, a14, l) = cOk a10 a11 a12 a13 a14 := rfl
theorem kX_d (a0 a1 a2 a3 a4 a5 : Int) (a6 : Bool) (a7 a8 : Int) (a9 : ByteArray) (a10 a11 a12 a13 : Int) (a14 : ByteArray) (l : List S40) : tkX ((100 : UInt8).toNat : Int) (a0, a1, a2, a3, a4, a5, a6, a7, a8, a9, a10, a11, a12, a13, a14, l) = (a0, a1, a2, a3, a4, a5, a6, a7, a8, a9, 0, 0, 0, 0, (⟨#[]⟩ : ByteArray), l) := rfl
theorem run_d (a0 a1 a2 a3 a4 a5 : Int) (a6 : Bool) (a7 a8 : Int) (a9 : ByteArray) (a10 a11 a12 a13 : Int) (a14 : ByteArray) (l : List S40) (bs : List UInt8) : runF (100 :: bs) (a0, a1, a2, a3, a4, a5, a6, a7, a8, a9, a10, a11, a12, a13, a14, l) = if cOk a10 a11 a12 a13 a14 = true then runF bs (a0, a1, a2, a3, a4, a5, a6, a7, a8, a9, 0, 0, 0, 0, (⟨#[]⟩ : ByteArray), l) else none := by rw [runF, kB_d, kX_d]
theorem kB_e (a0 a1 a2 a3 a4 a5 : Int) (a6 : Bool) (a7 a8 : Int) (a9 : ByteArray) (a10 a11 a12 a13 : Int) (a14 : ByteArray) (l : List S40) : tkB ((101 : UInt8).toNat : Int) (a0, a1, a2, a3, a4, a5, a6, a7, a8, a9, a10, a11, a12, a13, a14, l) = (decide ((l.length : Int) ≤ 6) && l.all entT) := rfl
theorem kX_e (a0 a1 a2 a3 a4 a5 : Int) (a6 : Bool) (a7 a8 : Int) (a9 : ByteArray) (a10 a11 a12 a13 : Int) (a14 : ByteArray) (l : List S40) : tkX ((101 : UInt8).toNat : Int) (a0, a1, a2, a3, a4, a5, a6, a7, a8, a9, a10, a11, a12, a13, a14, l) = (a0, a1, a2, a3, a4, a5, a6, a7, a8, a9, a10, a11, a12, a13, a14, []) := rfl
theorem run_e (a0 a1 a2 a3 a4 a5 : Int) (a6 : Bool) (a7 a8 : Int) (a9 : ByteArray) (a10 a11 a12 a13 : Int) (a14 : ByteArray) (l : List S40) (bs : List UInt8) : runF (101 :: bs) (a0, a1, a2, a3, a4, a5, a6, a7, a8, a9, a10, a11, a12, a13, a14, l) = if (decide ((l.length : Int) ≤ 6) && l.all entT) = true then runF bs (a0, a1, a2, a3, a4, a5, a6, a7, a8, a9, a10, a11, a12, a13, a14, []) else none := by rw [runF, kB_e, kX_e]
theorem run_0 (x : X32) : runF [] x = some x := rfl
theorem fits_1 (a1 a2 a3 a4 a5 : Int) (a6 : Bool) (a7 a8 : Int) (a9 : ByteArray) (a10 a11 a12 a13 : Int) (a14 : ByteArray) (l : List S40) : fitsI (1, a1, a2, a3, a4, a5, a6, a7, a8, a9, a10, a11, a12, a13, a14, l) = fitsS 1 a1 a2 a3 a4 a5 a6 a7 a8 a9 a10 a11 a12 a13 a14 l := by
  unfold fitsI fitsS
  rw [show inB (hasS 1) 102 = true from by decide, show inB (hasS 1) 116 = true from by decide, show inB (hasS 1) 97 = true from by decide, show inB (hasS 1) 115 = true from by decide, show inB (hasS 1) 99 = false from by decide, show inB (hasS 1) 114 = false from by decide, show inB (hasS 1) 112 = false from by decide, show inB (hasS 1) 121 = false from by decide, show inB (hasS 1) 98 = false from by decide, show inB (hasS 1) 101 = false from by decide, show inB (hasS 1) 100 = false from by decide, show (hasS 1).toList.isEmpty = false from by rw [bal]; rfl, show (fldS 1).toList.isEmpty = false from by rw [bal]; rfl]
  dsimp only
  rw [show (fldS 1).data.toList = [102, 116, 97, 120] from rfl]
  simp only [run_f, run_t, run_a, run_x, run_0, numT, numF, if_true, Bool.false_eq_true, if_false, czE, Bool.not_false, Bool.true_and, Bool.or_true, Bool.or_false]
  cases inr 0 4 a1
  · simp only [Bool.false_eq_true, if_false, Bool.false_and, Bool.and_false]
  simp only [if_true, Bool.true_and]
  cases inr 0 1000000000 a2
  · simp only [Bool.false_eq_true, if_false, Bool.false_and, Bool.and_false]
  simp only [if_true, Bool.true_and]
  cases inr 0 80 a3
  · simp only [Bool.false_eq_true, if_false, Bool.false_and, Bool.and_false]
  simp only [if_true, Bool.true_and]
  cases inr 0 1000000000 a4
  · simp only [Bool.false_eq_true, if_false, Bool.false_and, Bool.and_false]
  simp only [if_true, Bool.true_and]
  rw [smz]
  unfold restB
  rw [← endF l]
  simp only [z0, cz0, zs0, Bool.not_false, Bool.true_and]
  ac_rfl
theorem fits_2 (a1 a2 a3 a4 a5 : Int) (a6 : Bool) (a7 a8 : Int) (a9 : ByteArray) (a10 a11 a12 a13 : Int) (a14 : ByteArray) (l : List S40) : fitsI (2, a1, a2, a3, a4, a5, a6, a7, a8, a9, a10, a11, a12, a13, a14, l) = fitsS 2 a1 a2 a3 a4 a5 a6 a7 a8 a9 a10 a11 a12 a13 a14 l := by
  unfold fitsI fitsS
  rw [show inB (hasS 2) 102 = true from by decide, show inB (hasS 2) 116 = true from by decide, show inB (hasS 2) 97 = false from by decide, show inB (hasS 2) 115 = false from by decide, show inB (hasS 2) 99 = false from by decide, show inB (hasS 2) 114 = false from by decide, show inB (hasS 2) 112 = false from by decide, show inB (hasS 2) 121 = true from by decide, show inB (hasS 2) 98 = false from by decide, show inB (hasS 2) 101 = false from by decide, show inB (hasS 2) 100 = false from by decide, show (hasS 2).toList.isEmpty = false from by rw [bal]; rfl, show (fldS 2).toList.isEmpty = false from by rw [bal]; rfl]
  dsimp only
  rw [show (fldS 2).data.toList = [102, 116, 121] from rfl]
  simp only [run_f, run_t, run_y, run_0, numT, numF, if_true, Bool.false_eq_true, if_false, czE, Bool.not_false, Bool.true_and, Bool.or_true, Bool.or_false]
  cases inr 0 4 a1
  · simp only [Bool.false_eq_true, if_false, Bool.false_and, Bool.and_false]
  simp only [if_true, Bool.true_and]
  cases inr 0 1000000000 a2
  · simp only [Bool.false_eq_true, if_false, Bool.false_and, Bool.and_false]
  simp only [if_true, Bool.true_and]
  rw [smz]
  unfold restB
  rw [← endF l]
  simp only [z0, cz0, zs0, Bool.not_false, Bool.true_and]
  ac_rfl
theorem fits_3 (a1 a2 a3 a4 a5 : Int) (a6 : Bool) (a7 a8 : Int) (a9 : ByteArray) (a10 a11 a12 a13 : Int) (a14 : ByteArray) (l : List S40) : fitsI (3, a1, a2, a3, a4, a5, a6, a7, a8, a9, a10, a11, a12, a13, a14, l) = fitsS 3 a1 a2 a3 a4 a5 a6 a7 a8 a9 a10 a11 a12 a13 a14 l := by
  unfold fitsI fitsS
  rw [show inB (hasS 3) 102 = true from by decide, show inB (hasS 3) 116 = true from by decide, show inB (hasS 3) 97 = true from by decide, show inB (hasS 3) 115 = true from by decide, show inB (hasS 3) 99 = true from by decide, show inB (hasS 3) 114 = false from by decide, show inB (hasS 3) 112 = false from by decide, show inB (hasS 3) 121 = false from by decide, show inB (hasS 3) 98 = false from by decide, show inB (hasS 3) 101 = true from by decide, show inB (hasS 3) 100 = false from by decide, show (hasS 3).toList.isEmpty = false from by rw [bal]; rfl, show (fldS 3).toList.isEmpty = false from by rw [bal]; rfl]
  dsimp only
  rw [show (fldS 3).data.toList = [102, 116, 97, 120, 99, 101] from rfl]
  simp only [run_f, run_t, run_a, run_x, run_c, run_e, run_0, numT, numF, if_true, Bool.false_eq_true, if_false, czE, Bool.not_false, Bool.true_and, Bool.or_true, Bool.or_false]
  cases inr 0 4 a1
  · simp only [Bool.false_eq_true, if_false, Bool.false_and, Bool.and_false]
  simp only [if_true, Bool.true_and]
  cases inr 0 1000000000 a2
  · simp only [Bool.false_eq_true, if_false, Bool.false_and, Bool.and_false]
  simp only [if_true, Bool.true_and]
  cases inr 0 80 a3
  · simp only [Bool.false_eq_true, if_false, Bool.false_and, Bool.and_false]
  simp only [if_true, Bool.true_and]
  cases inr 0 1000000000 a4
  · simp only [Bool.false_eq_true, if_false, Bool.false_and, Bool.and_false]
  simp only [if_true, Bool.true_and]
  cases inr 0 80 a5
  · simp only [Bool.false_eq_true, if_false, Bool.false_and, Bool.and_false]
  simp only [if_true, Bool.true_and]
  rw [show numB (true || (l.length : Int) == 0) (l.length : Int) 0 6 = decide ((l.length : Int) ≤ 6) from by simp [numB]]
  cases decide ((l.length : Int) ≤ 6)
  · simp only [Bool.false_eq_true, if_false, Bool.false_and, Bool.and_false]
  cases l.all entT
  · simp only [Bool.false_eq_true, if_false, Bool.false_and, Bool.and_false]
  simp only [if_true, Bool.true_and]
  rw [smz]
  unfold restB
  simp only [z0, cz0, zs0, Bool.not_false, Bool.true_and, Bool.and_true, List.isEmpty_nil]
  ac_rfl
theorem fits_4 (a1 a2 a3 a4 a5 : Int) (a6 : Bool) (a7 a8 : Int) (a9 : ByteArray) (a10 a11 a12 a13 : Int) (a14 : ByteArray) (l : List S40) : fitsI (4, a1, a2, a3, a4, a5, a6, a7, a8, a9, a10, a11, a12, a13, a14, l) = fitsS 4 a1 a2 a3 a4 a5 a6 a7 a8 a9 a10 a11 a12 a13 a14 l := by
  unfold fitsI fitsS
  rw [show inB (hasS 4) 102 = true from by decide, show inB (hasS 4) 116 = true from by decide, show inB (hasS 4) 97 = true from by decide, show inB (hasS 4) 115 = false from by decide, show inB (hasS 4) 99 = false from by decide, show inB (hasS 4) 114 = false from by decide, show inB (hasS 4) 112 = false from by decide, show inB (hasS 4) 121 = true from by decide, show inB (hasS 4) 98 = false from by decide, show inB (hasS 4) 101 = false from by decide, show inB (hasS 4) 100 = false from by decide, show (hasS 4).toList.isEmpty = false from by rw [bal]; rfl, show (fldS 4).toList.isEmpty = false from by rw [bal]; rfl]
  dsimp only
  rw [show (fldS 4).data.toList = [102, 116, 121, 97] from rfl]
  simp only [run_f, run_t, run_y, run_a, run_0, numT, numF, if_true, Bool.false_eq_true, if_false, czE, Bool.not_false, Bool.true_and, Bool.or_true, Bool.or_false]
  cases inr 0 4 a1
  · simp only [Bool.false_eq_true, if_false, Bool.false_and, Bool.and_false]
  simp only [if_true, Bool.true_and]
  cases inr 0 1000000000 a2
  · simp only [Bool.false_eq_true, if_false, Bool.false_and, Bool.and_false]
  simp only [if_true, Bool.true_and]
  cases inr 0 80 a3
  · simp only [Bool.false_eq_true, if_false, Bool.false_and, Bool.and_false]
  simp only [if_true, Bool.true_and]
  rw [smz]
  unfold restB
  rw [← endF l]
  simp only [z0, cz0, zs0, Bool.not_false, Bool.true_and]
  ac_rfl
theorem fits_5 (a1 a2 a3 a4 a5 : Int) (a6 : Bool) (a7 a8 : Int) (a9 : ByteArray) (a10 a11 a12 a13 : Int) (a14 : ByteArray) (l : List S40) : fitsI (5, a1, a2, a3, a4, a5, a6, a7, a8, a9, a10, a11, a12, a13, a14, l) = fitsS 5 a1 a2 a3 a4 a5 a6 a7 a8 a9 a10 a11 a12 a13 a14 l := by
  unfold fitsI fitsS
  rw [show inB (hasS 5) 102 = true from by decide, show inB (hasS 5) 116 = false from by decide, show inB (hasS 5) 97 = false from by decide, show inB (hasS 5) 115 = false from by decide, show inB (hasS 5) 99 = false from by decide, show inB (hasS 5) 114 = true from by decide, show inB (hasS 5) 112 = true from by decide, show inB (hasS 5) 121 = false from by decide, show inB (hasS 5) 98 = false from by decide, show inB (hasS 5) 101 = false from by decide, show inB (hasS 5) 100 = false from by decide, show (hasS 5).toList.isEmpty = false from by rw [bal]; rfl, show (fldS 5).toList.isEmpty = false from by rw [bal]; rfl]
  dsimp only
  rw [show (fldS 5).data.toList = [102, 114, 112] from rfl]
  simp only [run_f, run_r, run_p, run_0, numT, numF, if_true, Bool.false_eq_true, if_false, czE, Bool.not_false, Bool.true_and, Bool.or_true, Bool.or_false]
  cases inr 0 4 a1
  · simp only [Bool.false_eq_true, if_false, Bool.false_and, Bool.and_false]
  simp only [if_true, Bool.true_and]
  cases inr 1 1000 a7
  · simp only [Bool.false_eq_true, if_false, Bool.false_and, Bool.and_false]
  simp only [if_true, Bool.true_and]
  cases inr 0 1000 a8
  · simp only [Bool.false_eq_true, if_false, Bool.false_and, Bool.and_false]
  simp only [if_true, Bool.true_and]
  rw [smz]
  unfold restB
  rw [← endF l]
  simp only [z0, cz0, zs0, Bool.not_false, Bool.true_and]
  ac_rfl
theorem fits_6 (a1 a2 a3 a4 a5 : Int) (a6 : Bool) (a7 a8 : Int) (a9 : ByteArray) (a10 a11 a12 a13 : Int) (a14 : ByteArray) (l : List S40) : fitsI (6, a1, a2, a3, a4, a5, a6, a7, a8, a9, a10, a11, a12, a13, a14, l) = fitsS 6 a1 a2 a3 a4 a5 a6 a7 a8 a9 a10 a11 a12 a13 a14 l := by
  unfold fitsI fitsS
  rw [show inB (hasS 6) 102 = true from by decide, show inB (hasS 6) 116 = false from by decide, show inB (hasS 6) 97 = false from by decide, show inB (hasS 6) 115 = false from by decide, show inB (hasS 6) 99 = false from by decide, show inB (hasS 6) 114 = true from by decide, show inB (hasS 6) 112 = true from by decide, show inB (hasS 6) 121 = false from by decide, show inB (hasS 6) 98 = true from by decide, show inB (hasS 6) 101 = false from by decide, show inB (hasS 6) 100 = false from by decide, show (hasS 6).toList.isEmpty = false from by rw [bal]; rfl, show (fldS 6).toList.isEmpty = false from by rw [bal]; rfl]
  dsimp only
  rw [show (fldS 6).data.toList = [102, 114, 112, 98] from rfl]
  simp only [run_f, run_r, run_p, run_b, run_0, numT, numF, if_true, Bool.false_eq_true, if_false, czE, Bool.not_false, Bool.true_and, Bool.or_true, Bool.or_false]
  cases inr 0 4 a1
  · simp only [Bool.false_eq_true, if_false, Bool.false_and, Bool.and_false]
  simp only [if_true, Bool.true_and]
  cases inr 1 1000 a7
  · simp only [Bool.false_eq_true, if_false, Bool.false_and, Bool.and_false]
  simp only [if_true, Bool.true_and]
  cases inr 0 1000 a8
  · simp only [Bool.false_eq_true, if_false, Bool.false_and, Bool.and_false]
  simp only [if_true, Bool.true_and]
  cases inr 1 16 (a9.size : Int)
  · simp only [Bool.false_eq_true, if_false, Bool.false_and, Bool.and_false]
  simp only [if_true, Bool.true_and]
  rw [smz]
  unfold restB
  rw [← endF l]
  simp only [z0, cz0, zs0, Bool.not_false, Bool.true_and]
  ac_rfl
theorem fits_7 (a1 a2 a3 a4 a5 : Int) (a6 : Bool) (a7 a8 : Int) (a9 : ByteArray) (a10 a11 a12 a13 : Int) (a14 : ByteArray) (l : List S40) : fitsI (7, a1, a2, a3, a4, a5, a6, a7, a8, a9, a10, a11, a12, a13, a14, l) = fitsS 7 a1 a2 a3 a4 a5 a6 a7 a8 a9 a10 a11 a12 a13 a14 l := by
  unfold fitsI fitsS
  rw [show inB (hasS 7) 102 = true from by decide, show inB (hasS 7) 116 = false from by decide, show inB (hasS 7) 97 = false from by decide, show inB (hasS 7) 115 = false from by decide, show inB (hasS 7) 99 = false from by decide, show inB (hasS 7) 114 = false from by decide, show inB (hasS 7) 112 = false from by decide, show inB (hasS 7) 121 = false from by decide, show inB (hasS 7) 98 = false from by decide, show inB (hasS 7) 101 = false from by decide, show inB (hasS 7) 100 = true from by decide, show (hasS 7).toList.isEmpty = false from by rw [bal]; rfl, show (fldS 7).toList.isEmpty = false from by rw [bal]; rfl]
  dsimp only
  rw [show (fldS 7).data.toList = [102, 100] from rfl]
  simp only [run_f, run_d, run_0, numT, numF, if_true, Bool.false_eq_true, if_false, czE, Bool.not_false, Bool.true_and, Bool.or_true, Bool.or_false]
  cases inr 0 4 a1
  · simp only [Bool.false_eq_true, if_false, Bool.false_and, Bool.and_false]
  simp only [if_true, Bool.true_and]
  cases cOk a10 a11 a12 a13 a14
  · simp only [Bool.false_eq_true, if_false, Bool.false_and, Bool.and_false]
  simp only [if_true, Bool.true_and]
  rw [smz]
  unfold restB
  rw [← endF l]
  simp only [z0, cz0, zs0, Bool.not_false, Bool.true_and]
  ac_rfl
theorem fits_all (k : Int) (a1 a2 a3 a4 a5 : Int) (a6 : Bool) (a7 a8 : Int) (a9 : ByteArray) (a10 a11 a12 a13 : Int) (a14 : ByteArray) (l : List S40) : fitsI (k, a1, a2, a3, a4, a5, a6, a7, a8, a9, a10, a11, a12, a13, a14, l) = fitsS k a1 a2 a3 a4 a5 a6 a7 a8 a9 a10 a11 a12 a13 a14 l := by
  by_cases h1 : k = 1
  · subst h1; exact fits_1 a1 a2 a3 a4 a5 a6 a7 a8 a9 a10 a11 a12 a13 a14 l
  by_cases h2 : k = 2
  · subst h2; exact fits_2 a1 a2 a3 a4 a5 a6 a7 a8 a9 a10 a11 a12 a13 a14 l
  by_cases h3 : k = 3
  · subst h3; exact fits_3 a1 a2 a3 a4 a5 a6 a7 a8 a9 a10 a11 a12 a13 a14 l
  by_cases h4 : k = 4
  · subst h4; exact fits_4 a1 a2 a3 a4 a5 a6 a7 a8 a9 a10 a11 a12 a13 a14 l
  by_cases h5 : k = 5
  · subst h5; exact fits_5 a1 a2 a3 a4 a5 a6 a7 a8 a9 a10 a11 a12 a13 a14 l
  by_cases h6 : k = 6
  · subst h6; exact fits_6 a1 a2 a3 a4 a5 a6 a7 a8 a9 a10 a11 a12 a13 a14 l
  by_cases h7 : k = 7
  · subst h7; exact fits_7 a1 a2 a3 a4 a5 a6 a7 a8 a9 a10 a11 a12 a13 a14 l
  have e1 : hasS k = ⟨#[]⟩ := by unfold hasS; rw [if_neg h1, if_neg h2, if_neg h3, if_neg h4, if_neg h5, if_neg h6, if_neg h7]
  have e2 : fldS k = ⟨#[]⟩ := by unfold fldS; rw [if_neg h1, if_neg h2, if_neg h3, if_neg h4, if_neg h5, if_neg h6, if_neg h7]
  unfold fitsI fitsS
  dsimp only
  rw [e1, e2, nil_list]
  rfl

theorem FnExactMsgFits : ∀ (a0_0 : Int) (a0_1 : Int) (a0_2 : Int) (a0_3 : Int) (a0_4 : Int) (a0_5 : Int) (a0_6 : Bool) (a0_7 : Int) (a0_8 : Int) (a0_9 : ByteArray) (a0_10 : Int) (a0_11 : Int) (a0_12 : Int) (a0_13 : Int) (a0_14 : ByteArray) (l0_15 : (List S53)), (Lit.int .i64 a0_0).wf = true → (Lit.int .i64 a0_1).wf = true → (Lit.int .i64 a0_2).wf = true → (Lit.int .i64 a0_3).wf = true → (Lit.int .i64 a0_4).wf = true → (Lit.int .i64 a0_5).wf = true → (Lit.int .i64 a0_7).wf = true → (Lit.int .i64 a0_8).wf = true → a0_9.size ≤ 9223372036854775807 → (Lit.int .i64 a0_10).wf = true → (Lit.int .i64 a0_11).wf = true → (Lit.int .i64 a0_12).wf = true → (Lit.int .i64 a0_13).wf = true → a0_14.size ≤ 9223372036854775807 → (l0_15.length ≤ 9223372036854775807 ∧ ∀ x ∈ l0_15, ((Lit.int .i64 x.f0).wf = true ∧ ((Lit.int .i64 x.f1.f0).wf = true ∧ (Lit.int .i64 x.f1.f1).wf = true ∧ (Lit.int .i64 x.f1.f2).wf = true ∧ (Lit.int .i64 x.f1.f3).wf = true ∧ x.f1.f4.size ≤ 9223372036854775807))) → ∃ k, laws_FnExactMsgFits.f k a0_0 a0_1 a0_2 a0_3 a0_4 a0_5 a0_6 a0_7 a0_8 a0_9 a0_10 a0_11 a0_12 a0_13 a0_14 l0_15 = some true := by
  intro a0 a1 a2 a3 a4 a5 a6 a7 a8 a9 b0 b1 b2 b3 b4 l _ _ _ _ _ _ _ _ h9 _ _ _ _ hb hl
  refine Ev.rounds ?_
  unfold laws_FnExactMsgFits.f lawF
  obtain ⟨r, er, hr1, hr2⟩ := sz_msg a0 a1 a2 a3 a4 a5 a6 a7 a8 a9 b0 b1 b2 b3 b4 l 1048576 h9 hb hl.1 (fun x hx => (hl.2 x hx).2.2.2.2.2) (by omega) (by omega)
  refine Ev.bind er ?_
  by_cases h : r < 0
  · simp only [if_pos h]; exact Ev.now _
  · simp only [if_neg h]
    have L := hr1 (by omega)
    have L' : (l.map cvE).length ≤ 1048576 := by rw [List.length_map]; exact L
    have tl := to_msg a0 a1 a2 a3 a4 a5 a6 a7 a8 a9 b0 b1 b2 b3 b4 l L
    refine Ev.bind tl (Ev.bind tl ?_)
    simp only [if_pos L']
    have e : spB (a0, a1, a2, a3, a4, a5, a6, a7, a8, a9, b0, b1, b2, b3, b4, l.map cvE) = fitsI (a0, a1, a2, a3, a4, a5, a6, a7, a8, a9, b0, b1, b2, b3, b4, l.map cvE) := (fits_all a0 a1 a2 a3 a4 a5 a6 a7 a8 a9 b0 b1 b2 b3 b4 (l.map cvE)).symm
    simp only [e, bne_self_eq_false, Bool.false_eq_true, if_false]
    refine Ev.bind tl (Ev.bind (eq_msg _ _ _ _ _ _ _ _ _ _ _ _ _ _ _ _ L') ?_)
    simp only [if_true]
    exact Ev.now _

end Go.Proofs.Ytngilepbpfdigaa.Pure
