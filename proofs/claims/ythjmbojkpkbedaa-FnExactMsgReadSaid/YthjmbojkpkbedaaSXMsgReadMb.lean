/- Messages as bytes: what the two sides pack. -/
import Derived.Test.YthjmbojkpkbedaaSXMsgReadMa
set_option linter.unusedVariables false
set_option linter.unusedSimpArgs false
namespace Go.Sy
def sumGo : List UInt8 → Int → Int → Int × Int
  | [], x, y => (x, y)
  | c :: l, x, y => sumGo l ((x + (c.toNat : Int)) % 65521) ((y + (x + (c.toNat : Int)) % 65521) % 65521)
def sumB (b : List UInt8) : Int := 65536 * (sumGo b 1 0).2 + (sumGo b 1 0).1
def sum4 (n : Int) : List UInt8 := [u8Of n, u8Of (n / 256), u8Of (n / 65536), u8Of (n / 16777216)]
theorem sumGo_in : ∀ (b : List UInt8) {x y : Int}, 0 ≤ x ∧ x < 65521 → 0 ≤ y ∧ y < 65521 → (0 ≤ (sumGo b x y).1 ∧ (sumGo b x y).1 < 65521) ∧ 0 ≤ (sumGo b x y).2 ∧ (sumGo b x y).2 < 65521
  | [], x, y, hx, hy => ⟨hx, hy⟩
  | c :: l, x, y, hx, hy => by rw [sumGo]; exact sumGo_in l (by omega) (by omega)
theorem sumB_in (b : List UInt8) : 0 ≤ sumB b ∧ sumB b ≤ 4294967295 := by
  have := sumGo_in b (x := 1) (y := 0) (by omega) (by omega)
  unfold sumB
  omega
theorem sum_step {b : List UInt8} {k : Nat} {x y : Int} {c : UInt8} (h : sumGo b 1 0 = sumGo (b.drop k) x y) (hc : b[k]? = some c) : sumGo b 1 0 = sumGo (b.drop (k + 1)) ((x + (c.toNat : Int)) % 65521) ((y + (x + (c.toNat : Int)) % 65521) % 65521) := by
  rw [h, dropCons hc, sumGo]
theorem sum_end {b : List UInt8} {k : Nat} {x y : Int} (h : sumGo b 1 0 = sumGo (b.drop k) x y) (hk : b.length ≤ k) : 65536 * y + x = sumB b := by
  rw [List.drop_of_length_le hk] at h
  unfold sumB
  rw [h, sumGo]
theorem u8Of_mod (x : Int) : u8Of (x % 256) = u8Of x := by unfold u8Of; rw [Int.emod_emod_of_dvd x (by omega)]
theorem shr_8 (n : Int) : shV .shr .i64 n 8 = n / 256 := shr_div (n := 8) rfl (by omega)
theorem shr_16 (n : Int) : shV .shr .i64 n 16 = n / 65536 := shr_div (n := 16) rfl (by omega)
theorem shr_24 (n : Int) : shV .shr .i64 n 24 = n / 16777216 := shr_div (n := 24) rfl (by omega)
theorem sum4_impl (n : Int) : [u8Of (n % 256), u8Of (shV .shr .i64 n 8 % 256), u8Of (shV .shr .i64 n 16 % 256), u8Of (shV .shr .i64 n 24 % 256)] = sum4 n := by
  rw [shr_8, shr_16, shr_24, u8Of_mod, u8Of_mod, u8Of_mod, u8Of_mod]
  rfl
theorem noBytes2 {b : ByteArray} : (b.toList = []) = (b.size = 0) := by
  rw [ByteArray.toList_eq]
  have e : b.size = b.data.toList.length := Array.length_toList.symm
  rw [e, List.length_eq_zero_iff]
theorem cmdOk_in {c : Cmd} (h : cmdOk c = true) : (1 ≤ c.kind ∧ c.kind ≤ 5) ∧ (0 ≤ c.release ∧ c.release ≤ 1000) ∧ (0 ≤ c.node ∧ c.node ≤ 4) ∧ (0 ≤ c.size ∧ c.size ≤ 1000) ∧ c.digest.size ≤ 32 := by
  have e : ((⟨#[]⟩ : ByteArray)).size = 0 := rfl
  unfold cmdOk at h
  repeat' split at h
  all_goals
    simp only [noBytes2, Bool.and_eq_true, Bool.or_eq_true, beq_iff_eq, inR_iff] at h
    omega
theorem fieldsL_six (k : Int) : (fieldsL k).size ≤ 6 := by
  unfold fieldsL
  repeat' split
  all_goals decide
def markU (a : UInt8) (k : Int) : UInt8 := u8Of k
def nxU (a : UInt8) (k : Int) : Int := k + 1
def eqU (a b : UInt8) : Bool := (a.toNat : Int) == (b.toNat : Int)
theorem nxU_ge (e : UInt8) (k : Int) : k ≤ nxU e k := by unfold nxU; omega
theorem endsU_eq : ∀ (l : List UInt8) (k : Int), ends nxU l k = k + l.length
  | [], k => by simp [ends]
  | e :: l, k => by simp only [ends, List.length_cons, endsU_eq l]; unfold nxU; omega
theorem listEqU_refl : ∀ l : List UInt8, listEq eqU l l = true
  | [] => rfl
  | a :: l => by simp [listEq, eqU, listEqU_refl l]
end Go.Sy

