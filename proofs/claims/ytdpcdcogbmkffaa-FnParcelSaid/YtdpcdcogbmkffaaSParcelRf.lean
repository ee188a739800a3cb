/- Words for inputs that are drawn: bits, what a drawn number may be, rows that are frozen. -/
import Derived.Test.YtdpcdcogbmkffaaSParcelHo
import Derived.Test.YtdpcdcogbmkffaaSParcelRe
set_option linter.unusedVariables false
set_option linter.unusedSimpArgs false
namespace Go.Sy
def bitV (op : BinOp) (k : IntKind) (a b : Int) : Int := (bitI op k a b).getD 0
def shV (op : BinOp) (k : IntKind) (a b : Int) : Int := (shI op k a b).getD 0
theorem bitS_and (k : IntKind) (a b : Int) : bitI .and k a b = some (bitV .and k a b) := rfl
theorem bitS_or (k : IntKind) (a b : Int) : bitI .or k a b = some (bitV .or k a b) := rfl
theorem bitS_xor (k : IntKind) (a b : Int) : bitI .xor k a b = some (bitV .xor k a b) := rfl
theorem shS_shl (k : IntKind) (a b : Int) : shI .shl k a b = some (shV .shl k a b) := rfl
theorem shS_shr (k : IntKind) (a b : Int) : shI .shr k a b = some (shV .shr k a b) := rfl
theorem andM (n : Nat) (q a m : Int) (hn : n ≤ 62) (hm : m = 2 ^ n - 1) (hq : q = 2 ^ n) : bitI .and .i64 a m = some (a % q) := by
  subst hm
  subst hq
  have hp : (2 : Nat) ^ n ≤ 2 ^ 62 := Nat.pow_le_pow_right (by decide) hn
  have hp0 : 0 < (2 : Nat) ^ n := Nat.pow_pos (by decide)
  have e0 : ((2 : Int) ^ n - 1) = ((2 ^ n - 1 : Nat) : Int) := by
    rw [Int.ofNat_sub hp0]; simp
  have e1 : (BitVec.ofInt 64 ((2 : Int) ^ n - 1)).toNat = 2 ^ n - 1 := by
    rw [e0, BitVec.ofInt_natCast, BitVec.toNat_ofNat, Nat.mod_eq_of_lt]
    omega
  have e : ((BitVec.ofInt 64 a &&& BitVec.ofInt 64 ((2 : Int) ^ n - 1)).toNat : Int) = a % 2 ^ n := by
    rw [BitVec.toNat_and, e1, Nat.and_two_pow_sub_one_eq_mod, BitVec.toNat_ofInt]
    have h1 : (0 : Int) ≤ a % (2 ^ 64 : Nat) := Int.emod_nonneg _ (by decide)
    rw [Int.natCast_emod, Int.toNat_of_nonneg h1]
    have : ((2 ^ 64 : Nat) : Int) = ((2 ^ n : Nat) : Int) * ((2 ^ (64 - n) : Nat) : Int) := by
      rw [← Int.natCast_mul, ← Nat.pow_add, show n + (64 - n) = 64 by omega]
    rw [Int.emod_emod_of_dvd _ ⟨_, this⟩]
    simp
  have e2 : bitI .and .i64 a ((2 : Int) ^ n - 1) = some (IntKind.i64.wrap ((BitVec.ofInt 64 a &&& BitVec.ofInt 64 ((2 : Int) ^ n - 1)).toNat : Int)) := rfl
  rw [e2, e]
  have h3 : (0 : Int) ≤ a % 2 ^ n := Int.emod_nonneg _ (by omega)
  have h4 : a % 2 ^ n < 2 ^ n := Int.emod_lt_of_pos _ (by omega)
  have h5 : ((2 : Int) ^ n) ≤ 2 ^ 62 := by
    have := Int.ofNat_le.2 hp
    simpa using this
  congr 1
  generalize a % 2 ^ n = z at h3 h4
  generalize (2 : Int) ^ n = w at h4 h5
  simp [IntKind.wrap, IntKind.bits, IntKind.signed]
  omega
theorem flatU8 {l : List UInt8} : ∀ x ∈ l.map encU8, (cl x).all gS = true := fun x hx => by
  obtain ⟨y, _, rfl⟩ := List.mem_map.1 hx
  rfl
end Go.Sy

