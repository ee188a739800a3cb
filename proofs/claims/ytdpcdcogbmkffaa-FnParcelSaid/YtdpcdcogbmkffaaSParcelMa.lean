/- Numbers as bytes, sums, seals: what the two sides compute. -/
import Derived.Test.YtdpcdcogbmkffaaSParcelAp
set_option linter.unusedVariables false
set_option linter.unusedSimpArgs false
namespace Go.Sy
theorem i64_id {x : Int} (h0 : 0 ≤ x) (h1 : x ≤ 9223372036854775807) : IntKind.i64.wrap x = x := by
  rw [IntKind.wrap_i64]; omega
theorem bv_nat {x : Int} (h0 : 0 ≤ x) (h1 : x ≤ 9223372036854775807) : (BitVec.ofInt 64 x).toNat = x.toNat := by
  rw [BitVec.toNat_ofInt]; omega
theorem or_add {x d : Int} {n : Nat} (h0 : 0 ≤ x) (h1 : x < 2 ^ n) (hd : 0 ≤ d) (hs : x + d * 2 ^ n ≤ 9223372036854775807) : bitV .or .i64 x (d * 2 ^ n) = x + d * 2 ^ n := by
  have hp : (0 : Int) < 2 ^ n := Int.pow_pos (by decide)
  have hm : 0 ≤ d * 2 ^ n := Int.mul_nonneg hd (by omega)
  have e1 := bv_nat h0 (by omega)
  have e2 := bv_nat hm (by omega)
  have e3 : bitV .or .i64 x (d * 2 ^ n) = IntKind.i64.wrap (((BitVec.ofInt 64 x ||| BitVec.ofInt 64 (d * 2 ^ n)).toNat : Nat) : Int) := rfl
  rw [e3, BitVec.toNat_or, e1, e2]
  have e4 : (d * 2 ^ n).toNat = 2 ^ n * d.toNat := by
    have : d * 2 ^ n = ((2 ^ n * d.toNat : Nat) : Int) := by
      rw [Int.natCast_mul, Int.toNat_of_nonneg hd]
      simp
      exact Int.mul_comm _ _
    rw [this]
    rfl
  have h5 : x.toNat < 2 ^ n := by
    have : ((2 ^ n : Nat) : Int) = 2 ^ n := by simp
    omega
  rw [Nat.or_comm, e4, ← Nat.two_pow_add_eq_or_of_lt h5, ← e4, i64_id (by omega) (by omega)]
  omega
theorem shl_mul {x b : Int} {n : Nat} (hb : b = n) (hn : n ≤ 63) (h0 : 0 ≤ x) (h1 : x * 2 ^ n ≤ 9223372036854775807) : shV .shl .i64 x b = x * 2 ^ n := by
  subst hb
  have hp : (0 : Int) < 2 ^ n := Int.pow_pos (by decide)
  have hm : 0 ≤ x * 2 ^ n := Int.mul_nonneg h0 (by omega)
  show IntKind.i64.wrap (x * 2 ^ min (n : Int).toNat 64) = _
  rw [show min (n : Int).toNat 64 = n by omega, i64_id hm h1]
def getGo : Nat → Nat → Int → List UInt8 → Option (Int × Nat)
  | 0, _, _, _ => none
  | _ + 1, _, _, [] => none
  | n + 1, k, x, d :: l => if d.toNat ≤ 127 then (if 0 < k ∧ d.toNat = 0 then none else some (x + (d.toNat : Int) % 128 * 128 ^ k, k + 1)) else getGo n (k + 1) (x + (d.toNat : Int) % 128 * 128 ^ k) l
def getO (b : List UInt8) (at_ : Int) : Option (Int × Nat) := if at_ < 0 then none else getGo 9 0 0 (b.drop at_.toNat)
def getN (b : List UInt8) (at_ : Int) : Int × Int × Bool :=
  match getO b at_ with
  | none => (0, 0, false)
  | some (x, n) => (x, at_ + n, true)
theorem pow128 (k : Nat) : (0 : Int) < 128 ^ k := Int.pow_pos (by decide)
def digV (d : UInt8) (k : Nat) : Int := (d.toNat : Int) % 128 * 128 ^ k
theorem pow128_le {k : Nat} (hk : k ≤ 8) : (128 : Int) ^ k ≤ 72057594037927936 := by
  have h4 : (128 : Int) ^ (8 - k) * 128 ^ k = 128 ^ 8 := by rw [← Int.pow_add]; congr 1; omega
  have h5 := Int.mul_le_mul_of_nonneg_right (show (1 : Int) ≤ 128 ^ (8 - k) by have := pow128 (8 - k); omega) (show (0 : Int) ≤ 128 ^ k by have := pow128 k; omega)
  omega
theorem digV_bd (d : UInt8) {k : Nat} {x : Int} (hk : k ≤ 8) (h0 : 0 ≤ x) (h1 : x < 128 ^ k) : 0 ≤ digV d k ∧ x + digV d k < 128 ^ (k + 1) ∧ x + digV d k ≤ 9223372036854775807 := by
  have hd : (0 : Int) ≤ (d.toNat : Int) % 128 ∧ (d.toNat : Int) % 128 ≤ 127 := by omega
  have hp := pow128 k
  have h2 : digV d k ≤ 127 * 128 ^ k := Int.mul_le_mul_of_nonneg_right hd.2 (by omega)
  have h3 : 0 ≤ digV d k := Int.mul_nonneg hd.1 (by omega)
  have h4 := pow128_le hk
  rw [Int.pow_succ]
  omega
structure GR (b : List UInt8) (at_ : Int) (k : Nat) (x : Int) : Prop where
  hk : k ≤ 9
  h0 : 0 ≤ x
  h1 : x < 128 ^ k
  e : getO b at_ = getGo (9 - k) k x (b.drop (at_.toNat + k))
theorem GR.bd {b : List UInt8} {at_ : Int} {k : Nat} {x : Int} (h : GR b at_ k x) (d : UInt8) (hk : k < 9) : 0 ≤ digV d k ∧ x + digV d k < 128 ^ (k + 1) ∧ x + digV d k ≤ 9223372036854775807 := digV_bd d (by omega) h.h0 h.h1
theorem GR.get {b : List UInt8} {at_ : Int} {k : Nat} {x : Int} (h : GR b at_ k x) {d : UInt8} (ha : 0 ≤ at_) (hk : k < 9) (hb : b[(at_ + (k : Int)).toNat]? = some d) : getO b at_ = if d.toNat ≤ 127 then (if 0 < k ∧ d.toNat = 0 then none else some (x + digV d k, k + 1)) else getGo (9 - (k + 1)) (k + 1) (x + digV d k) (b.drop (at_.toNat + (k + 1))) := by
  rw [h.e]
  have e1 : b.drop (at_.toNat + k) = d :: b.drop (at_.toNat + (k + 1)) := by
    rw [show (at_ + (k : Int)).toNat = at_.toNat + k by omega] at hb
    exact dropCons hb
  rw [e1, show 9 - k = (9 - (k + 1)) + 1 by omega]
  rfl
theorem GR.step {b : List UInt8} {at_ : Int} {k : Nat} {x : Int} (h : GR b at_ k x) {d : UInt8} (ha : 0 ≤ at_) (hk : k < 9) (hb : b[(at_ + (k : Int)).toNat]? = some d) (hd : 127 < d.toNat) : GR b at_ (k + 1) (x + digV d k) :=
  have hbd := h.bd d hk
  ⟨by omega, by have := h.h0; omega, hbd.2.1, by rw [h.get ha hk hb, if_neg (by omega)]⟩
theorem getN_none {b : List UInt8} {at_ : Int} (h : getO b at_ = none) : getN b at_ = (0, 0, false) := by unfold getN; rw [h]
theorem GR.over {b : List UInt8} {at_ : Int} {k : Nat} {x : Int} (h : GR b at_ k x) (ha : 0 ≤ at_) (hk : (b.length : Int) ≤ at_ + k) : getN b at_ = (0, 0, false) := by
  refine getN_none ?_
  rw [h.e, List.drop_of_length_le (by omega)]
  cases 9 - k <;> rfl
theorem GR.zero {b : List UInt8} {at_ : Int} {k : Nat} {x : Int} (h : GR b at_ k x) {d : UInt8} (ha : 0 ≤ at_) (hk : k < 9) (hb : b[(at_ + (k : Int)).toNat]? = some d) (h0 : 0 < k) (hd : d.toNat = 0) : getN b at_ = (0, 0, false) :=
  getN_none (by rw [h.get ha hk hb, if_pos (by omega), if_pos ⟨h0, hd⟩])
end Go.Sy

