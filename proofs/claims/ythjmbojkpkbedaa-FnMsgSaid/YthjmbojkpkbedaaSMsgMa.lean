/- Numbers as bytes, sums, seals: what the two sides compute. -/
import Derived.Test.YthjmbojkpkbedaaSMsgAp
set_option linter.unusedVariables false
set_option linter.unusedSimpArgs false
namespace Go.Sy
theorem i64_id {x : Int} (h0 : 0 ≤ x) (h1 : x ≤ 9223372036854775807) : IntKind.i64.wrap x = x := by
  rw [IntKind.wrap_i64]; omega
theorem bv_nat {x : Int} (h0 : 0 ≤ x) (h1 : x ≤ 9223372036854775807) : (BitVec.ofInt 64 x).toNat = x.toNat := by
  rw [BitVec.toNat_ofInt]; omega
theorem or_add {x d : Int} {n : Nat} (h0 : 0 ≤ x) (h1 : x < 2 ^ n) (hd : 0 ≤ d) (hs : x + d * 2 ^ n ≤ 9223372036854775807) : bitV .or .i64 x (d * 2 ^ n) = x + d * 2 ^ n := by
  have hp : (0 : Int) < 2 ^ n := Int.pow_pos (by decide)
  have hm : 0 ≤ d * 2 ^ n := Int.mul_nonneg hd (by omega)
  have e1 := bv_nat h0 (by omega)
  have e2 := bv_nat hm (by omega)
  have e3 : bitV .or .i64 x (d * 2 ^ n) = IntKind.i64.wrap (((BitVec.ofInt 64 x ||| BitVec.ofInt 64 (d * 2 ^ n)).toNat : Nat) : Int) := rfl
  rw [e3, BitVec.toNat_or, e1, e2]
  have e4 : (d * 2 ^ n).toNat = 2 ^ n * d.toNat := by
    have : d * 2 ^ n = ((2 ^ n * d.toNat : Nat) : Int) := by
      rw [Int.natCast_mul, Int.toNat_of_nonneg hd]
      simp
      exact Int.mul_comm _ _
    rw [this]
    rfl
  have h5 : x.toNat < 2 ^ n := by
    have : ((2 ^ n : Nat) : Int) = 2 ^ n := by simp
    omega
  rw [Nat.or_comm, e4, ← Nat.two_pow_add_eq_or_of_lt h5, ← e4, i64_id (by omega) (by omega)]
  omega
theorem shl_mul {x b : Int} {n : Nat} (hb : b = n) (hn : n ≤ 63) (h0 : 0 ≤ x) (h1 : x * 2 ^ n ≤ 9223372036854775807) : shV .shl .i64 x b = x * 2 ^ n := by
  subst hb
  have hp : (0 : Int) < 2 ^ n := Int.pow_pos (by decide)
  have hm : 0 ≤ x * 2 ^ n := Int.mul_nonneg h0 (by omega)
  show IntKind.i64.wrap (x * 2 ^ min (n : Int).toNat 64) = _
  rw [show min (n : Int).toNat 64 = n by omega, i64_id hm h1]
theorem shr_div {x b : Int} {n : Nat} (hb : b = n) (hn : n ≤ 63) : shV .shr .i64 x b = x / 2 ^ n := by
  subst hb
  show x / 2 ^ min (n : Int).toNat 64 = _
  rw [show min (n : Int).toNat 64 = n by omega]
def putN (x : Int) : List UInt8 := if h : 127 < x then u8Of (x % 128 + 128) :: putN (x / 128) else [u8Of x]
termination_by x.toNat
decreasing_by omega
def putI (x : Int) : List UInt8 := if x < 0 then [] else putN x
theorem putN_big {x : Int} (h : 127 < x) : putN x = u8Of (x % 128 + 128) :: putN (x / 128) := by rw [putN, dif_pos h]
theorem putN_low {x : Int} (h : ¬ 127 < x) : putN x = [u8Of x] := by rw [putN, dif_neg h]
theorem putN_len : ∀ (n : Nat) (x : Int), x < 128 ^ (n + 1) → (putN x).length ≤ n + 1
  | 0, x, h => by rw [putN_low (by omega)]; simp
  | n + 1, x, h => by
    by_cases hx : 127 < x
    · rw [putN_big hx, List.length_cons]
      have := putN_len n (x / 128) (by
        rw [Int.pow_succ] at h
        omega)
      omega
    · rw [putN_low hx]; simp
theorem putI_len {x : Int} (h : x ≤ 4611686018427387904) : (putI x).length ≤ 9 := by
  unfold putI
  split
  · simp
  · exact putN_len 8 x (by omega)
theorem putI_step {out : List UInt8} {x y : Int} (h : putI y = out ++ putN x) (hx : 127 < x) : putI y = (out ++ [u8Of (x % 128 + 128)]) ++ putN (x / 128) := by
  rw [h, putN_big hx, List.append_assoc]; rfl
theorem putI_end {out : List UInt8} {x y : Int} (h : putI y = out ++ putN x) (hx : ¬ 127 < x) : out ++ [u8Of x] = putI y := by
  rw [h, putN_low hx]
theorem or128 {x : Int} (h0 : 0 ≤ x) : bitV .or .i64 (x % 128) 128 = x % 128 + 128 := by
  have := or_add (x := x % 128) (d := 1) (n := 7) (by omega) (by omega) (by omega) (by omega)
  simpa using this
theorem shr7 (x : Int) : shV .shr .i64 x 7 = x / 128 := shr_div (n := 7) rfl (by omega)
def putAll : List Int → List UInt8
  | [] => []
  | x :: l => putI x ++ putAll l
def getGo : Nat → Nat → Int → List UInt8 → Option (Int × Nat)
  | 0, _, _, _ => none
  | _ + 1, _, _, [] => none
  | n + 1, k, x, d :: l => if d.toNat ≤ 127 then (if 0 < k ∧ d.toNat = 0 then none else some (x + (d.toNat : Int) % 128 * 128 ^ k, k + 1)) else getGo n (k + 1) (x + (d.toNat : Int) % 128 * 128 ^ k) l
def getO (b : List UInt8) (at_ : Int) : Option (Int × Nat) := if at_ < 0 then none else getGo 9 0 0 (b.drop at_.toNat)
def getN (b : List UInt8) (at_ : Int) : Int × Int × Bool :=
  match getO b at_ with
  | none => (0, 0, false)
  | some (x, n) => (x, at_ + n, true)
theorem pow128 (k : Nat) : (0 : Int) < 128 ^ k := Int.pow_pos (by decide)
theorem getGo_num : ∀ {n k : Nat} {x : Int} {l : List UInt8} {y : Int} {m : Nat}, getGo n k x l = some (y, m) → 0 ≤ x → x < 128 ^ k → (0 ≤ y ∧ y < 128 ^ (n + k)) ∧ k < m ∧ m ≤ k + l.length
  | 0, _, _, _, _, _, h, _, _ => by simp [getGo] at h
  | n + 1, _, _, [], _, _, h, _, _ => by simp [getGo] at h
  | n + 1, k, x, d :: l, y, m, h, h0, h1 => by
    have hd : (0 : Int) ≤ (d.toNat : Int) % 128 ∧ (d.toNat : Int) % 128 ≤ 127 := by omega
    have hp := pow128 k
    have h2 : (d.toNat : Int) % 128 * 128 ^ k ≤ 127 * 128 ^ k := Int.mul_le_mul_of_nonneg_right hd.2 (by omega)
    have h3 : 0 ≤ (d.toNat : Int) % 128 * 128 ^ k := Int.mul_nonneg hd.1 (by omega)
    rw [getGo] at h
    generalize (d.toNat : Int) % 128 * 128 ^ k = z at *
    have h4 : x + z < 128 ^ (k + 1) := by rw [Int.pow_succ]; omega
    split at h
    · split at h
      · cases h
      · cases h
        refine ⟨⟨by omega, ?_⟩, by omega, by simp⟩
        have : (128 : Int) ^ (k + 1) ≤ 128 ^ (n + 1 + k) := by
          rw [show n + 1 + k = (k + 1) + n by omega, Int.pow_add 128 (k + 1) n]
          have := Int.mul_le_mul_of_nonneg_left (show (1 : Int) ≤ 128 ^ n by have := pow128 n; omega) (show (0 : Int) ≤ 128 ^ (k + 1) by have := pow128 (k + 1); omega)
          omega
        omega
    · have := getGo_num h (by omega) h4
      rw [show n + (k + 1) = n + 1 + k by omega] at this
      rw [List.length_cons]
      omega
theorem getN_num (b : List UInt8) {at_ : Int} : (0 ≤ (getN b at_).1 ∧ (getN b at_).1 ≤ 9223372036854775807) ∧ 0 ≤ (getN b at_).2.1 ∧ (getN b at_).2.1 ≤ b.length ∧ ((getN b at_).2.2 = true → at_ < (getN b at_).2.1) := by
  unfold getN
  cases h : getO b at_ with
  | none => simp
  | some q =>
    obtain ⟨x, n⟩ := q
    unfold getO at h
    split at h
    · cases h
    · have := getGo_num h (by omega) (by omega)
      rw [List.length_drop] at this
      simp only
      omega
theorem getGo_bit {x : Int} {d : UInt8} {k : Nat} (hk : k ≤ 8) (h0 : 0 ≤ x) (h1 : x < 128 ^ k) : bitV .or .i64 x (shV .shl .i64 ((d.toNat : Int) % 128) (7 * (k : Int))) = x + (d.toNat : Int) % 128 * 128 ^ k := by
  have hd : (0 : Int) ≤ (d.toNat : Int) % 128 ∧ (d.toNat : Int) % 128 ≤ 127 := by omega
  have hp := pow128 k
  have h2 : (d.toNat : Int) % 128 * 128 ^ k ≤ 127 * 128 ^ k := Int.mul_le_mul_of_nonneg_right hd.2 (by omega)
  have e : (128 : Int) ^ k = 2 ^ (7 * k) := by rw [Int.pow_mul]; rfl
  have h3 : (128 : Int) ^ (k + 1) ≤ 9223372036854775808 := by
    have : (128 : Int) ^ (8 - k) * 128 ^ (k + 1) = 128 ^ 9 := by rw [← Int.pow_add]; congr 1; omega
    have h4 := Int.mul_le_mul_of_nonneg_right (show (1 : Int) ≤ 128 ^ (8 - k) by have := pow128 (8 - k); omega) (show (0 : Int) ≤ 128 ^ (k + 1) by have := pow128 (k + 1); omega)
    omega
  rw [Int.pow_succ] at h3
  rw [shl_mul (n := 7 * k) (by simp) (by omega) (by omega) (by rw [← e]; omega), e]
  rw [e] at h1 h2 h3 hp
  exact or_add h0 h1 (by omega) (by omega)
def digV (d : UInt8) (k : Nat) : Int := (d.toNat : Int) % 128 * 128 ^ k
def unitV (k : Nat) : Int := IntKind.i64.wrap (128 ^ k)
theorem pow128_le {k : Nat} (hk : k ≤ 8) : (128 : Int) ^ k ≤ 72057594037927936 := by
  have h4 : (128 : Int) ^ (8 - k) * 128 ^ k = 128 ^ 8 := by rw [← Int.pow_add]; congr 1; omega
  have h5 := Int.mul_le_mul_of_nonneg_right (show (1 : Int) ≤ 128 ^ (8 - k) by have := pow128 (8 - k); omega) (show (0 : Int) ≤ 128 ^ k by have := pow128 k; omega)
  omega
theorem unitV_eq {k : Nat} (hk : k ≤ 8) : unitV k = 128 ^ k := i64_id (by have := pow128 k; omega) (by have := pow128_le hk; omega)
theorem unitV_say {k : Nat} (hk : k ≤ 8) : V.int .i64 (IntKind.i64.wrap (unitV k * 128)) = V.int .i64 (unitV (k + 1)) := by
  rw [unitV_eq hk, ← Int.pow_succ]; rfl
theorem digV_bd (d : UInt8) {k : Nat} {x : Int} (hk : k ≤ 8) (h0 : 0 ≤ x) (h1 : x < 128 ^ k) : 0 ≤ digV d k ∧ x + digV d k < 128 ^ (k + 1) ∧ x + digV d k ≤ 9223372036854775807 := by
  have hd : (0 : Int) ≤ (d.toNat : Int) % 128 ∧ (d.toNat : Int) % 128 ≤ 127 := by omega
  have hp := pow128 k
  have h2 : digV d k ≤ 127 * 128 ^ k := Int.mul_le_mul_of_nonneg_right hd.2 (by omega)
  have h3 : 0 ≤ digV d k := Int.mul_nonneg hd.1 (by omega)
  have h4 := pow128_le hk
  rw [Int.pow_succ]
  omega
theorem digV_say {d : UInt8} {k : Nat} (hk : k ≤ 8) : V.int .i64 (IntKind.i64.wrap ((d.toNat : Int) % 128 * unitV k)) = V.int .i64 (digV d k) := by
  have := digV_bd d (x := 0) hk (by omega) (pow128 k)
  rw [unitV_eq hk]
  exact congrArg (V.int .i64) (i64_id (x := digV d k) this.1 (by omega))
structure GR (b : List UInt8) (at_ : Int) (k : Nat) (x : Int) : Prop where
  hk : k ≤ 9
  h0 : 0 ≤ x
  h1 : x < 128 ^ k
  e : getO b at_ = getGo (9 - k) k x (b.drop (at_.toNat + k))
theorem GR.start {b : List UInt8} {at_ : Int} (ha : 0 ≤ at_) : GR b at_ 0 0 := ⟨by omega, by omega, by omega, by unfold getO; rw [if_neg (by omega)]; rfl⟩
theorem GR.bd {b : List UInt8} {at_ : Int} {k : Nat} {x : Int} (h : GR b at_ k x) (d : UInt8) (hk : k < 9) : 0 ≤ digV d k ∧ x + digV d k < 128 ^ (k + 1) ∧ x + digV d k ≤ 9223372036854775807 := digV_bd d (by omega) h.h0 h.h1
theorem GR.get {b : List UInt8} {at_ : Int} {k : Nat} {x : Int} (h : GR b at_ k x) {d : UInt8} (ha : 0 ≤ at_) (hk : k < 9) (hb : b[(at_ + (k : Int)).toNat]? = some d) : getO b at_ = if d.toNat ≤ 127 then (if 0 < k ∧ d.toNat = 0 then none else some (x + digV d k, k + 1)) else getGo (9 - (k + 1)) (k + 1) (x + digV d k) (b.drop (at_.toNat + (k + 1))) := by
  rw [h.e]
  have e1 : b.drop (at_.toNat + k) = d :: b.drop (at_.toNat + (k + 1)) := by
    rw [show (at_ + (k : Int)).toNat = at_.toNat + k by omega] at hb
    exact dropCons hb
  rw [e1, show 9 - k = (9 - (k + 1)) + 1 by omega]
  rfl
theorem GR.step {b : List UInt8} {at_ : Int} {k : Nat} {x : Int} (h : GR b at_ k x) {d : UInt8} (ha : 0 ≤ at_) (hk : k < 9) (hb : b[(at_ + (k : Int)).toNat]? = some d) (hd : 127 < d.toNat) : GR b at_ (k + 1) (x + digV d k) :=
  have hbd := h.bd d hk
  ⟨by omega, by have := h.h0; omega, hbd.2.1, by rw [h.get ha hk hb, if_neg (by omega)]⟩
theorem GR.bit {b : List UInt8} {at_ : Int} {k : Nat} {x : Int} (h : GR b at_ k x) (d : UInt8) (hk : k < 9) : bitV .or .i64 x (shV .shl .i64 ((d.toNat : Int) % 128) (7 * (k : Int))) = x + digV d k := getGo_bit (by omega) h.h0 h.h1
theorem GR.stepB {b : List UInt8} {at_ : Int} {k : Nat} {x : Int} (h : GR b at_ k x) {d : UInt8} (ha : 0 ≤ at_) (hk : k < 9) (hb : b[(at_ + (k : Int)).toNat]? = some d) (hd : 127 < d.toNat) : GR b at_ (k + 1) (bitV .or .i64 x (shV .shl .i64 ((d.toNat : Int) % 128) (7 * (k : Int)))) := by
  rw [h.bit d hk]; exact h.step ha hk hb hd
theorem getN_none {b : List UInt8} {at_ : Int} (h : getO b at_ = none) : getN b at_ = (0, 0, false) := by unfold getN; rw [h]
theorem getN_some {b : List UInt8} {at_ : Int} {x : Int} {n : Nat} (h : getO b at_ = some (x, n)) : getN b at_ = (x, at_ + n, true) := by unfold getN; rw [h]
theorem getN_neg {b : List UInt8} {at_ : Int} (h : at_ < 0) : getN b at_ = (0, 0, false) := getN_none (by unfold getO; rw [if_pos h])
theorem getN_past {b : List UInt8} {at_ : Int} (h : (b.length : Int) ≤ at_) : getN b at_ = (0, 0, false) := getN_none (by
  unfold getO
  split
  · rfl
  · rw [List.drop_of_length_le (by omega)]; rfl)
theorem GR.nine {b : List UInt8} {at_ : Int} {k : Nat} {x : Int} (h : GR b at_ k x) (hk : ¬ k < 9) : getN b at_ = (0, 0, false) := by
  have := h.hk
  refine getN_none ?_
  rw [h.e, show 9 - k = 0 by omega]
  rfl
theorem GR.over {b : List UInt8} {at_ : Int} {k : Nat} {x : Int} (h : GR b at_ k x) (ha : 0 ≤ at_) (hk : (b.length : Int) ≤ at_ + k) : getN b at_ = (0, 0, false) := by
  refine getN_none ?_
  rw [h.e, List.drop_of_length_le (by omega)]
  cases 9 - k <;> rfl
theorem GR.zero {b : List UInt8} {at_ : Int} {k : Nat} {x : Int} (h : GR b at_ k x) {d : UInt8} (ha : 0 ≤ at_) (hk : k < 9) (hb : b[(at_ + (k : Int)).toNat]? = some d) (h0 : 0 < k) (hd : d.toNat = 0) : getN b at_ = (0, 0, false) :=
  getN_none (by rw [h.get ha hk hb, if_pos (by omega), if_pos ⟨h0, hd⟩])
theorem GR.stop {b : List UInt8} {at_ : Int} {k : Nat} {x : Int} (h : GR b at_ k x) {d : UInt8} (ha : 0 ≤ at_) (hk : k < 9) (hb : b[(at_ + (k : Int)).toNat]? = some d) (h0 : ¬ (0 < k ∧ d.toNat = 0)) (hd : d.toNat ≤ 127) : getN b at_ = (x + digV d k, at_ + k + 1, true) := by
  have e : getO b at_ = some (x + digV d k, k + 1) := (h.get ha hk hb).trans (by rw [if_pos hd, if_neg h0])
  rw [getN_some e, show at_ + ((k + 1 : Nat) : Int) = at_ + k + 1 by omega]
theorem GR.stopB {b : List UInt8} {at_ : Int} {k : Nat} {x : Int} (h : GR b at_ k x) {d : UInt8} (ha : 0 ≤ at_) (hk : k < 9) (hb : b[(at_ + (k : Int)).toNat]? = some d) (h0 : ¬ (0 < k ∧ d.toNat = 0)) (hd : d.toNat ≤ 127) : getN b at_ = (bitV .or .i64 x (shV .shl .i64 ((d.toNat : Int) % 128) (7 * (k : Int))), at_ + k + 1, true) := by
  rw [h.bit d hk]; exact h.stop ha hk hb h0 hd
end Go.Sy

