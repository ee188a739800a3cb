/- What is packed is read as it was; what is read packs to just its bytes. -/
import Derived.Test.YthjmbojkpkbedaaSMsgMd
set_option linter.unusedVariables false
set_option linter.unusedSimpArgs false
namespace Go.Sy
theorem u8Of_toNat {x : Int} (h0 : 0 ≤ x) (h1 : x ≤ 255) : ((u8Of x).toNat : Int) = x := by
  have := (u8Of_iff (x := x) (e := u8Of x)).1 rfl
  omega
theorem u8Of_self (e : UInt8) : u8Of (e.toNat : Int) = e := by
  have := UInt8.toNat_lt e
  exact u8Of_iff.2 (by omega)
theorem getGo_put : ∀ (n k : Nat) (x0 x : Int) (rest : List UInt8), 0 ≤ x → x < 128 ^ n → (k = 0 ∨ 0 < x) → 0 < n → getGo n k x0 (putN x ++ rest) = some (x0 + x * 128 ^ k, k + (putN x).length)
  | 0, _, _, _, _, _, _, _, h => by omega
  | n + 1, k, x0, x, rest, h0, h1, h2, _ => by
    by_cases hx : 127 < x
    · rw [putN_big hx, List.cons_append, getGo]
      have e1 : ((u8Of (x % 128 + 128)).toNat : Int) = x % 128 + 128 := u8Of_toNat (by omega) (by omega)
      rw [if_neg (show ¬ (u8Of (x % 128 + 128)).toNat ≤ 127 from by omega), e1, show (x % 128 + 128) % 128 = x % 128 from by omega]
      rw [Int.pow_succ] at h1
      have hn : 0 < n := by
        rcases Nat.eq_zero_or_pos n with h | h
        · subst h; simp at h1; omega
        · exact h
      rw [getGo_put n (k + 1) _ (x / 128) rest (by omega) (by omega) (.inr (by omega)) hn, List.length_cons]
      congr 2
      · rw [Int.pow_succ, Int.add_assoc, show x / 128 * (128 ^ k * 128) = (x / 128 * 128) * 128 ^ k from by rw [Int.mul_comm (128 ^ k) 128, ← Int.mul_assoc], ← Int.add_mul]
        congr 2
        omega
      · omega
    · rw [putN_low hx, List.singleton_append, getGo]
      have e1 : ((u8Of x).toNat : Int) = x := u8Of_toNat (by omega) (by omega)
      rw [if_pos (show (u8Of x).toNat ≤ 127 from by omega), if_neg (show ¬ (0 < k ∧ (u8Of x).toNat = 0) from by omega), e1, show x % 128 = x from by omega]
      rfl
theorem getN_put {b rest : List UInt8} {a x : Int} (ha : 0 ≤ a) (h0 : 0 ≤ x) (h1 : x ≤ 4611686018427387904) (hd : b.drop a.toNat = putI x ++ rest) : getN b a = (x, a + ((putI x).length : Int), true) := by
  have e : putI x = putN x := by unfold putI; rw [if_neg (by omega)]
  rw [e] at hd ⊢
  have : getO b a = some (x, (putN x).length) := by
    unfold getO
    rw [if_neg (by omega), hd, getGo_put 9 0 0 x rest h0 (by omega) (.inl rfl) (by omega)]
    congr 2
    · omega
    · omega
  exact getN_some this
theorem getGo_unput : ∀ (n k : Nat) (x0 : Int) (l : List UInt8) (y : Int) (m : Nat), getGo n k x0 l = some (y, m) → ∃ (x : Int) (rest : List UInt8), l = putN x ++ rest ∧ y = x0 + x * 128 ^ k ∧ m = k + (putN x).length ∧ 0 ≤ x ∧ (k = 0 ∨ 0 < x)
  | 0, _, _, _, _, _, h => by simp [getGo] at h
  | n + 1, _, _, [], _, _, h => by simp [getGo] at h
  | n + 1, k, x0, d :: l, y, m, h => by
    have hd := UInt8.toNat_lt d
    rw [getGo] at h
    split at h
    · rename_i h1
      split at h
      · cases h
      · rename_i h2
        simp only [Option.some.injEq, Prod.mk.injEq] at h
        refine ⟨d.toNat, l, by rw [putN_low (by omega), u8Of_self]; rfl, by rw [← h.1, show (d.toNat : Int) % 128 = d.toNat from by omega], by rw [putN_low (by omega)]; simp [← h.2], by omega, by omega⟩
    · rename_i h1
      obtain ⟨x, rest, e1, e2, e3, e4, e5⟩ := getGo_unput n (k + 1) _ l y m h
      have hx : 127 < (d.toNat : Int) % 128 + 128 * x := by omega
      refine ⟨(d.toNat : Int) % 128 + 128 * x, rest, ?_, ?_, ?_, by omega, .inr (by omega)⟩
      · rw [putN_big hx, show ((d.toNat : Int) % 128 + 128 * x) / 128 = x from by omega, show ((d.toNat : Int) % 128 + 128 * x) % 128 + 128 = d.toNat from by omega, u8Of_self, e1]
        rfl
      · rw [e2, Int.pow_succ, Int.add_mul, Int.add_assoc, Int.mul_comm (128 ^ k) 128, ← Int.mul_assoc, Int.mul_comm x 128]
      · rw [putN_big hx, show ((d.toNat : Int) % 128 + 128 * x) / 128 = x from by omega, List.length_cons, e3]
        omega
theorem getN_unput {b : List UInt8} {a x a' : Int} (h : getN b a = (x, a', true)) : 0 ≤ a ∧ 0 ≤ x ∧ a' = a + ((putI x).length : Int) ∧ b.drop a.toNat = putI x ++ b.drop a'.toNat := by
  unfold getN at h
  split at h
  · simp at h
  · rename_i y n hg
    simp only [Prod.mk.injEq, and_true] at h
    obtain ⟨rfl, rfl⟩ := h
    unfold getO at hg
    split at hg
    · cases hg
    · rename_i ha
      obtain ⟨x, rest, e1, e2, e3, e4, e5⟩ := getGo_unput 9 0 0 _ _ _ hg
      have e6 : y = x := by rw [e2]; omega
      subst e6
      have e7 : putI y = putN y := by unfold putI; rw [if_neg (by omega)]
      refine ⟨by omega, e4, by rw [e7, e3]; omega, ?_⟩
      rw [e7, e1]
      congr 1
      have : (a + (n : Int)).toNat = a.toNat + n := by omega
      rw [this, ← List.drop_drop, e1, e3, Nat.zero_add, List.drop_left]
end Go.Sy

