/- Words for inputs that are drawn: bits, what a drawn number may be, rows that are frozen. -/
import Derived.Test.YtocjgmdfocaamaaGreatSRecsTellHo
import Derived.Test.YtocjgmdfocaamaaGreatSRecsTellRe
set_option linter.unusedVariables false
set_option linter.unusedSimpArgs false
namespace Go.Sy
def bitV (op : BinOp) (k : IntKind) (a b : Int) : Int := (bitI op k a b).getD 0
def shV (op : BinOp) (k : IntKind) (a b : Int) : Int := (shI op k a b).getD 0
theorem bitS_and (k : IntKind) (a b : Int) : bitI .and k a b = some (bitV .and k a b) := rfl
theorem bitS_or (k : IntKind) (a b : Int) : bitI .or k a b = some (bitV .or k a b) := rfl
theorem bitS_xor (k : IntKind) (a b : Int) : bitI .xor k a b = some (bitV .xor k a b) := rfl
theorem shS_shl (k : IntKind) (a b : Int) : shI .shl k a b = some (shV .shl k a b) := rfl
theorem shS_shr (k : IntKind) (a b : Int) : shI .shr k a b = some (shV .shr k a b) := rfl
theorem andM (n : Nat) (q a m : Int) (hn : n ≤ 62) (hm : m = 2 ^ n - 1) (hq : q = 2 ^ n) : bitI .and .i64 a m = some (a % q) := by
  subst hm
  subst hq
  have hp : (2 : Nat) ^ n ≤ 2 ^ 62 := Nat.pow_le_pow_right (by decide) hn
  have hp0 : 0 < (2 : Nat) ^ n := Nat.pow_pos (by decide)
  have e0 : ((2 : Int) ^ n - 1) = ((2 ^ n - 1 : Nat) : Int) := by
    rw [Int.ofNat_sub hp0]; simp
  have e1 : (BitVec.ofInt 64 ((2 : Int) ^ n - 1)).toNat = 2 ^ n - 1 := by
    rw [e0, BitVec.ofInt_natCast, BitVec.toNat_ofNat, Nat.mod_eq_of_lt]
    omega
  have e : ((BitVec.ofInt 64 a &&& BitVec.ofInt 64 ((2 : Int) ^ n - 1)).toNat : Int) = a % 2 ^ n := by
    rw [BitVec.toNat_and, e1, Nat.and_two_pow_sub_one_eq_mod, BitVec.toNat_ofInt]
    have h1 : (0 : Int) ≤ a % (2 ^ 64 : Nat) := Int.emod_nonneg _ (by decide)
    rw [Int.natCast_emod, Int.toNat_of_nonneg h1]
    have : ((2 ^ 64 : Nat) : Int) = ((2 ^ n : Nat) : Int) * ((2 ^ (64 - n) : Nat) : Int) := by
      rw [← Int.natCast_mul, ← Nat.pow_add, show n + (64 - n) = 64 by omega]
    rw [Int.emod_emod_of_dvd _ ⟨_, this⟩]
    simp
  have e2 : bitI .and .i64 a ((2 : Int) ^ n - 1) = some (IntKind.i64.wrap ((BitVec.ofInt 64 a &&& BitVec.ofInt 64 ((2 : Int) ^ n - 1)).toNat : Int)) := rfl
  rw [e2, e]
  have h3 : (0 : Int) ≤ a % 2 ^ n := Int.emod_nonneg _ (by omega)
  have h4 : a % 2 ^ n < 2 ^ n := Int.emod_lt_of_pos _ (by omega)
  have h5 : ((2 : Int) ^ n) ≤ 2 ^ 62 := by
    have := Int.ofNat_le.2 hp
    simpa using this
  congr 1
  generalize a % 2 ^ n = z at h3 h4
  generalize (2 : Int) ^ n = w at h4 h5
  simp [IntKind.wrap, IntKind.bits, IntKind.signed]
  omega
theorem flatInts {l : List Int} : ∀ x ∈ l.map encI, (cl x).all gS = true := fun x hx => by
  obtain ⟨y, _, rfl⟩ := List.mem_map.1 hx
  rfl
def encOutT (o : Out) : V := encOutWith (.sl true 6 (o.msg.entries.map encEnt)) o
theorem allP_encOutT (l : List Out) : AllP (l.map encOutT) := allP_map (fun _ => rfl) l
theorem frzT17 (o : Out) {e : Nat} : ∀ (j : Nat) (a b : V), (cl (encOutWith (.own e 6 (o.msg.entries.map encEnt)) o))[j]? = some a → (cl (encOutT o))[j]? = some b → frzT a b := by
  intro j a b ha hb
  unfold encOutT at hb
  unfold encOutWith cl at ha hb
  simp only at ha hb
  iterate 16
    cases j with
    | zero =>
      simp only [List.getElem?_cons_zero, Option.some.injEq] at ha hb
      subst ha
      subst hb
      exact ⟨rfl, rfl⟩
    | succ j => ?_
    simp only [List.getElem?_cons_succ] at ha hb
  cases j with
  | zero =>
    simp only [List.getElem?_cons_zero, Option.some.injEq] at ha hb
    subst ha
    subst hb
    rfl
  | succ j => simp at ha
theorem frzNil : FrzT [] [] := ⟨rfl, fun k x y h => by simp at h⟩
def keysL : List Int := [1116352408, 1899447441, 3049323471, 3921009573, 961987163, 1508970993, 2453635748, 2870763221, 3624381080, 310598401, 607225278, 1426881987, 1925078388, 2162078206, 2614888103, 3248222580, 3835390401, 4022224774, 264347078, 604807628, 770255983, 1249150122, 1555081692, 1996064986, 2554220882, 2821834349, 2952996808, 3210313671, 3336571891, 3584528711, 113926993, 338241895, 666307205, 773529912, 1294757372, 1396182291, 1695183700, 1986661051, 2177026350, 2456956037, 2730485921, 2820302411, 3259730800, 3345764771, 3516065817, 3600352804, 4094571909, 275423344, 430227734, 506948616, 659060556, 883997877, 958139571, 1322822218, 1537002063, 1747873779, 1955562222, 2024104815, 2227730452, 2361852424, 2428436474, 2756734187, 3204031479, 3329325298]
def encRaftWith (l y n m : V) (r : Raft) : V := .agg [.int .i64 r.id, .int .i64 r.of_, .int .i64 r.role, .int .i64 r.commit, .int .i64 r.hard.term, .int .i64 r.hard.vote, l, y, n, m]
end Go.Sy

