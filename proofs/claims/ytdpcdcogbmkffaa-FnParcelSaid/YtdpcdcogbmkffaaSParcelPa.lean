/- The digest SHA-256 as a function on lists: words, a block, the padding. -/
import Derived.Test.YtdpcdcogbmkffaaSParcelMa
set_option linter.unusedVariables false
set_option linter.unusedSimpArgs false
namespace Go.Sy
theorem xor_bd {a b : Int} (ha : 0 ≤ a ∧ a < 4294967296) (hb : 0 ≤ b ∧ b < 4294967296) : 0 ≤ bitV .xor .i64 a b ∧ bitV .xor .i64 a b < 4294967296 := by
  have h : (a.toNat ^^^ b.toNat) < 2 ^ 32 := Nat.xor_lt_two_pow (by omega) (by omega)
  have e : bitV .xor .i64 a b = ((a.toNat ^^^ b.toNat : Nat) : Int) := by
    show (some (IntKind.i64.wrap (BitVec.ofInt 64 a ^^^ BitVec.ofInt 64 b).toNat)).getD 0 = _
    rw [BitVec.toNat_xor, bv_nat (by omega) (by omega), bv_nat (by omega) (by omega)]
    exact i64_id (by omega) (by omega)
  omega
theorem and_bd {a b : Int} (ha : 0 ≤ a ∧ a < 4294967296) (hb : 0 ≤ b ∧ b < 4294967296) : 0 ≤ bitV .and .i64 a b ∧ bitV .and .i64 a b < 4294967296 := by
  have h : (a.toNat &&& b.toNat) < 2 ^ 32 := Nat.and_lt_two_pow _ (by omega)
  have e : bitV .and .i64 a b = ((a.toNat &&& b.toNat : Nat) : Int) := by
    show (some (IntKind.i64.wrap (BitVec.ofInt 64 a &&& BitVec.ofInt 64 b).toNat)).getD 0 = _
    rw [BitVec.toNat_and, bv_nat (by omega) (by omega), bv_nat (by omega) (by omega)]
    exact i64_id (by omega) (by omega)
  omega
theorem shr_bd {a : Int} (n : Int) (ha : 0 ≤ a ∧ a < 4294967296) : 0 ≤ shV .shr .i64 a n ∧ shV .shr .i64 a n < 4294967296 := by
  have e : shV .shr .i64 a n = a / 2 ^ min n.toNat 64 := rfl
  have hp : (0 : Int) < 2 ^ min n.toNat 64 := Int.pow_pos (by decide)
  rw [e]
  refine ⟨Int.ediv_nonneg ha.1 (by omega), ?_⟩
  exact Int.lt_of_le_of_lt (Int.ediv_le_self _ ha.1) ha.2
def turnI (x n : Int) : Int := (bitV .or .i64 (shV .shr .i64 x n) (shV .shl .i64 x (32 - n))) % 4294967296
theorem turn_bd (x n : Int) : 0 ≤ turnI x n ∧ turnI x n < 4294967296 := by unfold turnI; omega
def W32 (x : Int) : Prop := 0 ≤ x ∧ x < 4294967296
def sgA (x : Int) : Int := bitV .xor .i64 (bitV .xor .i64 (turnI x 7) (turnI x 18)) (shV .shr .i64 x 3)
def sgB (x : Int) : Int := bitV .xor .i64 (bitV .xor .i64 (turnI x 17) (turnI x 19)) (shV .shr .i64 x 10)
def sgC (x : Int) : Int := bitV .xor .i64 (bitV .xor .i64 (turnI x 6) (turnI x 11)) (turnI x 25)
def sgD (x : Int) : Int := bitV .xor .i64 (bitV .xor .i64 (turnI x 2) (turnI x 13)) (turnI x 22)
def chI (e f g : Int) : Int := bitV .xor .i64 (bitV .and .i64 e f) (bitV .and .i64 (bitV .xor .i64 4294967295 e) g)
def mjI (a b c : Int) : Int := bitV .xor .i64 (bitV .xor .i64 (bitV .and .i64 a b) (bitV .and .i64 a c)) (bitV .and .i64 b c)
theorem sgA_bd {x : Int} (h : W32 x) : W32 (sgA x) := xor_bd (xor_bd (turn_bd _ _) (turn_bd _ _)) (shr_bd _ h)
theorem sgB_bd {x : Int} (h : W32 x) : W32 (sgB x) := xor_bd (xor_bd (turn_bd _ _) (turn_bd _ _)) (shr_bd _ h)
theorem sgC_bd (x : Int) : W32 (sgC x) := xor_bd (xor_bd (turn_bd _ _) (turn_bd _ _)) (turn_bd _ _)
theorem sgD_bd (x : Int) : W32 (sgD x) := xor_bd (xor_bd (turn_bd _ _) (turn_bd _ _)) (turn_bd _ _)
theorem ch_bd {e f g : Int} (he : W32 e) (hf : W32 f) (hg : W32 g) : W32 (chI e f g) := xor_bd (and_bd he hf) (and_bd (xor_bd (by omega) he) hg)
theorem mj_bd {a b c : Int} (ha : W32 a) (hb : W32 b) (hc : W32 c) : W32 (mjI a b c) := xor_bd (xor_bd (and_bd ha hb) (and_bd ha hc)) (and_bd hb hc)
def atI (l : List Int) (i : Nat) : Int := (l[i]?).getD 0
def nxW (l : List Int) : Int := (sgB (atI l (l.length - 2)) + atI l (l.length - 7) + sgA (atI l (l.length - 15)) + atI l (l.length - 16)) % 4294967296
def extW : Nat → List Int → List Int
  | 0, l => l
  | n + 1, l => extW n (l ++ [nxW l])
def wordI (b : List UInt8) (i : Nat) : Int := ((b[4 * i]?).getD 0).toNat * 16777216 + ((b[4 * i + 1]?).getD 0).toNat * 65536 + ((b[4 * i + 2]?).getD 0).toNat * 256 + ((b[4 * i + 3]?).getD 0).toNat
def wordsI (b : List UInt8) (n : Nat) : List Int := (List.range n).map (wordI b)
def schedI (b : List UInt8) : List Int := extW 48 (wordsI b 16)
theorem wordI_bd (b : List UInt8) (i : Nat) : W32 (wordI b i) := by
  unfold W32 wordI
  have h1 := UInt8.toNat_lt ((b[4 * i]?).getD 0)
  have h2 := UInt8.toNat_lt ((b[4 * i + 1]?).getD 0)
  have h3 := UInt8.toNat_lt ((b[4 * i + 2]?).getD 0)
  have h4 := UInt8.toNat_lt ((b[4 * i + 3]?).getD 0)
  omega
def AllW (l : List Int) : Prop := ∀ x ∈ l, W32 x
theorem atI_bd {l : List Int} (h : AllW l) (i : Nat) : W32 (atI l i) := by
  unfold atI
  cases e : l[i]? with
  | none => exact ⟨by simp, by simp⟩
  | some x => exact h x (List.mem_of_getElem? e)
theorem nxW_bd (l : List Int) : W32 (nxW l) := by unfold nxW W32; omega
theorem AllW.snoc {l : List Int} (h : AllW l) {x : Int} (hx : W32 x) : AllW (l ++ [x]) := by
  intro y hy
  rw [List.mem_append, List.mem_singleton] at hy
  rcases hy with hy | rfl
  · exact h _ hy
  · exact hx
theorem wordsI_all (b : List UInt8) (n : Nat) : AllW (wordsI b n) := by
  intro x hx
  unfold wordsI at hx
  rw [List.mem_map] at hx
  obtain ⟨i, _, rfl⟩ := hx
  exact wordI_bd b i
theorem wordsI_len (b : List UInt8) (n : Nat) : (wordsI b n).length = n := by simp [wordsI]
theorem wordsI_succ (b : List UInt8) (n : Nat) : wordsI b (n + 1) = wordsI b n ++ [wordI b n] := by simp [wordsI, List.range_succ]
structure V8 where
  a : Int
  b : Int
  c : Int
  d : Int
  e : Int
  f : Int
  g : Int
  h : Int
def V8.all (v : V8) : Prop := W32 v.a ∧ W32 v.b ∧ W32 v.c ∧ W32 v.d ∧ W32 v.e ∧ W32 v.f ∧ W32 v.g ∧ W32 v.h
def tmA (v : V8) (k w : Int) : Int := v.h + sgC v.e + chI v.e v.f v.g + k + w
def tmB (v : V8) : Int := sgD v.a + mjI v.a v.b v.c
def stepV (v : V8) (k w : Int) : V8 := ⟨(tmA v k w + tmB v) % 4294967296, v.a, v.b, v.c, (v.d + tmA v k w) % 4294967296, v.e, v.f, v.g⟩
theorem stepV_all {v : V8} (h : v.all) (k w : Int) : (stepV v k w).all := by
  obtain ⟨h1, h2, h3, h4, h5, h6, h7, h8⟩ := h
  refine ⟨?_, h1, h2, h3, ?_, h5, h6, h7⟩ <;> (unfold W32; dsimp only [stepV]; omega)
theorem stepV_low (v : V8) (k w : Int) : (⟨((v.h + sgC v.e + chI v.e v.f v.g + k + w) % 4294967296 + (sgD v.a + mjI v.a v.b v.c) % 4294967296) % 4294967296, v.a, v.b, v.c, (v.d + (v.h + sgC v.e + chI v.e v.f v.g + k + w) % 4294967296) % 4294967296, v.e, v.f, v.g⟩ : V8) = stepV v k w := by
  unfold stepV tmA tmB
  congr 1 <;> omega
def keysI : List Int := [1116352408, 1899447441, 3049323471, 3921009573, 961987163, 1508970993, 2453635748, 2870763221, 3624381080, 310598401, 607225278, 1426881987, 1925078388, 2162078206, 2614888103, 3248222580,
  3835390401, 4022224774, 264347078, 604807628, 770255983, 1249150122, 1555081692, 1996064986, 2554220882, 2821834349, 2952996808, 3210313671, 3336571891, 3584528711, 113926993, 338241895,
  666307205, 773529912, 1294757372, 1396182291, 1695183700, 1986661051, 2177026350, 2456956037, 2730485921, 2820302411, 3259730800, 3345764771, 3516065817, 3600352804, 4094571909, 275423344,
  430227734, 506948616, 659060556, 883997877, 958139571, 1322822218, 1537002063, 1747873779, 1955562222, 2024104815, 2227730452, 2361852424, 2428436474, 2756734187, 3204031479, 3329325298]
def runV : List Int → List Int → V8 → V8
  | k :: ks, w :: ws, v => runV ks ws (stepV v k w)
  | _, _, v => v
def V8.of (l : List Int) : V8 := ⟨atI l 0, atI l 1, atI l 2, atI l 3, atI l 4, atI l 5, atI l 6, atI l 7⟩
def V8.toL (v : V8) : List Int := [v.a, v.b, v.c, v.d, v.e, v.f, v.g, v.h]
def addL (l m : List Int) : List Int := List.zipWith (fun x y => (x + y) % 4294967296) l m
def roundI (l : List Int) (b : List UInt8) : List Int := addL l (runV keysI (schedI b) (V8.of l)).toL
theorem keysI_len : keysI.length = 64 := rfl
theorem keysI_bd : AllW keysI := by unfold AllW keysI; intro x hx; simp only [List.mem_cons, List.not_mem_nil, or_false] at hx; unfold W32; omega
theorem extW_len : ∀ (n : Nat) (l : List Int), (extW n l).length = l.length + n
  | 0, l => rfl
  | n + 1, l => by rw [extW, extW_len n, List.length_append]; simp; omega
theorem extW_all : ∀ (n : Nat) (l : List Int), AllW l → AllW (extW n l)
  | 0, l, h => h
  | n + 1, l, h => extW_all n _ (h.snoc (nxW_bd l))
theorem sched_len (b : List UInt8) : (schedI b).length = 64 := by rw [schedI, extW_len, wordsI_len]
theorem sched_all (b : List UInt8) : AllW (schedI b) := extW_all _ _ (wordsI_all b 16)
theorem round_all (l : List Int) (b : List UInt8) : AllW (roundI l b) := by
  intro x hx
  unfold roundI addL at hx
  obtain ⟨i, hi, e⟩ := List.mem_iff_getElem.1 hx
  rw [List.getElem_zipWith] at e
  unfold W32; omega
theorem round_len (l : List Int) (b : List UInt8) (h : l.length = 8) : (roundI l b).length = 8 := by
  unfold roundI addL; rw [List.length_zipWith, h]; rfl
def padZ (n : Nat) : Nat := (119 - n % 64) % 64
def lenB (n : Nat) : List UInt8 := (List.range 8).map fun (i : Nat) => u8Of (shV .shr .i64 (8 * (n : Int)) (8 * (7 - ((i : Nat) : Int))))
def padI (b : List UInt8) : List UInt8 := b ++ [128] ++ List.replicate (padZ b.length) 0 ++ lenB b.length
def firstI : List Int := [1779033703, 3144134277, 1013904242, 2773480762, 1359893119, 2600822924, 528734635, 1541459225]
def blocksI : Nat → List Int → List UInt8 → List Int
  | 0, h, _ => h
  | n + 1, h, b => blocksI n (roundI h (b.take 64)) (b.drop 64)
def outB : List Int → List UInt8
  | [] => []
  | x :: l => u8Of (shV .shr .i64 x 24) :: u8Of (shV .shr .i64 x 16) :: u8Of (shV .shr .i64 x 8) :: u8Of x :: outB l
def shaB (b : List UInt8) : List UInt8 := if (b.length : Int) > 4000 then [] else outB (blocksI ((padI b).length / 64) firstI (padI b))
theorem outB_len : ∀ l : List Int, (outB l).length = 4 * l.length
  | [] => rfl
  | x :: l => by simp only [outB, List.length_cons, outB_len l]; omega
theorem blocks_len : ∀ (n : Nat) (h : List Int) (b : List UInt8), h.length = 8 → (blocksI n h b).length = 8
  | 0, h, b, e => e
  | n + 1, h, b, e => blocks_len n _ _ (round_len h _ e)
theorem sha_len {b : List UInt8} (h : ¬ (b.length : Int) > 4000) : (shaB b).length = 32 := by
  rw [shaB, if_neg h, outB_len, blocks_len _ _ _ rfl]
theorem firstI_all : AllW firstI := by unfold AllW firstI; intro x hx; simp only [List.mem_cons, List.not_mem_nil, or_false] at hx; unfold W32; omega
end Go.Sy

