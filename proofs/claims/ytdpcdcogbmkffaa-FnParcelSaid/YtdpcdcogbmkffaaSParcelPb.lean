/- The digest's loops: what the walks need. -/
import Derived.Test.YtdpcdcogbmkffaaSParcelAr
import Derived.Test.YtdpcdcogbmkffaaSParcelMb
set_option linter.unusedVariables false
set_option linter.unusedSimpArgs false
namespace Go.Sy
theorem orShl {x c : Int} (hx : 0 ≤ x ∧ x < 16777216) (hc : 0 ≤ c ∧ c < 256) : bitV .or .i64 (shV .shl .i64 x 8) c = x * 256 + c := by
  rw [shl_mul (b := 8) (n := 8) rfl (by omega) hx.1 (by omega)]
  have h := or_add (x := c) (d := x) (n := 8) hc.1 (by omega) hx.1 (by omega)
  have e : bitV .or .i64 (x * 2 ^ 8) c = bitV .or .i64 c (x * 2 ^ 8) := by
    show (some (IntKind.i64.wrap (BitVec.ofInt 64 _ ||| BitVec.ofInt 64 _).toNat)).getD 0 = (some (IntKind.i64.wrap (BitVec.ofInt 64 _ ||| BitVec.ofInt 64 _).toNat)).getD 0
    rw [BitVec.or_comm]
  rw [e, h]; omega
theorem orQuad (a b c d : UInt8) : bitV .or .i64 (bitV .or .i64 (bitV .or .i64 (shV .shl .i64 (a.toNat : Int) 24) (shV .shl .i64 (b.toNat : Int) 16)) (shV .shl .i64 (c.toNat : Int) 8)) (d.toNat : Int) = (a.toNat : Int) * 16777216 + (b.toNat : Int) * 65536 + (c.toNat : Int) * 256 + (d.toNat : Int) := by
  have ha := UInt8.toNat_lt a
  have hb := UInt8.toNat_lt b
  have hc := UInt8.toNat_lt c
  have hd := UInt8.toNat_lt d
  have comm : ∀ x y : Int, bitV .or .i64 x y = bitV .or .i64 y x := by
    intro x y
    show (some (IntKind.i64.wrap (BitVec.ofInt 64 _ ||| BitVec.ofInt 64 _).toNat)).getD 0 = (some (IntKind.i64.wrap (BitVec.ofInt 64 _ ||| BitVec.ofInt 64 _).toNat)).getD 0
    rw [BitVec.or_comm]
  have e24 : shV .shl .i64 (a.toNat : Int) 24 = ((a.toNat : Int) * 256) * 2 ^ 16 := by rw [shl_mul (b := 24) (n := 24) rfl (by omega) (by omega) (by omega)]; omega
  have e16 : shV .shl .i64 (b.toNat : Int) 16 = (b.toNat : Int) * 2 ^ 16 := by rw [shl_mul (b := 16) (n := 16) rfl (by omega) (by omega) (by omega)]
  have e8 : shV .shl .i64 (c.toNat : Int) 8 = (c.toNat : Int) * 2 ^ 8 := by rw [shl_mul (b := 8) (n := 8) rfl (by omega) (by omega) (by omega)]
  have s1 : bitV .or .i64 (shV .shl .i64 (a.toNat : Int) 24) (shV .shl .i64 (b.toNat : Int) 16) = ((a.toNat : Int) * 256 + (b.toNat : Int)) * 2 ^ 16 := by
    rw [comm, shl_mul (b := 24) (n := 24) rfl (by omega) (by omega) (by omega), e16, or_add (n := 24) (by omega) (by omega) (by omega) (by omega)]; omega
  have s2 : bitV .or .i64 (((a.toNat : Int) * 256 + (b.toNat : Int)) * 2 ^ 16) (shV .shl .i64 (c.toNat : Int) 8) = ((a.toNat : Int) * 65536 + (b.toNat : Int) * 256 + (c.toNat : Int)) * 2 ^ 8 := by
    rw [comm, e8, or_add (n := 16) (by omega) (by omega) (by omega) (by omega)]; omega
  rw [s1, s2, comm, or_add (n := 8) (by omega) (by omega) (by omega) (by omega)]; omega
def partW (b : List UInt8) (i : Nat) : Nat → Int
  | 0 => 0
  | j + 1 => partW b i j * 256 + ((b[4 * i + j]?).getD 0).toNat
theorem partW_four (b : List UInt8) (i : Nat) : partW b i 4 = wordI b i := by
  simp only [partW, wordI, Nat.add_zero]; omega
theorem partW_bd (b : List UInt8) (i : Nat) : (partW b i 0 = 0) ∧ (0 ≤ partW b i 1 ∧ partW b i 1 < 256) ∧ (0 ≤ partW b i 2 ∧ partW b i 2 < 65536) ∧ (0 ≤ partW b i 3 ∧ partW b i 3 < 16777216) := by
  have h0 := UInt8.toNat_lt ((b[4 * i + 0]?).getD 0)
  have h1 := UInt8.toNat_lt ((b[4 * i + 1]?).getD 0)
  have h2 := UInt8.toNat_lt ((b[4 * i + 2]?).getD 0)
  refine ⟨rfl, ?_⟩
  simp only [partW]; omega
theorem partW_small {b : List UInt8} {i j : Nat} (h : j < 4) : 0 ≤ partW b i j ∧ partW b i j < 16777216 := by
  have := partW_bd b i
  have : j = 0 ∨ j = 1 ∨ j = 2 ∨ j = 3 := by omega
  rcases this with rfl | rfl | rfl | rfl <;> omega
def wrdQ (b : List UInt8) (k j : Nat) : List Int := wordsI b k ++ partW b k j :: List.replicate (63 - k) 0
theorem wrdQ_start {b : List UInt8} {k : Nat} (h : k < 16) : wordsI b k ++ List.replicate (64 - k) 0 = wrdQ b k 0 := by
  unfold wrdQ
  rw [show 64 - k = (63 - k) + 1 by omega, List.replicate_succ]; rfl
theorem wrdQ_end {b : List UInt8} {k : Nat} (h : k < 16) : wrdQ b k 4 = wordsI b (k + 1) ++ List.replicate (64 - (k + 1)) 0 := by
  unfold wrdQ
  rw [partW_four, wordsI_succ, List.append_assoc, show 64 - (k + 1) = 63 - k by omega]; rfl
theorem wrdQ_get {b : List UInt8} {k j : Nat} {e : Int} (he : (wrdQ b k j)[k]? = some e) : e = partW b k j := by
  unfold wrdQ at he
  rw [List.getElem?_append_right (by rw [wordsI_len]; omega), wordsI_len, Nat.sub_self, List.getElem?_cons_zero] at he
  exact (Option.some.inj he).symm
theorem wrdQ_get2 {b : List UInt8} {k j : Nat} {q : List Int} {e : Int} (hq : q = wrdQ b k j) (he : q[k]? = some e) : e = partW b k j := wrdQ_get (hq ▸ he)
theorem wrdQ_set {b : List UInt8} {k j : Nat} {d : UInt8} {x : Int} (hd : b[4 * k + j]? = some d) (hx : x = partW b k j * 256 + (d.toNat : Int)) : (wrdQ b k j).set k x = wrdQ b k (j + 1) := by
  unfold wrdQ
  rw [List.set_append_right _ _ (by rw [wordsI_len]; omega), wordsI_len, Nat.sub_self, List.set_cons_zero]
  congr 2
  rw [hx, partW, hd]; rfl
theorem at_of {q l r : List Int} {n : Nat} {e : Int} (hq : q = l ++ r) (hn : n < l.length) (he : q[n]? = some e) : atI l n = e := by
  subst hq
  rw [List.getElem?_append_left hn] at he
  exact atI_get he
theorem nx_of {l : List Int} {t : Nat} {e1 e2 e3 e4 : Int} (hl : l.length = t) (h1 : atI l (t - 15) = e1) (h2 : atI l (t - 2) = e2) (h3 : atI l (t - 7) = e3) (h4 : atI l (t - 16) = e4) : (sgB e2 + e3 + sgA e1 + e4) % 4294967296 = nxW l := by
  subst hl; subst h1; subst h2; subst h3; subst h4; rfl
theorem ext_step {l : List Int} {t : Nat} (ht : t < 64) : extW (64 - t) l = extW (64 - (t + 1)) (l ++ [nxW l]) := by
  rw [show 64 - t = 64 - (t + 1) + 1 by omega, extW]
theorem ext_set {l : List Int} {t : Nat} (hl : l.length = t) (ht : t < 64) (x : Int) : (l ++ List.replicate (64 - t) (0 : Int)).set t x = (l ++ [x]) ++ List.replicate (64 - (t + 1)) 0 := by
  rw [List.set_append_right _ _ (by omega), hl, Nat.sub_self, show 64 - t = 64 - (t + 1) + 1 by omega, List.replicate_succ, List.set_cons_zero, List.append_assoc]; rfl
theorem ext_set2 {q l : List Int} {t : Nat} {x : Int} (hq : q = l ++ List.replicate (64 - t) (0 : Int)) (hl : l.length = t) (ht : t < 64) (hx : x = nxW l) : q.set t x = (l ++ [nxW l]) ++ List.replicate (64 - (t + 1)) 0 := by
  rw [hq, ext_set hl ht, hx]
theorem nx_of2 {l : List Int} {t : Nat} {e1 e2 e3 e4 : Int} (hl : l.length = t) (h1 : atI l (t - 15) = e1) (h2 : atI l (t - 2) = e2) (h3 : atI l (t - 7) = e3) (h4 : atI l (t - 16) = e4) :
    ((((bitV .xor .i64 (bitV .xor .i64 (turnI e2 17) (turnI e2 19)) (shV .shr .i64 e2 10)) + e3) + (bitV .xor .i64 (bitV .xor .i64 (turnI e1 7) (turnI e1 18)) (shV .shr .i64 e1 3))) + e4) % 4294967296 = nxW l := nx_of hl h1 h2 h3 h4
theorem AllW.zeros {l : List Int} (h : AllW l) (n : Nat) : AllW (l ++ List.replicate n 0) := by
  intro x hx
  rw [List.mem_append, List.mem_replicate] at hx
  rcases hx with hx | hx
  · exact h _ hx
  · rw [hx.2]; unfold W32; omega
theorem words_start (b : List UInt8) : wordsI b 0 = [] := rfl
theorem run_step {k w : List Int} {t : Nat} {v : V8} {a b : Int} (h1 : k[t]? = some a) (h2 : w[t]? = some b) : runV (k.drop t) (w.drop t) v = runV (k.drop (t + 1)) (w.drop (t + 1)) (stepV v a b) := by
  rw [dropCons h1, dropCons h2, runV]
theorem all_toL {v : V8} (h : v.all) : AllW [v.a, v.b, v.c, v.d, v.e, v.f, v.g, v.h] := by
  obtain ⟨h1, h2, h3, h4, h5, h6, h7, h8⟩ := h
  intro x hx
  simp only [List.mem_cons, List.not_mem_nil, or_false] at hx
  rcases hx with rfl | rfl | rfl | rfl | rfl | rfl | rfl | rfl <;> assumption
theorem of_all {l : List Int} (h : AllW l) : (V8.of l).all := ⟨atI_bd h _, atI_bd h _, atI_bd h _, atI_bd h _, atI_bd h _, atI_bd h _, atI_bd h _, atI_bd h _⟩
theorem eight {l : List Int} (h : l.length = 8) : l = [atI l 0, atI l 1, atI l 2, atI l 3, atI l 4, atI l 5, atI l 6, atI l 7] := by
  match l, h with
  | [a, b, c, d, e, f, g, i], _ => rfl
theorem add_step {h v : List Int} {i : Nat} {a b : Int} {o : List Int} {F : List Int} (hR : F = o ++ addL (h.drop i) (v.drop i)) (h1 : h[i]? = some a) (h2 : v[i]? = some b) : F = (o ++ [(a + b) % 4294967296]) ++ addL (h.drop (i + 1)) (v.drop (i + 1)) := by
  rw [hR, dropCons h1, dropCons h2, List.append_assoc]; rfl
theorem add_end {h v : List Int} {i : Nat} {o F : List Int} (hR : F = o ++ addL (h.drop i) (v.drop i)) (hi : h.length ≤ i) : o = F := by
  rw [hR, List.drop_of_length_le hi]; simp [addL]
theorem round_of {h : List Int} {b : List UInt8} {v : V8} (hR : runV keysI (schedI b) (V8.of h) = v) : roundI h b = addL h [v.a, v.b, v.c, v.d, v.e, v.f, v.g, v.h] := by
  unfold roundI; rw [hR]; rfl
def addIn (h v : List Int) (i : Nat) : List Int := addL (h.take i) (v.take i) ++ h.drop i
theorem addIn_zero (h v : List Int) : addIn h v 0 = h := by simp [addIn, addL]
theorem addIn_get {h v : List Int} {i : Nat} {e : Int} (hh : h.length = 8) (hv : v.length = 8) (hi : i < 8) (he : (addIn h v i)[i]? = some e) : h[i]? = some e := by
  unfold addIn at he
  rw [List.getElem?_append_right (by simp [addL, hh, hv]; omega)] at he
  have : (addL (h.take i) (v.take i)).length = i := by simp [addL, hh, hv]; omega
  rw [this, Nat.sub_self, List.getElem?_drop] at he
  simpa using he
theorem addIn_set {h v : List Int} {i : Nat} {a b : Int} (hh : h.length = 8) (hv : v.length = 8) (hi : i < 8) (h1 : h[i]? = some a) (h2 : v[i]? = some b) : (addIn h v i).set i ((a + b) % 4294967296) = addIn h v (i + 1) := by
  have hl : (addL (h.take i) (v.take i)).length = i := by simp [addL, hh, hv]; omega
  have e1 : h.take (i + 1) = h.take i ++ [a] := by rw [List.take_add_one, h1]; rfl
  have e2 : v.take (i + 1) = v.take i ++ [b] := by rw [List.take_add_one, h2]; rfl
  unfold addIn
  rw [List.set_append_right _ _ (by omega), hl, Nat.sub_self, dropCons h1, List.set_cons_zero, e1, e2]
  unfold addL
  rw [List.zipWith_append (by simp [hh, hv]), List.append_assoc]; rfl
theorem addIn_end {h v : List Int} {i : Nat} (hh : h.length = 8) (hv : v.length = 8) (hi : 8 ≤ i) : addIn h v i = addL h v := by
  unfold addIn
  rw [List.take_of_length_le (by omega), List.take_of_length_le (by omega), List.drop_of_length_le (by omega), List.append_nil]
theorem pad_zero {n : Nat} : padZ n < 64 := by unfold padZ; omega
theorem pad_less {n k : Nat} (hk : k ≤ padZ n) (h : ¬ ((n : Int) + 1 + k) % 64 = 56) : k < padZ n := by unfold padZ at *; omega
theorem pad_end {n k : Nat} (hk : k ≤ padZ n) (h : ((n : Int) + 1 + k) % 64 = 56) : k = padZ n := by unfold padZ at *; omega
theorem lenB_len (n : Nat) : (lenB n).length = 8 := by simp [lenB]
theorem lenB_get {n j : Nat} (h : j < 8) : (lenB n)[j]? = some (u8Of (shV .shr .i64 (8 * (n : Int)) (8 * (7 - (j : Int))))) := by
  unfold lenB; rw [List.getElem?_map, List.getElem?_range h]; rfl
theorem lenB_take {n j : Nat} (h : j < 8) : (lenB n).take (j + 1) = (lenB n).take j ++ [u8Of (shV .shr .i64 (8 * (n : Int)) (8 * (7 - (j : Int))))] := by
  rw [List.take_add_one, lenB_get h]; rfl
theorem padI_len (b : List UInt8) : (padI b).length % 64 = 0 ∧ (padI b).length ≤ b.length + 73 := by
  unfold padI
  simp only [List.length_append, List.length_replicate, List.length_cons, List.length_nil, lenB_len]
  unfold padZ; omega
theorem blk_step {q : List UInt8} {h : List Int} (h64 : 64 ≤ q.length) : blocksI (q.length / 64) h q = blocksI ((q.drop 64).length / 64) (roundI h (q.take 64)) (q.drop 64) := by
  rw [List.length_drop, show q.length / 64 = (q.length - 64) / 64 + 1 by omega, blocksI]
theorem blk_end {q : List UInt8} {h : List Int} (h0 : q.length < 64) : blocksI (q.length / 64) h q = h := by
  rw [show q.length / 64 = 0 by omega, blocksI]
theorem out_step {h : List Int} {i : Nat} {a : Int} {o F : List UInt8} (hR : F = o ++ outB (h.drop i)) (h1 : h[i]? = some a) : F = (o ++ [u8Of (shV .shr .i64 a 24), u8Of (shV .shr .i64 a 16), u8Of (shV .shr .i64 a 8), u8Of a]) ++ outB (h.drop (i + 1)) := by
  rw [hR, dropCons h1, outB, List.append_assoc]; rfl
theorem out_end {h : List Int} {i : Nat} {o F : List UInt8} (hR : F = o ++ outB (h.drop i)) (hi : h.length ≤ i) : o = F := by
  rw [hR, List.drop_of_length_le hi]; simp [outB]
theorem sha_of {b : List UInt8} (h : ¬ (b.length : Int) > 4000) : shaB b = outB (blocksI ((padI b).length / 64) firstI (padI b)) := by rw [shaB, if_neg h]
theorem sha_no {b : List UInt8} (h : (b.length : Int) > 4000) : shaB b = [] := by rw [shaB, if_pos h]
end Go.Sy
namespace Go.Sy
theorem partGet {b : List UInt8} {k j : Nat} {d : UInt8} {m : Nat} (h : ((b.drop m).take (m + 4 - m))[j]? = some d) (hm : m = 4 * k) : b[4 * k + j]? = some d := by
  subst hm
  rw [List.getElem?_take] at h
  split at h
  · rwa [List.getElem?_drop] at h
  · cases h
theorem partGet2 {b : List UInt8} {k j : Nat} {d : UInt8} (h : ((b.drop (4 * (k : Int)).toNat).take ((4 * (k : Int) + 4).toNat - (4 * (k : Int)).toNat))[j]? = some d) : b[4 * k + j]? = some d := by
  rw [show (4 * (k : Int) + 4).toNat = 4 * k + 4 from by omega, show (4 * (k : Int)).toNat = 4 * k from by omega] at h
  exact partGet h rfl
theorem nat_at {l : List Int} {n m : Nat} {e : Int} (h : l[n]? = some e) (hm : n = m) : l[m]? = some e := hm ▸ h
end Go.Sy
namespace Go.Sy
theorem appW {l : List Int} {x : Int} (h : x = nxW l) : l.map encI ++ [x].map encI = (l ++ [nxW l]).map encI := by rw [h, List.map_append]
theorem word_eq {b : List UInt8} {k : Nat} {e1 e2 e3 e4 : UInt8} (h1 : b[(4 * (k : Int)).toNat]? = some e1) (h2 : b[(4 * (k : Int) + 1).toNat]? = some e2) (h3 : b[(4 * (k : Int) + 2).toNat]? = some e3) (h4 : b[(4 * (k : Int) + 3).toNat]? = some e4) :
    (e1.toNat : Int) * 16777216 + (e2.toNat : Int) * 65536 + (e3.toNat : Int) * 256 + (e4.toNat : Int) = wordI b k := by
  rw [show (4 * (k : Int)).toNat = 4 * k from by omega] at h1
  rw [show (4 * (k : Int) + 1).toNat = 4 * k + 1 from by omega] at h2
  rw [show (4 * (k : Int) + 2).toNat = 4 * k + 2 from by omega] at h3
  rw [show (4 * (k : Int) + 3).toNat = 4 * k + 3 from by omega] at h4
  unfold wordI
  rw [h1, h2, h3, h4]; rfl
theorem stepV_low2 (v : V8) (k w : Int) : (⟨((v.h + bitV .xor .i64 (bitV .xor .i64 (turnI v.e 6) (turnI v.e 11)) (turnI v.e 25) + bitV .xor .i64 (bitV .and .i64 v.e v.f) (bitV .and .i64 (bitV .xor .i64 4294967295 v.e) v.g) + k + w) % 4294967296 + (bitV .xor .i64 (bitV .xor .i64 (turnI v.a 2) (turnI v.a 13)) (turnI v.a 22) + bitV .xor .i64 (bitV .xor .i64 (bitV .and .i64 v.a v.b) (bitV .and .i64 v.a v.c)) (bitV .and .i64 v.b v.c)) % 4294967296) % 4294967296, v.a, v.b, v.c,
    (v.d + (v.h + bitV .xor .i64 (bitV .xor .i64 (turnI v.e 6) (turnI v.e 11)) (turnI v.e 25) + bitV .xor .i64 (bitV .and .i64 v.e v.f) (bitV .and .i64 (bitV .xor .i64 4294967295 v.e) v.g) + k + w) % 4294967296) % 4294967296, v.e, v.f, v.g⟩ : V8) = stepV v k w := stepV_low v k w
theorem step_all2 {v : V8} {k w : Int} (h : v.all) : (⟨((v.h + bitV .xor .i64 (bitV .xor .i64 (turnI v.e 6) (turnI v.e 11)) (turnI v.e 25) + bitV .xor .i64 (bitV .and .i64 v.e v.f) (bitV .and .i64 (bitV .xor .i64 4294967295 v.e) v.g) + k + w) % 4294967296 + (bitV .xor .i64 (bitV .xor .i64 (turnI v.a 2) (turnI v.a 13)) (turnI v.a 22) + bitV .xor .i64 (bitV .xor .i64 (bitV .and .i64 v.a v.b) (bitV .and .i64 v.a v.c)) (bitV .and .i64 v.b v.c)) % 4294967296) % 4294967296, v.a, v.b, v.c,
    (v.d + (v.h + bitV .xor .i64 (bitV .xor .i64 (turnI v.e 6) (turnI v.e 11)) (turnI v.e 25) + bitV .xor .i64 (bitV .and .i64 v.e v.f) (bitV .and .i64 (bitV .xor .i64 4294967295 v.e) v.g) + k + w) % 4294967296) % 4294967296, v.e, v.f, v.g⟩ : V8).all := by
  rw [stepV_low2]; exact stepV_all h _ _
theorem step_run2 {v : V8} {k w : Int} {ks ws : List Int} {t : Nat} {F : V8} (hR : F = runV (ks.drop t) (ws.drop t) v) (h1 : ks[t]? = some k) (h2 : ws[t]? = some w) : F = runV (ks.drop (t + 1)) (ws.drop (t + 1)) (⟨((v.h + bitV .xor .i64 (bitV .xor .i64 (turnI v.e 6) (turnI v.e 11)) (turnI v.e 25) + bitV .xor .i64 (bitV .and .i64 v.e v.f) (bitV .and .i64 (bitV .xor .i64 4294967295 v.e) v.g) + k + w) % 4294967296 + (bitV .xor .i64 (bitV .xor .i64 (turnI v.a 2) (turnI v.a 13)) (turnI v.a 22) + bitV .xor .i64 (bitV .xor .i64 (bitV .and .i64 v.a v.b) (bitV .and .i64 v.a v.c)) (bitV .and .i64 v.b v.c)) % 4294967296) % 4294967296, v.a, v.b, v.c,
    (v.d + (v.h + bitV .xor .i64 (bitV .xor .i64 (turnI v.e 6) (turnI v.e 11)) (turnI v.e 25) + bitV .xor .i64 (bitV .and .i64 v.e v.f) (bitV .and .i64 (bitV .xor .i64 4294967295 v.e) v.g) + k + w) % 4294967296) % 4294967296, v.e, v.f, v.g⟩ : V8) := by
  rw [hR, run_step h1 h2, stepV_low2]
theorem stepV_raw (v : V8) (k w : Int) : (⟨((v.h + bitV .xor .i64 (bitV .xor .i64 (turnI v.e 6) (turnI v.e 11)) (turnI v.e 25) + bitV .xor .i64 (bitV .and .i64 v.e v.f) (bitV .and .i64 (bitV .xor .i64 4294967295 v.e) v.g) + k + w) + (bitV .xor .i64 (bitV .xor .i64 (turnI v.a 2) (turnI v.a 13)) (turnI v.a 22) + bitV .xor .i64 (bitV .xor .i64 (bitV .and .i64 v.a v.b) (bitV .and .i64 v.a v.c)) (bitV .and .i64 v.b v.c))) % 4294967296, v.a, v.b, v.c, (v.d + (v.h + bitV .xor .i64 (bitV .xor .i64 (turnI v.e 6) (turnI v.e 11)) (turnI v.e 25) + bitV .xor .i64 (bitV .and .i64 v.e v.f) (bitV .and .i64 (bitV .xor .i64 4294967295 v.e) v.g) + k + w)) % 4294967296, v.e, v.f, v.g⟩ : V8) = stepV v k w := rfl
theorem step_all3 {v : V8} {k w : Int} (h : v.all) : (⟨((v.h + bitV .xor .i64 (bitV .xor .i64 (turnI v.e 6) (turnI v.e 11)) (turnI v.e 25) + bitV .xor .i64 (bitV .and .i64 v.e v.f) (bitV .and .i64 (bitV .xor .i64 4294967295 v.e) v.g) + k + w) + (bitV .xor .i64 (bitV .xor .i64 (turnI v.a 2) (turnI v.a 13)) (turnI v.a 22) + bitV .xor .i64 (bitV .xor .i64 (bitV .and .i64 v.a v.b) (bitV .and .i64 v.a v.c)) (bitV .and .i64 v.b v.c))) % 4294967296, v.a, v.b, v.c, (v.d + (v.h + bitV .xor .i64 (bitV .xor .i64 (turnI v.e 6) (turnI v.e 11)) (turnI v.e 25) + bitV .xor .i64 (bitV .and .i64 v.e v.f) (bitV .and .i64 (bitV .xor .i64 4294967295 v.e) v.g) + k + w)) % 4294967296, v.e, v.f, v.g⟩ : V8).all := stepV_all h k w
theorem step_run3 {v : V8} {k w : Int} {ks ws : List Int} {t : Nat} {F : V8} (hR : F = runV (ks.drop t) (ws.drop t) v) (h1 : ks[t]? = some k) (h2 : ws[t]? = some w) : F = runV (ks.drop (t + 1)) (ws.drop (t + 1)) (⟨((v.h + bitV .xor .i64 (bitV .xor .i64 (turnI v.e 6) (turnI v.e 11)) (turnI v.e 25) + bitV .xor .i64 (bitV .and .i64 v.e v.f) (bitV .and .i64 (bitV .xor .i64 4294967295 v.e) v.g) + k + w) + (bitV .xor .i64 (bitV .xor .i64 (turnI v.a 2) (turnI v.a 13)) (turnI v.a 22) + bitV .xor .i64 (bitV .xor .i64 (bitV .and .i64 v.a v.b) (bitV .and .i64 v.a v.c)) (bitV .and .i64 v.b v.c))) % 4294967296, v.a, v.b, v.c, (v.d + (v.h + bitV .xor .i64 (bitV .xor .i64 (turnI v.e 6) (turnI v.e 11)) (turnI v.e 25) + bitV .xor .i64 (bitV .and .i64 v.e v.f) (bitV .and .i64 (bitV .xor .i64 4294967295 v.e) v.g) + k + w)) % 4294967296, v.e, v.f, v.g⟩ : V8) := by
  rw [hR, run_step h1 h2, stepV_raw]
theorem set_all {q : List Int} {i : Nat} (h : AllW q) (x : Int) : AllW (q.set i (x % 4294967296)) := by
  intro y hy
  rcases List.mem_or_eq_of_mem_set hy with hy | rfl
  · exact h _ hy
  · unfold W32; omega
theorem add_set3 {h v q : List Int} {i : Nat} {a b : Int} (hq : q = addIn h v i) (hh : h.length = 8) (hi : i < 8) (h1 : q[i]? = some a) (h2 : v[i]? = some b) (hv : v.length = 8 := by rfl) : q.set i ((a + b) % 4294967296) = addIn h v (i + 1) := by
  subst hq
  exact addIn_set hh hv hi (addIn_get hh hv hi h1) h2
theorem pad_app {b q : List UInt8} {k : Nat} (hq : q = b ++ [128] ++ List.replicate k 0) : q ++ [0] = b ++ [128] ++ List.replicate (k + 1) 0 := by
  rw [hq, List.replicate_succ', ← List.append_assoc]
theorem lenB_int {n : Nat} {i : Int} (h0 : 0 ≤ i) (h1 : i ≤ 7) {q p : List UInt8} (hp : p = q ++ (lenB n).take (7 - i).toNat) : p ++ [u8Of (shV .shr .i64 (8 * (n : Int)) (8 * i))] = q ++ (lenB n).take (7 - (i - 1)).toNat := by
  rw [hp, show (7 - (i - 1)).toNat = (7 - i).toNat + 1 by omega, lenB_take (by omega), List.append_assoc, show 8 * (7 - (((7 - i).toNat : Nat) : Int)) = 8 * i by omega]
theorem pad_done {b q p : List UInt8} {k : Nat} {i : Int} (hq : q = b ++ [128] ++ List.replicate k 0) (hk : k = padZ b.length) (hp : p = q ++ (lenB b.length).take (7 - i).toNat) (hi : i < 0) (hi2 : -1 ≤ i) : p = padI b := by
  rw [hp, hq, hk, List.take_of_length_le (by rw [lenB_len]; omega)]; rfl
theorem blk_int {p : List UInt8} {i : Int} {h F : List Int} (hR : F = blocksI ((p.drop i.toNat).length / 64) h (p.drop i.toNat)) (h0 : 0 ≤ i) (hm : p.length % 64 = 0) (hi : i % 64 = 0) (hl : i < p.length) :
    F = blocksI ((p.drop (i + 64).toNat).length / 64) (roundI h ((p.drop i.toNat).take ((i + 64).toNat - i.toNat))) (p.drop (i + 64).toNat) := by
  rw [hR, blk_step (by rw [List.length_drop]; omega), List.drop_drop, show (i + 64).toNat - i.toNat = 64 by omega, show i.toNat + 64 = (i + 64).toNat by omega]
theorem blk_cut {q : List UInt8} {h F : List Int} (hR : F = blocksI (q.length / 64) h q) (h64 : 64 ≤ q.length) :
    F = blocksI (((q.drop 64).take (q.length - 64)).length / 64) (roundI h (q.take 64)) ((q.drop 64).take (q.length - 64)) := by
  rw [List.take_of_length_le (l := q.drop 64) (by rw [List.length_drop]; omega), hR, blk_step h64]
theorem out_step2 {h : List Int} {i : Nat} {a : Int} {o F : List UInt8} (hR : F = o ++ outB (h.drop i)) (h1 : h[i]? = some a) : F = (o ++ [u8Of (shV .shr .i64 a 24), u8Of (shV .shr .i64 a 16 % 256), u8Of (shV .shr .i64 a 8 % 256), u8Of (a % 256)]) ++ outB (h.drop (i + 1)) := by
  rw [u8Of_mod, u8Of_mod, u8Of_mod]; exact out_step hR h1
theorem blk_same {p : List UInt8} {i : Int} {h F : List Int} (hR : F = blocksI ((p.drop i.toNat).length / 64) h (p.drop i.toNat)) (hi : (p.length : Int) ≤ i) : F = h := by
  rw [hR]; exact blk_end (by rw [List.length_drop]; omega)
end Go.Sy

