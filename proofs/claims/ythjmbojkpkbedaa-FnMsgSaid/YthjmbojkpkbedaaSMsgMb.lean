/- Messages as bytes: what the two sides pack. -/
import Derived.Test.YthjmbojkpkbedaaSMsgMa
set_option linter.unusedVariables false
set_option linter.unusedSimpArgs false
namespace Go.Sy
def putT (s : ByteArray) : List UInt8 := if (s.size : Int) > 3000 then [] else putI s.size ++ s.data.toList
def cmdB (c : Cmd) : List UInt8 := putI c.kind ++ (if c.kind = 1 then [] else putI c.release ++ (if c.kind = 3 then putI c.node else if c.kind = 2 then putI c.size ++ c.digest.data.toList else []))
def cmdP (c : Cmd) : List UInt8 := if cmdOk c = true then cmdB c else []
def entsB : List Ent → List UInt8
  | [] => []
  | e :: l => putI e.term ++ (cmdP e.cmd ++ entsB l)
def packE (l : List Ent) : List UInt8 := putI l.length ++ entsB l
def fByte (m : Msg) (f : Int) : List UInt8 :=
  if f = 102 then putI m.from_ else if f = 116 then putI m.term else if f = 97 then putI m.at_ else if f = 120 then putI m.atTerm
  else if f = 99 then putI m.commit else if f = 121 then (if m.yes = true then putI 1 else putI 0) else if f = 114 then putI m.release else if f = 112 then putI m.part
  else if f = 98 then putT m.bytes else if f = 100 then cmdP m.cmd else packE m.entries
def fByteS (m : Msg) (f : Int) : List UInt8 :=
  if f = 102 then putI m.from_ else if f = 116 then putI m.term else if f = 97 then putI m.at_ else if f = 115 then putI m.atTerm
  else if f = 99 then putI m.commit else if f = 121 then (if m.yes = true then [1] else [0]) else if f = 114 then putI m.release else if f = 112 then putI m.part
  else if f = 98 then putT m.bytes else if f = 100 then cmdP m.cmd else if f = 101 then packE m.entries else []
def fAll (m : Msg) : List UInt8 → List UInt8
  | [] => []
  | c :: l => fByte m c.toNat ++ fAll m l
def fAllS (m : Msg) : List UInt8 → List UInt8
  | [] => []
  | c :: l => fByteS m c.toNat ++ fAllS m l
def sumGo : List UInt8 → Int → Int → Int × Int
  | [], x, y => (x, y)
  | c :: l, x, y => sumGo l ((x + (c.toNat : Int)) % 65521) ((y + (x + (c.toNat : Int)) % 65521) % 65521)
def sumB (b : List UInt8) : Int := 65536 * (sumGo b 1 0).2 + (sumGo b 1 0).1
def sum4 (n : Int) : List UInt8 := [u8Of n, u8Of (n / 256), u8Of (n / 65536), u8Of (n / 16777216)]
def sealP (b : List UInt8) : List UInt8 := if (b.length : Int) > 3000 then [] else (putI b.length ++ b) ++ sum4 (sumB b)
def msgB (m : Msg) : List UInt8 := putI m.kind ++ fAll m (fieldsL m.kind).data.toList
def msgP (m : Msg) : List UInt8 := if msgFits m = true then sealP (msgB m) else []
theorem sumGo_in : ∀ (b : List UInt8) {x y : Int}, 0 ≤ x ∧ x < 65521 → 0 ≤ y ∧ y < 65521 → (0 ≤ (sumGo b x y).1 ∧ (sumGo b x y).1 < 65521) ∧ 0 ≤ (sumGo b x y).2 ∧ (sumGo b x y).2 < 65521
  | [], x, y, hx, hy => ⟨hx, hy⟩
  | c :: l, x, y, hx, hy => by rw [sumGo]; exact sumGo_in l (by omega) (by omega)
theorem sumB_in (b : List UInt8) : 0 ≤ sumB b ∧ sumB b ≤ 4294967295 := by
  have := sumGo_in b (x := 1) (y := 0) (by omega) (by omega)
  unfold sumB
  omega
theorem sum_step {b : List UInt8} {k : Nat} {x y : Int} {c : UInt8} (h : sumGo b 1 0 = sumGo (b.drop k) x y) (hc : b[k]? = some c) : sumGo b 1 0 = sumGo (b.drop (k + 1)) ((x + (c.toNat : Int)) % 65521) ((y + (x + (c.toNat : Int)) % 65521) % 65521) := by
  rw [h, dropCons hc, sumGo]
theorem sum_end {b : List UInt8} {k : Nat} {x y : Int} (h : sumGo b 1 0 = sumGo (b.drop k) x y) (hk : b.length ≤ k) : 65536 * y + x = sumB b := by
  rw [List.drop_of_length_le hk] at h
  unfold sumB
  rw [h, sumGo]
theorem u8Of_mod (x : Int) : u8Of (x % 256) = u8Of x := by unfold u8Of; rw [Int.emod_emod_of_dvd x (by omega)]
theorem shr_8 (n : Int) : shV .shr .i64 n 8 = n / 256 := shr_div (n := 8) rfl (by omega)
theorem shr_16 (n : Int) : shV .shr .i64 n 16 = n / 65536 := shr_div (n := 16) rfl (by omega)
theorem shr_24 (n : Int) : shV .shr .i64 n 24 = n / 16777216 := shr_div (n := 24) rfl (by omega)
theorem sum4_impl (n : Int) : [u8Of (n % 256), u8Of (shV .shr .i64 n 8 % 256), u8Of (shV .shr .i64 n 16 % 256), u8Of (shV .shr .i64 n 24 % 256)] = sum4 n := by
  rw [shr_8, shr_16, shr_24, u8Of_mod, u8Of_mod, u8Of_mod, u8Of_mod]
  rfl
theorem sum4_spec (n : Int) : [u8Of n, u8Of (shV .shr .i64 n 8), u8Of (shV .shr .i64 n 16), u8Of (shV .shr .i64 n 24)] = sum4 n := by
  rw [shr_8, shr_16, shr_24]
  rfl
theorem noBytes2 {b : ByteArray} : (b.toList = []) = (b.size = 0) := by
  rw [ByteArray.toList_eq]
  have e : b.size = b.data.toList.length := Array.length_toList.symm
  rw [e, List.length_eq_zero_iff]
theorem cmdOk_in {c : Cmd} (h : cmdOk c = true) : (1 ≤ c.kind ∧ c.kind ≤ 5) ∧ (0 ≤ c.release ∧ c.release ≤ 1000) ∧ (0 ≤ c.node ∧ c.node ≤ 4) ∧ (0 ≤ c.size ∧ c.size ≤ 1000) ∧ c.digest.size ≤ 32 := by
  have e : ((⟨#[]⟩ : ByteArray)).size = 0 := rfl
  unfold cmdOk at h
  repeat' split at h
  all_goals
    simp only [noBytes2, Bool.and_eq_true, Bool.or_eq_true, beq_iff_eq, inR_iff] at h
    omega
theorem putAll_len3 (a b c : Int) (h1 : a ≤ 4611686018427387904) (h2 : b ≤ 4611686018427387904) (h3 : c ≤ 4611686018427387904) : (putAll [a, b, c]).length ≤ 27 := by
  have := putI_len h1
  have := putI_len h2
  have := putI_len h3
  simp only [putAll, List.length_append, List.length_nil]
  omega
theorem putT_len (s : ByteArray) : (putT s).length ≤ 3009 := by
  unfold putT
  split
  · simp
  · have := putI_len (x := s.size) (by omega)
    have h1 : s.data.toList.length = s.size := Array.length_toList
    rw [List.length_append, h1]
    omega
theorem cmdB_len {c : Cmd} (h : cmdOk c = true) : (cmdB c).length ≤ 68 := by
  have := cmdOk_in h
  have h1 := putI_len (x := c.kind) (by omega)
  have h2 := putI_len (x := c.release) (by omega)
  have h3 := putI_len (x := c.node) (by omega)
  have h4 := putI_len (x := c.size) (by omega)
  have h5 : c.digest.data.toList.length = c.digest.size := Array.length_toList
  unfold cmdB
  rw [List.length_append]
  split
  · simp; omega
  · rw [List.length_append]
    split
    · omega
    · split
      · rw [List.length_append, h5]; omega
      · simp; omega
theorem cmdP_len (c : Cmd) : (cmdP c).length ≤ 68 := by
  unfold cmdP
  split
  · exact cmdB_len ‹_›
  · simp
theorem cmdP_yes {c : Cmd} (h : cmdOk c = true) : cmdP c = cmdB c := by unfold cmdP; rw [if_pos h]
theorem cmdP_no {c : Cmd} (h : cmdOk c = false) : cmdP c = [] := by unfold cmdP; rw [if_neg (by simp [h])]
theorem sealP_yes {b : List UInt8} (h : ¬ (b.length : Int) > 3000) : sealP b = (putI b.length ++ b) ++ sum4 (sumB b) := by unfold sealP; rw [if_neg h]
theorem sealP_no {b : List UInt8} (h : (b.length : Int) > 3000) : sealP b = [] := by unfold sealP; rw [if_pos h]
theorem putT_yes {s : ByteArray} (h : ¬ (s.size : Int) > 3000) : putT s = putI s.size ++ s.data.toList := by unfold putT; rw [if_neg h]
theorem putT_no {s : ByteArray} (h : (s.size : Int) > 3000) : putT s = [] := by unfold putT; rw [if_pos h]
def Packs (m : Msg) : Prop := m.from_ ≤ 4611686018427387904 ∧ m.term ≤ 4611686018427387904 ∧ m.at_ ≤ 4611686018427387904 ∧ m.atTerm ≤ 4611686018427387904 ∧ m.commit ≤ 4611686018427387904 ∧ m.release ≤ 4611686018427387904 ∧ m.part ≤ 4611686018427387904 ∧ m.bytes.size ≤ 1048576 ∧ ∀ e ∈ m.entries, e.term ≤ 4611686018427387904
def msgPok (m : Msg) : Bool := msgFits m && decide (¬ ((msgB m).length : Int) > 3000)
theorem msgP_yes {m : Msg} (h : msgFits m = true) : msgP m = sealP (msgB m) := by unfold msgP; rw [if_pos h]
theorem msgP_no {m : Msg} (h : msgFits m = false) : msgP m = [] := by unfold msgP; rw [if_neg (by simp [h])]
theorem msgPok_yes {m : Msg} (h : msgFits m = true) : msgPok m = decide (¬ ((msgB m).length : Int) > 3000) := by unfold msgPok; rw [h, Bool.true_and]
theorem msgPok_no {m : Msg} (h : msgFits m = false) : msgPok m = false := by unfold msgPok; rw [h, Bool.false_and]
theorem entsB_len : ∀ (l : List Ent), (∀ e ∈ l, e.term ≤ 4611686018427387904) → (entsB l).length ≤ 77 * l.length
  | [], _ => by simp [entsB]
  | e :: l, h => by
    have h1 := putI_len (h e (by simp))
    have h2 := cmdP_len e.cmd
    have h3 := entsB_len l (fun x hx => h x (by simp [hx]))
    rw [entsB, List.length_append, List.length_append, List.length_cons]
    omega
theorem fByte_len {m : Msg} (hk : m.entries.length ≤ 6) (hp : Packs m) (f : Int) : (fByte m f).length ≤ 3009 := by
  obtain ⟨b1, b2, b3, b4, b5, b6, b7, b8, b9⟩ := hp
  have p1 := putI_len b1
  have p2 := putI_len b2
  have p3 := putI_len b3
  have p4 := putI_len b4
  have p5 := putI_len b5
  have p6 := putI_len b6
  have p7 := putI_len b7
  have p8 := putT_len m.bytes
  have p9 := cmdP_len m.cmd
  have p10 := entsB_len m.entries b9
  have p11 := putI_len (x := (m.entries.length : Int)) (by omega)
  have p12 : (packE m.entries).length = (putI (m.entries.length : Int)).length + (entsB m.entries).length := by unfold packE; rw [List.length_append]
  have p13 := putI_len (x := 1) (by omega)
  have p14 := putI_len (x := 0) (by omega)
  unfold fByte
  repeat' split
  all_goals omega
theorem msgFits_kind {m : Msg} (h : msgFits m = true) : 1 ≤ m.kind ∧ m.kind ≤ 7 := by
  simp only [msgFits, fits1, Bool.and_eq_true] at h
  have h1 := h.1.1
  by_cases hk : inR m.kind 1 7 = true
  · exact inR_iff.1 hk
  · exfalso
    unfold l8F at h1
    rw [if_neg hk, noBytes] at h1
    simp at h1
theorem num8_le {h : Bool} {x lo hi N : Int} (q : num8 h x lo hi = true) (h1 : hi ≤ N) (h2 : 0 ≤ N) : x ≤ N := by
  unfold num8 at q
  split at q
  · have := inR_iff.1 q; omega
  · have : x = 0 := by simpa using q
    omega
theorem entsOk_mem : ∀ {l : List Ent}, entsOk l = true → ∀ e ∈ l, entOk e = true
  | [], _, e, he => by simp at he
  | a :: l, h, e, he => by
    rw [entsOk, Bool.and_eq_true] at h
    rcases List.mem_cons.1 he with rfl | he
    · exact h.1
    · exact entsOk_mem h.2 e he
theorem msgFits_packs {m : Msg} (h : msgFits m = true) : Packs m := by
  simp only [msgFits, fits1, fits2, Bool.and_eq_true] at h
  obtain ⟨⟨_, h1, h2, h3, h4, h5⟩, ⟨h6, h7, _, h8, _⟩, _, h9⟩ := h
  exact ⟨num8_le h1 (by omega) (by omega), num8_le h2 (by omega) (by omega), num8_le h3 (by omega) (by omega), num8_le h4 (by omega) (by omega), num8_le h5 (by omega) (by omega), num8_le h6 (by omega) (by omega), num8_le h7 (by omega) (by omega), by
    have := num8_le (N := 16) h8 (by omega) (by omega); omega, fun e he => by have := entOk_nums (entsOk_mem h9 e he); omega⟩
theorem fieldsL_six (k : Int) : (fieldsL k).size ≤ 6 := by
  unfold fieldsL
  repeat' split
  all_goals decide
theorem putI_one : putI 1 = [1] := by unfold putI; rw [if_neg (by omega), putN_low (by omega)]; rfl
theorem putI_zero : putI 0 = [0] := by unfold putI; rw [if_neg (by omega), putN_low (by omega)]; rfl
theorem msgB_spec {m : Msg} (h : msgFits m = true) : msgB m = putI m.kind ++ fAllS m (l8F m.kind).data.toList := by
  have hk := msgFits_kind h
  unfold msgB
  congr 1
  have : m.kind = 1 ∨ m.kind = 2 ∨ m.kind = 3 ∨ m.kind = 4 ∨ m.kind = 5 ∨ m.kind = 6 ∨ m.kind = 7 := by omega
  rcases this with e | e | e | e | e | e | e <;> rw [e] <;> simp [fieldsL, l8F, l8L, inR, fAll, fAllS, fByte, fByteS, putI_one, putI_zero]
theorem sealP_len (b : List UInt8) : (sealP b).length ≤ 3013 := by
  unfold sealP
  split
  · simp
  · have := putI_len (x := (b.length : Int)) (by omega)
    have h4 : (sum4 (sumB b)).length = 4 := rfl
    rw [List.length_append, List.length_append, h4]
    omega
theorem msgP_len (m : Msg) : (msgP m).length ≤ 3013 := by
  unfold msgP
  split
  · exact sealP_len _
  · simp
end Go.Sy

