/- The messages' law: there and back; one byte turned. -/
import Derived.Test.YthjmbojkpkbedaaSMsgMg
set_option linter.unusedVariables false
set_option linter.unusedSimpArgs false
namespace Go.Sy
theorem num8_ge {h : Bool} {x lo hi : Int} (q : num8 h x lo hi = true) (h1 : 0 ≤ lo) : 0 ≤ x := by
  unfold num8 at q
  split at q
  · have := inR_iff.1 q; omega
  · have : x = 0 := by simpa using q
    omega
theorem fits_pk {m : Msg} (h : msgFits m = true) : PkM m := by
  have hp := msgFits_packs h
  have h6 := (msgFits_nums h).2.2.2.2
  simp only [msgFits, fits1, fits2, Bool.and_eq_true] at h
  obtain ⟨⟨_, h1, h2, h3, h4, h5⟩, ⟨h7, h8, _, h9, _⟩, _, h10⟩ := h
  exact ⟨hp, num8_ge h1 (by omega), num8_ge h2 (by omega), num8_ge h3 (by omega), num8_ge h4 (by omega), num8_ge h5 (by omega), num8_ge h7 (by omega), num8_ge h8 (by omega), by have := num8_le (N := 16) h9 (by omega) (by omega); omega, h10, h6⟩
theorem fits_cmd {m : Msg} (h : msgFits m = true) (hk : 100 ∈ (l8F m.kind).data.toList) : cmdOk m.cmd = true := by
  have hkk := msgFits_kind h
  simp only [msgFits, fits3, Bool.and_eq_true] at h
  have h3 := h.2.2.1
  have : hasF m 100 = true := by
    unfold hasF
    have : m.kind = 1 ∨ m.kind = 2 ∨ m.kind = 3 ∨ m.kind = 4 ∨ m.kind = 5 ∨ m.kind = 6 ∨ m.kind = 7 := by omega
    rcases this with e | e | e | e | e | e | e <;> rw [e] at hk ⊢ <;> first | (revert hk; decide) | rfl
  rw [if_pos this] at h3
  exact h3
theorem cmdEq_eq {a b : Cmd} (h : cmdEq a b = true) : a = b := by
  obtain ⟨a1, a2, a3, a4, a5⟩ := a
  obtain ⟨b1, b2, b3, b4, b5⟩ := b
  simp only [cmdEq, Bool.and_eq_true, beq_iff_eq, and_true] at h
  obtain ⟨rfl, rfl, rfl, rfl, h⟩ := h
  rw [ByteArray.toList_eq, ByteArray.toList_eq] at h
  have : a5 = b5 := by
    cases a5; cases b5
    simp only [Array.toList_inj] at h
    rw [h]
  rw [this]
theorem set_all {m : Msg} (h : msgFits m = true) : (l8F m.kind).data.toList.foldl (fun x c => setF m x c.toNat) (kMsg m.kind) = m := by
  have hkk := msgFits_kind h
  have hc : m.kind = 1 ∨ m.kind = 2 ∨ m.kind = 3 ∨ m.kind = 4 ∨ m.kind = 5 ∨ m.kind = 6 ∨ m.kind = 7 := by omega
  obtain ⟨k, f, t, a, s, c, y, r, p, b, d, e⟩ := m
  simp only [msgFits, fits1, fits2, fits3, hasF, Bool.and_eq_true] at h hc hkk
  obtain ⟨⟨_, h1, h2, h3, h4, h5⟩, ⟨h6, h7, hy, h8, h9⟩, h10, h11⟩ := h
  rcases hc with q | q | q | q | q | q | q <;> subst q
  all_goals
    simp [l8F, l8L, inR, hasU, num8] at h1 h2 h3 h4 h5 h6 h7 hy h8 h9 h10
    simp [l8F, l8L, inR, setF, kMsg]
    repeat' apply And.intro
    all_goals first | omega | assumption | exact (cmdEq_eq h10).symm | exact h8.symm | exact h9.1
theorem chain_len {n : Nat} {f : Int} {y : Bool} {x1 x2 x3 x4 x5 x6 x7 x8 x9 x10 x11 x12 : List UInt8} (h1 : x1.length ≤ n) (h2 : x2.length ≤ n) (h3 : x3.length ≤ n) (h4 : x4.length ≤ n) (h5 : x5.length ≤ n) (h6 : x6.length ≤ n) (h7 : x7.length ≤ n) (h8 : x8.length ≤ n) (h9 : x9.length ≤ n) (h10 : x10.length ≤ n) (h11 : x11.length ≤ n) (h12 : x12.length ≤ n) :
    (if f = 102 then x1 else if f = 116 then x2 else if f = 97 then x3 else if f = 120 then x4 else if f = 99 then x5 else if f = 121 then (if y = true then x6 else x7) else if f = 114 then x8 else if f = 112 then x9 else if f = 98 then x10 else if f = 100 then x11 else x12).length ≤ n := by
  repeat' split
  all_goals assumption
theorem le_480 {n : Nat} (h : n ≤ 9) : n ≤ 480 := by omega
theorem fAll_len {m : Msg} (h : msgFits m = true) : ∀ l : List UInt8, (fAll m l).length ≤ 480 * l.length
  | [] => by simp [fAll]
  | c :: l => by
    have hp := fits_pk h
    obtain ⟨⟨b1, b2, b3, b4, b5, b6, b7, b8, b9⟩, _, _, _, _, _, _, _, c8, c9, c10⟩ := hp
    have hb : m.bytes.size ≤ 16 := by
      simp only [msgFits, fits1, fits2, Bool.and_eq_true] at h
      have := num8_le (N := 16) h.2.1.2.2.2.1 (by omega) (by omega)
      omega
    have hl : m.bytes.data.toList.length = m.bytes.size := Array.length_toList
    have p8 : (putT m.bytes).length ≤ 480 := by
      have p0 := putI_len (x := (m.bytes.size : Int)) (by omega)
      rw [putT_yes c8, List.length_append, hl]; omega
    have p9 : (cmdP m.cmd).length ≤ 480 := Nat.le_trans (cmdP_len m.cmd) (by omega)
    have p12 : (packE m.entries).length ≤ 480 := by
      have p10 := entsB_len m.entries b9
      have p11 := putI_len (x := (m.entries.length : Int)) (by omega)
      unfold packE; rw [List.length_append]; omega
    have hf : (fByte m c.toNat).length ≤ 480 := chain_len (le_480 (putI_len b1)) (le_480 (putI_len b2)) (le_480 (putI_len b3)) (le_480 (putI_len b4)) (le_480 (putI_len b5)) (le_480 (putI_len (by omega))) (le_480 (putI_len (by omega))) (le_480 (putI_len b6)) (le_480 (putI_len b7)) p8 p9 p12
    have := fAll_len h l
    rw [fAll, List.length_append, List.length_cons]
    omega
theorem msgB_len {m : Msg} (h : msgFits m = true) : (msgB m).length ≤ 3000 := by
  have h1 := fAll_len h (fieldsL m.kind).data.toList
  have h2 : (fieldsL m.kind).data.toList.length = (fieldsL m.kind).size := Array.length_toList
  have h3 := fieldsL_six m.kind
  have h4 := putI_len (x := m.kind) (by have := msgFits_kind h; omega)
  unfold msgB
  rw [List.length_append]
  omega
theorem msgPok_fits (m : Msg) : msgPok m = msgFits m := by
  unfold msgPok
  cases h : msgFits m with
  | false => rfl
  | true =>
    have := msgB_len h
    rw [Bool.true_and, decide_eq_true (by omega)]
theorem unseal_seal {u : List UInt8} (hu : u.length ≤ 3000) : unsealB (sealP u) 0 = (u, ((sealP u).length : Int), 0) := by
  have e : sealP u = putI u.length ++ (u ++ sum4 (sumB u)) := by rw [sealP_yes (by omega), List.append_assoc]
  have h1 := getN_put (b := sealP u) (rest := u ++ sum4 (sumB u)) (a := 0) (x := (u.length : Int)) (by omega) (by omega) (by omega) (by rw [e]; rfl)
  have h4 : (sum4 (sumB u)).length = 4 := rfl
  have hl : (sealP u).length = (putI (u.length : Int)).length + (u.length + 4) := by rw [e, List.length_append, List.length_append, h4]
  have d1 : (sealP u).drop (putI (u.length : Int)).length = u ++ sum4 (sumB u) := by rw [e, List.drop_left]
  have e1 : ((sealP u).drop (0 + ((putI (u.length : Int)).length : Int)).toNat).take ((u.length : Int)).toNat = u := by
    rw [show (0 + ((putI (u.length : Int)).length : Int)).toNat = (putI (u.length : Int)).length from by omega, d1, show ((u.length : Int)).toNat = u.length from by omega, List.take_left]
  have e2 : ((sealP u).drop (0 + ((putI (u.length : Int)).length : Int) + (u.length : Int)).toNat).take 4 = sum4 (sumB u) := by
    rw [show (0 + ((putI (u.length : Int)).length : Int) + (u.length : Int)).toNat = (putI (u.length : Int)).length + u.length from by omega, ← List.drop_drop, d1, List.drop_left]
    exact List.take_of_length_le (by rw [h4]; omega)
  rw [unseal_yes (n := (u.length : Int)) (x := 0 + ((putI (u.length : Int)).length : Int)) (by rw [h1]) (by rw [h1]) (by rw [h1]; simp; omega) (by omega) (by rw [e1, e2]), e1]
  refine Prod.ext rfl (Prod.ext ?_ rfl)
  simp only
  omega
theorem read_pack {m : Msg} (h : msgFits m = true) : msgR (msgP m) = (m, 0) := by
  have hl := msgB_len h
  have hu := unseal_seal (u := msgB m) (by omega)
  have hk := msgFits_kind h
  rw [msgP_yes h]
  have e := msgB_spec h
  have hg := getN_put (b := msgB m) (rest := fAllS m (l8F m.kind).data.toList) (a := 0) (x := m.kind) (by omega) (by omega) (by omega) (by rw [e]; rfl)
  have hf := fields_pk (b := msgB m) (rest := []) (fits_pk h) (l8F m.kind).data.toList (kMsg m.kind) (a := 0 + ((putI m.kind).length : Int)) (letters _).1 (fits_cmd h) ⟨by omega, by rw [e, List.length_append]; omega, by rw [e, show (0 + ((putI m.kind).length : Int)).toNat = (putI m.kind).length from by omega, List.drop_left, List.append_nil]⟩
  rw [set_all h] at hf
  have h4 : ¬ (l8F m.kind).toList = [] := by
    have : m.kind = 1 ∨ m.kind = 2 ∨ m.kind = 3 ∨ m.kind = 4 ∨ m.kind = 5 ∨ m.kind = 6 ∨ m.kind = 7 := by omega
    rw [ByteArray.toList_eq]
    rcases this with q | q | q | q | q | q | q <;> rw [q] <;> decide
  refine msgR_0 (b := sealP (msgB m)) (by rw [hu]) (by rw [hu]) (by rw [hu, hg]) (by rw [hu, hg]; exact h4) (a := 0 + ((putI m.kind).length : Int) + ((fAllS m (l8F m.kind).data.toList).length : Int)) (by rw [hu]; simp only [hg]; exact hf) ?_ h
  rw [hu]
  simp only
  rw [e, List.length_append]
  omega
end Go.Sy

