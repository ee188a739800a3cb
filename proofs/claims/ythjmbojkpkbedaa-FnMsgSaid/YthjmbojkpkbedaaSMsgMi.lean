/- One byte turned behind the length is seen; what is read packs to its bytes. -/
import Derived.Test.YthjmbojkpkbedaaSMsgMh
set_option linter.unusedVariables false
set_option linter.unusedSimpArgs false
namespace Go.Sy
def total : List UInt8 → Int
  | [] => 0
  | c :: l => (c.toNat : Int) + total l
theorem sumGo_fst : ∀ (l : List UInt8) (x y : Int), 0 ≤ x ∧ x < 65521 → (sumGo l x y).1 = (x + total l) % 65521
  | [], x, y, h => by simp only [sumGo, total]; omega
  | c :: l, x, y, h => by
    rw [sumGo, sumGo_fst l _ _ (by omega), total]
    omega
theorem total_set : ∀ (l : List UInt8) (j : Nat) (d e : UInt8), l[j]? = some d → total (l.set j e) = total l - (d.toNat : Int) + (e.toNat : Int)
  | [], j, d, e, h => by simp at h
  | c :: l, 0, d, e, h => by
    simp only [List.getElem?_cons_zero, Option.some.injEq] at h
    subst h
    rw [List.set_cons_zero, total, total]
    omega
  | c :: l, j + 1, d, e, h => by
    simp only [List.getElem?_cons_succ] at h
    rw [List.set_cons_succ, total, total, total_set l j d e h]
    omega
theorem sum4_inj {n m : Int} (hn : 0 ≤ n ∧ n ≤ 4294967295) (hm : 0 ≤ m ∧ m ≤ 4294967295) (h : sum4 n = sum4 m) : n = m := by
  have h1 := (sum4_iff (a := u8Of m) (b := u8Of (m / 256)) (c := u8Of (m / 65536)) (d := u8Of (m / 16777216)) hn.1 hn.2).1 h
  have h2 := (sum4_iff (a := u8Of m) (b := u8Of (m / 256)) (c := u8Of (m / 65536)) (d := u8Of (m / 16777216)) hm.1 hm.2).1 rfl
  omega
theorem sum_turned {u : List UInt8} {j : Nat} {d e : UInt8} (hd : u[j]? = some d) (hne : e ≠ d) : ¬ sum4 (sumB (u.set j e)) = sum4 (sumB u) := by
  intro h
  have h1 := sum4_inj (sumB_in _) (sumB_in _) h
  have a1 := sumGo_in (u.set j e) (x := 1) (y := 0) (by omega) (by omega)
  have a2 := sumGo_in u (x := 1) (y := 0) (by omega) (by omega)
  unfold sumB at h1
  have h2 : (sumGo (u.set j e) 1 0).1 = (sumGo u 1 0).1 := by omega
  rw [sumGo_fst _ _ _ (by omega), sumGo_fst _ _ _ (by omega), total_set u j d e hd] at h2
  have hd8 := UInt8.toNat_lt d
  have he8 := UInt8.toNat_lt e
  have : (d.toNat : Int) ≠ (e.toNat : Int) := fun q => hne (UInt8.toNat_inj.1 (by omega))
  omega
theorem set_ne {l : List UInt8} {j : Nat} {d e : UInt8} (hd : l[j]? = some d) (hne : e ≠ d) : l.set j e ≠ l := by
  intro h
  have hlt := (List.getElem?_eq_some_iff.1 hd).1
  have : (l.set j e)[j]? = some e := by rw [List.getElem?_set, if_pos rfl, if_pos hlt]
  rw [h, hd] at this
  exact hne (Option.some.inj this).symm
theorem unseal_turned {u : List UInt8} (hu : u.length ≤ 3000) {i : Nat} {d e : UInt8} (hi : (putI (u.length : Int)).length ≤ i) (hd : (sealP u)[i]? = some d) (hne : e ≠ d) : (unsealB ((sealP u).set i e) 0).2.2 = 3 := by
  have e0 : sealP u = putI u.length ++ (u ++ sum4 (sumB u)) := by rw [sealP_yes (by omega), List.append_assoc]
  have h4 : (sum4 (sumB u)).length = 4 := rfl
  obtain ⟨j, rfl⟩ : ∃ j, i = (putI (u.length : Int)).length + j := ⟨i - (putI (u.length : Int)).length, by omega⟩
  have hd' : (u ++ sum4 (sumB u))[j]? = some d := by
    rw [e0, List.getElem?_append_right (by omega)] at hd
    rw [← hd]; congr 1; omega
  have e1 : (sealP u).set ((putI (u.length : Int)).length + j) e = putI u.length ++ (u ++ sum4 (sumB u)).set j e := by
    rw [e0, List.set_append_right _ _ (by omega)]
    congr 2; omega
  rw [e1]
  generalize hR : (u ++ sum4 (sumB u)).set j e = R
  have hl : R.length = u.length + 4 := by rw [← hR, List.length_set, List.length_append, h4]
  have h1 := getN_put (b := putI u.length ++ R) (rest := R) (a := 0) (x := (u.length : Int)) (by omega) (by omega) (by omega) rfl
  have d1 : (putI u.length ++ R).drop (putI (u.length : Int)).length = R := by rw [List.drop_left]
  have e2 : ((putI u.length ++ R).drop (0 + ((putI (u.length : Int)).length : Int)).toNat).take ((u.length : Int)).toNat = R.take u.length := by
    rw [show (0 + ((putI (u.length : Int)).length : Int)).toNat = (putI (u.length : Int)).length from by omega, d1, show ((u.length : Int)).toNat = u.length from by omega]
  have e3 : ((putI u.length ++ R).drop (0 + ((putI (u.length : Int)).length : Int) + (u.length : Int)).toNat).take 4 = R.drop u.length := by
    rw [show (0 + ((putI (u.length : Int)).length : Int) + (u.length : Int)).toNat = (putI (u.length : Int)).length + u.length from by omega, ← List.drop_drop, d1]
    exact List.take_of_length_le (by rw [List.length_drop]; omega)
  rw [unseal_sum (n := (u.length : Int)) (x := 0 + ((putI (u.length : Int)).length : Int)) (by rw [h1]) (by rw [h1]) (by rw [h1]; simp; omega) (by rw [List.length_append]; omega) ?_]
  rw [e2, e3, ← hR]
  by_cases hj : j < u.length
  · rw [List.set_append_left _ _ hj, List.take_left' (by simp), List.drop_left' (by simp)]
    rw [List.getElem?_append_left hj] at hd'
    exact sum_turned hd' hne
  · rw [List.set_append_right _ _ (by omega), List.take_left, List.drop_left]
    rw [List.getElem?_append_right (by omega)] at hd'
    exact fun q => set_ne hd' hne q.symm
theorem read_turned {m : Msg} (h : msgFits m = true) {i : Nat} {d e : UInt8} (hi : (putI ((msgB m).length : Int)).length ≤ i) (hd : (msgP m)[i]? = some d) (hne : e ≠ d) : msgR ((msgP m).set i e) = (zMsg, 1) := by
  have hl := msgB_len h
  rw [msgP_yes h] at hd ⊢
  have := unseal_turned (u := msgB m) hl hi hd hne
  exact msgR_1 (.inl (by rw [this]; omega))
theorem unseal_un {b : List UInt8} (h : (unsealB b 0).2.2 = 0) (ha : (unsealB b 0).2.1 = b.length) : b = sealP (unsealB b 0).1 ∧ (unsealB b 0).1.length ≤ 3000 := by
  have hn := getN_num b (at_ := 0)
  have hl := unsealB_len b 0
  refine ⟨?_, hl⟩
  unfold unsealB at h ha hl ⊢
  by_cases c1 : (getN b 0).2.2 = false ∨ (getN b 0).1 > 3000
  · rw [if_pos c1] at h; simp at h
  rw [if_neg c1] at h ha hl ⊢
  by_cases c2 : (getN b 0).1 + 4 > (b.length : Int) - (getN b 0).2.1
  · rw [if_pos c2] at h; simp at h
  rw [if_neg c2] at h ha hl ⊢
  by_cases c3 : sum4 (sumB ((b.drop (getN b 0).2.1.toNat).take (getN b 0).1.toNat)) = (b.drop ((getN b 0).2.1 + (getN b 0).1).toNat).take 4
  case neg => rw [if_neg c3] at h; simp at h
  rw [if_pos c3] at ha hl ⊢
  simp only at ha hl ⊢
  have h1 : (getN b 0).2.2 = true := by
    cases hg : (getN b 0).2.2 with
    | true => rfl
    | false => exact absurd (Or.inl hg) c1
  have u1 := (num_un h1).2.2
  generalize hx : (getN b 0).2.1 = x at *
  generalize hv : (getN b 0).1 = n at *
  have e2 : (b.drop (x + n).toNat).take 4 = b.drop (x + n).toNat := List.take_of_length_le (by rw [List.length_drop]; omega)
  have e3 : ((((b.drop x.toNat).take n.toNat).length : Nat) : Int) = n := by rw [List.length_take, List.length_drop]; omega
  rw [sealP_yes (by omega), c3, e2, e3, List.append_assoc, show (x + n).toNat = x.toNat + n.toNat from by omega, ← List.drop_drop, List.take_append_drop]
  exact u1
theorem letters_nodup (k : Int) : (l8F k).data.toList.Nodup := by
  by_cases h : inR k 1 7 = true
  · have hk := inR_iff.1 h
    have : k = 1 ∨ k = 2 ∨ k = 3 ∨ k = 4 ∨ k = 5 ∨ k = 6 ∨ k = 7 := by omega
    rcases this with e | e | e | e | e | e | e <;> subst e <;> decide
  · have h1 : l8F k = ⟨#[]⟩ := by unfold l8F; rw [if_neg h]
    rw [h1]
    exact List.nodup_nil
theorem pack_read {b : List UInt8} : ((msgR b).2 = 0 → msgFits (msgR b).1 = true ∧ msgP (msgR b).1 = b) ∧ ((msgR b).2 ≠ 0 → (msgR b).1 = zMsg) := by
  by_cases h1 : (unsealB b 0).2.2 = 0
  case neg => rw [msgR_1 (.inl h1)]; simp
  by_cases h2 : (unsealB b 0).2.1 = (b.length : Int)
  case neg => rw [msgR_1 (.inr h2)]; simp
  by_cases h3 : (getN (unsealB b 0).1 0).2.2 = true
  case neg => rw [msgR_2 h1 h2 (.inl (by simpa using h3))]; simp
  by_cases h4 : (l8F (getN (unsealB b 0).1 0).1).toList = []
  · rw [msgR_2 h1 h2 (.inr h4)]; simp
  cases hf : fieldsS (unsealB b 0).1 (l8F (getN (unsealB b 0).1 0).1).data.toList (kMsg (getN (unsealB b 0).1 0).1) (getN (unsealB b 0).1 0).2.1 with
  | none => rw [msgR_3 h1 h2 h3 h4 hf]; simp
  | some p =>
    obtain ⟨m, a⟩ := p
    by_cases h5 : a < ((unsealB b 0).1.length : Int)
    · rw [msgR_4 h1 h2 h3 h4 hf h5]; simp
    cases h6 : msgFits m with
    | false => rw [msgR_5 h1 h2 h3 h4 hf h5 h6]; simp
    | true =>
      rw [msgR_0 h1 h2 h3 h4 hf h5 h6]
      refine ⟨fun _ => ⟨h6, ?_⟩, fun q => absurd rfl q⟩
      have hn := getN_num (unsealB b 0).1 (at_ := 0)
      have u0 := num_un h3
      obtain ⟨u1, k1, _⟩ := fields_un _ _ _ (letters _).1 (letters_nodup _) (by omega) hf
      have hk : m.kind = (getN (unsealB b 0).1 0).1 := k1
      have u2 := u0.app u1
      rw [← hk] at u2
      have hb := unseal_un h1 h2
      have e : (unsealB b 0).1 = msgB m := by
        rw [msgB_spec h6]
        have e1 := u2.2.2
        rw [List.drop_of_length_le (i := a.toNat) (by omega), List.append_nil] at e1
        exact e1
      rw [msgP_yes h6, ← e]
      exact hb.1.symm
theorem sealP_pos {b : List UInt8} (h : b.length ≤ 3000) : 0 < (sealP b).length := by
  rw [sealP_yes (by omega), List.length_append]
  have h4 : (sum4 (sumB b)).length = 4 := rfl
  omega
theorem msgP_pos {m : Msg} (h : msgPok m = true) : 0 < (msgP m).length := by
  rw [msgPok_fits] at h
  rw [msgP_yes h]
  exact sealP_pos (msgB_len h)
theorem head_eq {m : Msg} (h : msgFits m = true) : getN (msgP m) 0 = (((msgB m).length : Int), ((putI ((msgB m).length : Int)).length : Int), true) ∧ (putI ((msgB m).length : Int)).length < (msgP m).length := by
  have hl := msgB_len h
  have e0 : msgP m = putI (msgB m).length ++ (msgB m ++ sum4 (sumB (msgB m))) := by rw [msgP_yes h, sealP_yes (by omega), List.append_assoc]
  have h4 : (sum4 (sumB (msgB m))).length = 4 := rfl
  have := getN_put (b := msgP m) (rest := msgB m ++ sum4 (sumB (msgB m))) (a := 0) (x := ((msgB m).length : Int)) (by omega) (by omega) (by omega) (by rw [e0]; rfl)
  refine ⟨by rw [this]; refine Prod.ext rfl (Prod.ext ?_ rfl); simp only; omega, ?_⟩
  rw [e0, List.length_append, List.length_append]
  omega
theorem xor_u8 (a b : UInt8) : bitI .xor .u8 (a.toNat : Int) (b.toNat : Int) = some ((a ^^^ b).toNat : Int) := by
  have ha := UInt8.toNat_lt a
  have hb := UInt8.toNat_lt b
  have e1 : (BitVec.ofInt 8 (a.toNat : Int)).toNat = a.toNat := by rw [BitVec.ofInt_natCast, BitVec.toNat_ofNat]; omega
  have e2 : (BitVec.ofInt 8 (b.toNat : Int)).toNat = b.toNat := by rw [BitVec.ofInt_natCast, BitVec.toNat_ofNat]; omega
  have e3 : bitI .xor .u8 (a.toNat : Int) (b.toNat : Int) = some (IntKind.u8.wrap (((BitVec.ofInt 8 (a.toNat : Int) ^^^ BitVec.ofInt 8 (b.toNat : Int)).toNat : Nat) : Int)) := rfl
  rw [e3, BitVec.toNat_xor, e1, e2, UInt8.toNat_xor]
  have h8 : a.toNat ^^^ b.toNat < 2 ^ 8 := Nat.xor_lt_two_pow ha hb
  congr 1
  simp [IntKind.wrap, IntKind.bits, IntKind.signed]
  omega
theorem xor_ne {a b : UInt8} (h : b ≠ 0) : a ^^^ b ≠ a := by
  intro e
  apply h
  have : a ^^^ (a ^^^ b) = a ^^^ a := by rw [e]
  rw [← UInt8.xor_assoc, UInt8.xor_self, UInt8.zero_xor] at this
  exact this
theorem u8_pos {x : Int} (h0 : 1 ≤ x) (h1 : x ≤ 255) : u8Of x ≠ 0 := by
  intro e
  have := u8Of_toNat (x := x) (by omega) h1
  rw [e] at this
  have : ((0 : UInt8).toNat : Int) = 0 := rfl
  omega
end Go.Sy

