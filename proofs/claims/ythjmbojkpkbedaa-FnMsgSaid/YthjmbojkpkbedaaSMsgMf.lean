/- What is read packs to just its bytes. -/
import Derived.Test.YthjmbojkpkbedaaSMsgMe
set_option linter.unusedVariables false
set_option linter.unusedSimpArgs false
namespace Go.Sy
def Un (b : List UInt8) (a : Int) (x : List UInt8) (a' : Int) : Prop := 0 ≤ a ∧ a' = a + (x.length : Int) ∧ b.drop a.toNat = x ++ b.drop a'.toNat
theorem Un.app {b x y : List UInt8} {a a' a'' : Int} (h : Un b a x a') (h2 : Un b a' y a'') : Un b a (x ++ y) a'' := by
  obtain ⟨h0, h1, e1⟩ := h
  obtain ⟨h3, h4, e2⟩ := h2
  exact ⟨h0, by rw [List.length_append]; omega, by rw [e1, e2, List.append_assoc]⟩
theorem Un.nil {b : List UInt8} {a : Int} (h : 0 ≤ a) : Un b a [] a := ⟨h, by simp, rfl⟩
theorem num_un {b : List UInt8} {a : Int} (h : (getN b a).2.2 = true) : Un b a (putI (getN b a).1) (getN b a).2.1 := by
  have := getN_unput (b := b) (a := a) (x := (getN b a).1) (a' := (getN b a).2.1) (by rw [← h])
  exact ⟨this.1, this.2.2.1, this.2.2.2⟩
theorem sub_un {b : List UInt8} {a n : Int} (h0 : 0 ≤ a) (hn : 0 ≤ n) (hl : n ≤ (b.length : Int) - a) : Un b a (subB b a n).data.toList (a + n) ∧ (subB b a n).size = n := by
  have e : (subB b a n).data.toList = (b.drop a.toNat).take n.toNat := rfl
  have hz : (((b.drop a.toNat).take n.toNat).length : Int) = n := by rw [List.length_take, List.length_drop]; omega
  refine ⟨⟨h0, by rw [e]; omega, ?_⟩, ?_⟩
  · rw [e, show (a + n).toNat = a.toNat + n.toNat from by omega, ← List.drop_drop, List.take_append_drop]
  · show ((strOf ((b.drop a.toNat).take n.toNat)).size : Int) = n
    rw [strOf_size]; exact hz
theorem text_un {b : List UInt8} {a : Int} (h : (textS b a).2.2 = true) : Un b a (putT (textS b a).1) (textS b a).2.1 := by
  have hn := getN_num b (at_ := a)
  unfold textS at *
  split at h
  · simp at h
  · rename_i hc
    rw [if_neg hc]
    have h1 : (getN b a).2.2 = true := by
      cases hg : (getN b a).2.2 with
      | true => rfl
      | false => exact absurd (Or.inl hg) hc
    have h2 : ¬ (getN b a).1 > 3000 := fun q => hc (.inr (.inl q))
    have h3 : ¬ (getN b a).1 > (b.length : Int) - (getN b a).2.1 := fun q => hc (.inr (.inr q))
    have hs := sub_un (b := b) (a := (getN b a).2.1) (n := (getN b a).1) (by omega) (by omega) (by omega)
    dsimp only
    rw [putT_yes (by rw [hs.2]; exact h2), hs.2]
    exact (num_un h1).app hs.1
theorem cmd0_un {b : List UInt8} {a : Int} (h1 : (getN b a).2.2 = true) (h2 : (getN b a).1 ≠ 1) (h : (cmdS0 b a).2.2 = true) (hok : cmdOk (cmdS0 b a).1 = true) : Un b a (cmdB (cmdS0 b a).1) (cmdS0 b a).2.1 := by
  have n0 := getN_num b (at_ := a)
  have n1 := getN_num b (at_ := (getN b a).2.1)
  have n2 := getN_num b (at_ := (getN b (getN b a).2.1).2.1)
  have u0 := num_un h1
  unfold cmdS0 at *
  simp only at *
  by_cases l : (getN b (getN b a).2.1).2.2 = false
  · rw [if_pos l] at h; cases h
  rw [if_neg l] at h hok ⊢
  have u1 := u0.app (num_un (by simpa using l))
  by_cases h3 : (getN b a).1 = 3
  · rw [if_pos h3] at h hok ⊢
    have u2 := u1.app (num_un h)
    unfold cmdB
    simp only
    rw [if_neg h2, if_pos h3, ← List.append_assoc]
    exact u2
  rw [if_neg h3] at h hok ⊢
  by_cases h4 : (getN b a).1 = 2
  · rw [if_pos h4] at h hok ⊢
    by_cases d : (getN b (getN b (getN b a).2.1).2.1).2.2 = true ∧ (b.length : Int) - (getN b (getN b (getN b a).2.1).2.1).2.1 ≥ 32
    · rw [if_pos d] at h hok ⊢
      have u2 := (u1.app (num_un d.1)).app (sub_un (b := b) (a := (getN b (getN b (getN b a).2.1).2.1).2.1) (n := 32) (by omega) (by omega) (by omega)).1
      unfold cmdB
      simp only
      rw [if_neg h2, if_neg h3, if_pos h4]
      simp only [List.append_assoc] at u2 ⊢
      exact u2
    · rw [if_neg d] at hok
      rw [cmdOk_small h4 rfl] at hok
      cases hok
  · rw [if_neg h4] at h hok ⊢
    unfold cmdB
    simp only
    rw [if_neg h2, if_neg h3, if_neg h4, List.append_nil]
    exact u1
theorem cmd_un {b : List UInt8} {a : Int} (h : (cmdS b a).2.2 = true) : cmdOk (cmdS b a).1 = true ∧ Un b a (cmdP (cmdS b a).1) (cmdS b a).2.1 := by
  unfold cmdS at *
  by_cases c1 : (getN b a).2.2 = false ∨ inR (getN b a).1 1 5 = false
  · rw [if_pos c1] at h; cases h
  rw [if_neg c1] at h ⊢
  have h1 : (getN b a).2.2 = true := by
    cases hg : (getN b a).2.2 with
    | true => rfl
    | false => exact absurd (Or.inl hg) c1
  by_cases c2 : (getN b a).1 = 1
  · rw [if_pos c2]
    have ok : cmdOk ⟨(getN b a).1, 0, 0, 0, ⟨#[]⟩⟩ = true := by
      rw [c2]
      unfold cmdOk
      simp [noBytes]
    refine ⟨ok, ?_⟩
    rw [cmdP_yes ok]
    unfold cmdB
    simp only
    rw [if_pos c2, List.append_nil]
    exact num_un h1
  rw [if_neg c2] at h ⊢
  by_cases c3 : (cmdS0 b a).2.2 = false ∨ cmdOk (cmdS0 b a).1 = false
  · rw [if_pos c3] at h; cases h
  rw [if_neg c3] at h ⊢
  have ok : cmdOk (cmdS0 b a).1 = true := by
    cases hg : cmdOk (cmdS0 b a).1 with
    | true => rfl
    | false => exact absurd (Or.inr hg) c3
  exact ⟨ok, by rw [cmdP_yes ok]; exact cmd0_un h1 c2 h ok⟩
theorem entsGo_un {b : List UInt8} : ∀ (n : Nat) {a : Int} (l : List Ent), 0 ≤ a → (entsSGo b n a l).2.2 = true → ∃ r, (entsSGo b n a l).1 = l ++ r ∧ r.length = n ∧ Un b a (entsB r) (entsSGo b n a l).2.1
  | 0, a, l, h0, h => ⟨[], by simp [entsSGo], rfl, Un.nil h0⟩
  | n + 1, a, l, h0, h => by
    rw [entsSGo] at h ⊢
    by_cases c1 : (getN b a).2.2 = false
    · rw [if_pos c1] at h; cases h
    rw [if_neg c1] at h ⊢
    by_cases c2 : (cmdS b (getN b a).2.1).2.2 = false
    · rw [if_pos c2] at h; cases h
    rw [if_neg c2] at h ⊢
    have u1 := num_un (b := b) (a := a) (by simpa using c1)
    have u2 := (cmd_un (b := b) (a := (getN b a).2.1) (by simpa using c2)).2
    have h3 : 0 ≤ (cmdS b (getN b a).2.1).2.1 := by have := u2.2.1; have := u2.1; omega
    obtain ⟨r, e1, e2, e3⟩ := entsGo_un n _ h3 h
    refine ⟨⟨(getN b a).1, (cmdS b (getN b a).2.1).1⟩ :: r, by rw [e1]; simp, by simp [e2], ?_⟩
    rw [entsB]
    exact u1.app (u2.app e3)
theorem ents_un {b : List UInt8} {a : Int} (h : (entsS b a).2.2 = true) : Un b a (packE (entsS b a).1) (entsS b a).2.1 := by
  have hn := getN_num b (at_ := a)
  unfold entsS at *
  by_cases c1 : (getN b a).2.2 = false ∨ (getN b a).1 > 6
  · rw [if_pos c1] at h; cases h
  rw [if_neg c1] at h ⊢
  have h1 : (getN b a).2.2 = true := by
    cases hg : (getN b a).2.2 with
    | true => rfl
    | false => exact absurd (Or.inl hg) c1
  obtain ⟨r, e1, e2, e3⟩ := entsGo_un (b := b) _ [] (by omega) h
  rw [e1, List.nil_append]
  unfold packE
  rw [e2, Int.toNat_of_nonneg hn.1.1]
  exact (num_un h1).app e3
theorem field_un {b : List UInt8} {a : Int} (m : Msg) {c : UInt8} (hc : Letter c) (h : (fieldS m c.toNat b a).2.2 = true) : Un b a (fByteS (fieldS m c.toNat b a).1 c.toNat) (fieldS m c.toNat b a).2.1 := by
  rcases hc with e | e | e | e | e | e | e | e | e | e | e <;> subst e
  · exact num_un h
  · exact num_un h
  · exact num_un h
  · exact num_un h
  · exact num_un h
  · have h' : ((getN b a).2.2 && decide ((getN b a).1 < 2)) = true := h
    rw [Bool.and_eq_true, decide_eq_true_eq] at h'
    have hn := getN_num b (at_ := a)
    have u := num_un h'.1
    show Un b a (if ((getN b a).1 == 1) = true then [1] else [0]) (getN b a).2.1
    have : (getN b a).1 = 0 ∨ (getN b a).1 = 1 := by omega
    rcases this with e | e <;> rw [e] at u ⊢
    · rw [putI_zero] at u; exact u
    · rw [putI_one] at u; exact u
  · exact num_un h
  · exact num_un h
  · exact text_un h
  · exact (cmd_un h).2
  · exact ents_un h
theorem u8_ne {c' : UInt8} {n : Int} {c : UInt8} (hn : (c.toNat : Int) = n) (h : c' ≠ c) : ¬ (c'.toNat : Int) = n := fun q => h (UInt8.toNat_inj.1 (by omega))
theorem field_other {b : List UInt8} {a : Int} (m : Msg) {c c' : UInt8} (hc : Letter c) (hne : c' ≠ c) (h120 : c' ≠ 120) : fByteS (fieldS m c.toNat b a).1 c'.toNat = fByteS m c'.toNat := by
  rcases hc with e | e | e | e | e | e | e | e | e | e | e <;> subst e
  · have hk := u8_ne (n := 102) rfl hne
    show fByteS { m with from_ := _ } _ = _
    unfold fByteS
    rw [if_neg hk, if_neg hk]
  · have hk := u8_ne (n := 116) rfl hne
    show fByteS { m with term := _ } _ = _
    unfold fByteS
    rw [if_neg hk, if_neg hk]
  · have hk := u8_ne (n := 97) rfl hne
    show fByteS { m with at_ := _ } _ = _
    unfold fByteS
    rw [if_neg hk, if_neg hk]
  · have hk := u8_ne (n := 115) rfl hne
    show fByteS { m with atTerm := _ } _ = _
    unfold fByteS
    rw [if_neg hk, if_neg hk]
  · have hk := u8_ne (n := 99) rfl hne
    show fByteS { m with commit := _ } _ = _
    unfold fByteS
    rw [if_neg hk, if_neg hk]
  · have hk := u8_ne (n := 121) rfl hne
    show fByteS { m with yes := _ } _ = _
    unfold fByteS
    rw [if_neg hk, if_neg hk]
  · have hk := u8_ne (n := 114) rfl hne
    show fByteS { m with release := _ } _ = _
    unfold fByteS
    rw [if_neg hk, if_neg hk]
  · have hk := u8_ne (n := 112) rfl hne
    show fByteS { m with part := _ } _ = _
    unfold fByteS
    rw [if_neg hk, if_neg hk]
  · have hk := u8_ne (n := 98) rfl hne
    show fByteS { m with bytes := _ } _ = _
    unfold fByteS
    rw [if_neg hk, if_neg hk]
  · have hk := u8_ne (n := 100) rfl hne
    show fByteS { m with cmd := _ } _ = _
    unfold fByteS
    rw [if_neg hk, if_neg hk]
  · have hk := u8_ne (n := 101) rfl hne
    show fByteS { m with entries := _ } _ = _
    unfold fByteS
    rw [if_neg hk, if_neg hk]
theorem field_kind {b : List UInt8} {a : Int} (m : Msg) {c : UInt8} (hc : Letter c) : (fieldS m c.toNat b a).1.kind = m.kind := by
  rcases hc with e | e | e | e | e | e | e | e | e | e | e <;> subst e <;> rfl
theorem letter_ne {c : UInt8} (hc : Letter c) : c ≠ 120 := by
  rcases hc with e | e | e | e | e | e | e | e | e | e | e <;> subst e <;> decide
theorem fields_un {b : List UInt8} : ∀ (l : List UInt8) (m : Msg) (a : Int) {m' : Msg} {a' : Int}, (∀ c ∈ l, Letter c) → l.Nodup → 0 ≤ a → fieldsS b l m a = some (m', a') → Un b a (fAllS m' l) a' ∧ m'.kind = m.kind ∧ ∀ c', Letter c' → c' ∉ l → fByteS m' c'.toNat = fByteS m c'.toNat
  | [], m, a, m', a', _, _, h0, h => by
    simp only [fieldsS, Option.some.injEq, Prod.mk.injEq] at h
    obtain ⟨rfl, rfl⟩ := h
    exact ⟨Un.nil h0, rfl, fun _ _ _ => rfl⟩
  | c :: l, m, a, m', a', hc, hd, h0, h => by
    rw [fieldsS] at h
    split at h
    · cases h
    · rename_i hs
      have hL := hc c (by simp)
      have u1 := field_un m hL (by simpa using hs)
      have h1 : 0 ≤ (fieldS m c.toNat b a).2.1 := by have := u1.2.1; omega
      obtain ⟨u2, k2, o2⟩ := fields_un l _ _ (fun x hx => hc x (by simp [hx])) (List.nodup_cons.1 hd).2 h1 h
      refine ⟨?_, by rw [k2, field_kind m hL], fun c' hl hn => ?_⟩
      · rw [fAllS, o2 c hL (List.nodup_cons.1 hd).1]
        exact u1.app u2
      · rw [o2 c' hl (fun q => hn (by simp [q])), field_other m hL (fun q => hn (by simp [q])) (letter_ne hl)]
end Go.Sy

