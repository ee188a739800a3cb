/- Messages out of bytes: the two readers answer alike. -/
import Derived.Test.YthjmbojkpkbedaaSMsgMc
set_option linter.unusedVariables false
set_option linter.unusedSimpArgs false
namespace Go.Sy
def sw (c : UInt8) : UInt8 := if c = 115 then 120 else c
def Letter (c : UInt8) : Prop := c = 102 ∨ c = 116 ∨ c = 97 ∨ c = 115 ∨ c = 99 ∨ c = 121 ∨ c = 114 ∨ c = 112 ∨ c = 98 ∨ c = 100 ∨ c = 101
theorem agree_map {α β : Type} {q : Rd} {r : Rd × α} {s : α × Int × Bool} (g : α → β) (h : Agree q r s) : Agree q (r.1, g r.2) (g s.1, s.2.1, s.2.2) := by
  unfold Agree at *
  split at h
  · rename_i c
    rw [if_pos c, h.1]
    exact ⟨rfl, h.2.1, h.2.2⟩
  · rename_i c
    rw [if_neg c]
    exact h
theorem field_agree {q : Rd} (m : Msg) {c : UInt8} (hc : Letter c) (hq : RdOk q) (hb : q.bad = false) : Agree q (rdField q m (sw c).toNat) (fieldS m c.toNat q.b q.at_) := by
  have hn := num_agree hb
  rcases hc with h | h | h | h | h | h | h | h | h | h | h <;> subst h
  · exact agree_map (fun x => ({ m with from_ := x } : Msg)) hn
  · exact agree_map (fun x => ({ m with term := x } : Msg)) hn
  · exact agree_map (fun x => ({ m with at_ := x } : Msg)) hn
  · exact agree_map (fun x => ({ m with atTerm := x } : Msg)) hn
  · exact agree_map (fun x => ({ m with commit := x } : Msg)) hn
  · show Agree q (⟨(rdNum q).1.b, (rdNum q).1.at_, (rdNum q).1.bad || decide ((rdNum q).2 > 1)⟩, { m with yes := (rdNum q).2 == 1 }) ({ m with yes := (getN q.b q.at_).1 == 1 }, (getN q.b q.at_).2.1, (getN q.b q.at_).2.2 && decide ((getN q.b q.at_).1 < 2))
    unfold Agree at hn
    split at hn
    · rename_i c
      rw [hn.1, c]
      by_cases h2 : (getN q.b q.at_).1 < 2
      · rw [decide_eq_true h2, decide_eq_false (by omega)]
        exact agree_yes rfl hn.2.1 hn.2.2
      · rw [decide_eq_false h2, decide_eq_true (by omega)]
        exact agree_no rfl
    · rename_i c
      rw [show (getN q.b q.at_).2.2 = false by simpa using c, Bool.false_and]
      exact agree_no (by simp [hn])
  · exact agree_map (fun x => ({ m with release := x } : Msg)) hn
  · exact agree_map (fun x => ({ m with part := x } : Msg)) hn
  · exact agree_map (fun x => ({ m with bytes := x } : Msg)) (text_agree hq hb)
  · exact agree_map (fun x => ({ m with cmd := x } : Msg)) (cmd_agree hq hb)
  · exact agree_map (fun x => ({ m with entries := x } : Msg)) (ents_agree hq hb)
theorem fields_agree : ∀ (l : List UInt8) {q : Rd} (m : Msg), (∀ c ∈ l, Letter c) → RdOk q → q.bad = false →
    match fieldsS q.b l m q.at_ with
    | none => (rdFields (l.map sw) q m).1.bad = true
    | some (m', a) => rdFields (l.map sw) q m = (⟨q.b, a, false⟩, m') ∧ 0 ≤ a ∧ a ≤ q.b.length
  | [], q, m, _, hq, hb => by
    rw [fieldsS]
    exact ⟨by rw [List.map_nil, rdFields, ← hb], hq.2.1, hq.2.2⟩
  | c :: l, q, m, hc, hq, hb => by
    rw [fieldsS, List.map_cons, rdFields]
    have h1 := field_agree m (hc c (by simp)) hq hb
    unfold Agree at h1
    split at h1
    · rename_i hs
      rw [if_neg (by simp [hs]), h1.1]
      exact fields_agree l (q := ⟨q.b, _, false⟩) _ (fun x hx => hc x (by simp [hx])) ⟨hq.1, h1.2.1, h1.2.2⟩ rfl
    · rename_i hs
      rw [if_pos (by simpa using hs)]
      exact rdFields_bad _ h1
theorem letters (k : Int) : (∀ c ∈ (l8F k).data.toList, Letter c) ∧ (fieldsL k).data.toList = (l8F k).data.toList.map sw := by
  by_cases h : inR k 1 7 = true
  · have hk := inR_iff.1 h
    have : k = 1 ∨ k = 2 ∨ k = 3 ∨ k = 4 ∨ k = 5 ∨ k = 6 ∨ k = 7 := by omega
    rcases this with e | e | e | e | e | e | e <;> subst e <;> simp [l8F, l8L, inR, fieldsL, sw, Letter]
  · have h1 : l8F k = ⟨#[]⟩ := by unfold l8F; rw [if_neg h]
    have h2 : fieldsL k = ⟨#[]⟩ := by
      have : ¬ (1 ≤ k ∧ k ≤ 7) := fun q => h (inR_iff.2 q)
      unfold fieldsL
      repeat rw [if_neg (by omega)]
    rw [h1, h2]
    simp
theorem noF (k : Int) : ((fieldsL k).toList = []) = ((l8F k).toList = []) := by
  rw [ByteArray.toList_eq, ByteArray.toList_eq, (letters k).2]
  simp
def msgRI (b : List UInt8) : Msg × Int :=
  if (unsealB b 0).2.2 ≠ 0 ∨ (unsealB b 0).2.1 ≠ (b.length : Int) then (zMsg, 1) else
  let k := rdNum ⟨(unsealB b 0).1, 0, false⟩
  if k.1.bad = true ∨ (fieldsL k.2).toList = [] then (zMsg, 2) else
  let r := rdFields (fieldsL k.2).data.toList k.1 (kMsg k.2)
  if r.1.bad = true then (zMsg, 3) else if ¬ r.1.at_ = (r.1.b.length : Int) then (zMsg, 4) else if msgFits r.2 = false then (zMsg, 5) else (r.2, 0)
theorem unsealB_len (b : List UInt8) (a : Int) : (unsealB b a).1.length ≤ 3000 := by
  unfold unsealB
  split
  · simp
  · split
    · simp
    · split
      · rename_i h _ _
        rw [List.length_take]
        have : ¬ (getN b a).1 > 3000 := fun q => h (.inr q)
        omega
      · simp
theorem msgRI_eq (b : List UInt8) : msgRI b = msgR b := by
  unfold msgRI msgR
  simp only
  by_cases h1 : (unsealB b 0).2.2 ≠ 0 ∨ (unsealB b 0).2.1 ≠ (b.length : Int)
  · rw [if_pos h1, if_pos h1]
  rw [if_neg h1, if_neg h1]
  have hl := unsealB_len b 0
  generalize (unsealB b 0).1 = u at *
  have hq : RdOk ⟨u, 0, false⟩ := ⟨by dsimp only; omega, by dsimp only; omega, by dsimp only; omega⟩
  have hk := num_agree (q := ⟨u, 0, false⟩) rfl
  unfold Agree at hk
  dsimp only at hk
  split at hk
  · rename_i c
    rw [hk.1]
    dsimp only
    by_cases h2 : (l8F (getN u 0).1).toList = []
    · rw [if_pos (Or.inr (by rw [noF]; exact h2)), if_pos (Or.inr h2)]
    rw [if_neg (show ¬ ((false : Bool) = true ∨ (fieldsL (getN u 0).1).toList = []) from by rw [noF]; simp [h2]), if_neg (show ¬ ((getN u 0).2.2 = false ∨ (l8F (getN u 0).1).toList = []) from by simp [c, h2])]
    have hf := fields_agree (l8F (getN u 0).1).data.toList (q := ⟨u, (getN u 0).2.1, false⟩) (kMsg (getN u 0).1) (letters _).1 ⟨hq.1, hk.2.1, hk.2.2⟩ rfl
    rw [(letters _).2]
    dsimp only at hf
    split at hf
    · rename_i hs
      rw [hs, if_pos hf, msgEnd]
    · rename_i m' a hs
      rw [hs, hf.1, msgEnd]
      dsimp only
      rw [if_neg (show ¬ ((false : Bool) = true) from Bool.false_ne_true)]
      by_cases h4 : a < (u.length : Int)
      · rw [if_pos (show ¬ a = (u.length : Int) from by omega), if_pos h4]
      · rw [if_neg (show ¬ ¬ a = (u.length : Int) from by omega), if_neg h4]
  · rename_i c
    rw [if_pos (Or.inl hk), if_pos (Or.inl (by simpa using c))]
theorem unseal_bad {b : List UInt8} {a : Int} (h : (getN b a).2.2 = false ∨ (getN b a).1 > 3000) : unsealB b a = ([], 0, 1) := by unfold unsealB; rw [if_pos h]
theorem unseal_short {b : List UInt8} {a : Int} (h : ¬ ((getN b a).2.2 = false ∨ (getN b a).1 > 3000)) (h2 : (getN b a).1 + 4 > (b.length : Int) - (getN b a).2.1) : unsealB b a = ([], 0, 2) := by unfold unsealB; rw [if_neg h, if_pos h2]
theorem strOf_list (l : List UInt8) : (strOf l).toList = l := by rw [ByteArray.toList_eq]; rfl
theorem u8Of_iff {x : Int} {e : UInt8} : u8Of x = e ↔ x % 256 = (e.toNat : Int) := by
  have h1 : (x % 256).toNat < 256 := by omega
  constructor
  · intro h
    rw [← h]
    unfold u8Of
    rw [UInt8.toNat_ofNat_of_lt' h1]
    omega
  · intro h
    unfold u8Of
    rw [h]
    simp
theorem quad {l : List UInt8} {a b c d : UInt8} (hl : l.length = 4) (h0 : l[0]? = some a) (h1 : l[1]? = some b) (h2 : l[2]? = some c) (h3 : l[3]? = some d) : l = [a, b, c, d] := by
  match l, hl with
  | [x, y, z, w], _ => simp_all
theorem sum4_iff {n : Int} {a b c d : UInt8} (h0 : 0 ≤ n) (h1 : n ≤ 4294967295) : sum4 n = [a, b, c, d] ↔ n = (a.toNat : Int) + (b.toNat : Int) * 256 + (c.toNat : Int) * 65536 + (d.toNat : Int) * 16777216 := by
  have ha := UInt8.toNat_lt a
  have hb := UInt8.toNat_lt b
  have hc := UInt8.toNat_lt c
  have hd := UInt8.toNat_lt d
  unfold sum4
  simp only [List.cons.injEq, and_true, u8Of_iff]
  omega
theorem unseal_sum {b : List UInt8} {a n x : Int} (en : (getN b a).1 = n) (ex : (getN b a).2.1 = x) (h : ¬ ((getN b a).2.2 = false ∨ n > 3000)) (h2 : ¬ n + 4 > (b.length : Int) - x) (h3 : ¬ sum4 (sumB ((b.drop x.toNat).take n.toNat)) = (b.drop (x + n).toNat).take 4) : unsealB b a = ([], 0, 3) := by
  subst en
  subst ex
  unfold unsealB
  rw [if_neg h, if_neg h2, if_neg h3]
theorem unseal_yes {b : List UInt8} {a n x : Int} (en : (getN b a).1 = n) (ex : (getN b a).2.1 = x) (h : ¬ ((getN b a).2.2 = false ∨ n > 3000)) (h2 : ¬ n + 4 > (b.length : Int) - x) (h3 : sum4 (sumB ((b.drop x.toNat).take n.toNat)) = (b.drop (x + n).toNat).take 4) : unsealB b a = ((b.drop x.toNat).take n.toNat, x + n + 4, 0) := by
  subst en
  subst ex
  unfold unsealB
  rw [if_neg h, if_neg h2, if_pos h3]
theorem shl_8 {e : UInt8} : shV .shl .i64 (e.toNat : Int) 8 = (e.toNat : Int) * 256 := by have := UInt8.toNat_lt e; exact shl_mul (n := 8) rfl (by omega) (by omega) (by omega)
theorem shl_16 {e : UInt8} : shV .shl .i64 (e.toNat : Int) 16 = (e.toNat : Int) * 65536 := by have := UInt8.toNat_lt e; exact shl_mul (n := 16) rfl (by omega) (by omega) (by omega)
theorem shl_24 {e : UInt8} : shV .shl .i64 (e.toNat : Int) 24 = (e.toNat : Int) * 16777216 := by have := UInt8.toNat_lt e; exact shl_mul (n := 24) rfl (by omega) (by omega) (by omega)
theorem unseal_no {b : List UInt8} {a : Int} (h : (getN b a).2.2 = false) : unsealB b a = ([], 0, 1) := unseal_bad (.inl h)
theorem unseal_big {b : List UInt8} {a : Int} (h : (getN b a).1 > 3000) : unsealB b a = ([], 0, 1) := unseal_bad (.inr h)
theorem unseal_ok {b : List UInt8} {a : Int} (h : (getN b a).2.2 = true) (h2 : ¬ (getN b a).1 > 3000) : ¬ ((getN b a).2.2 = false ∨ (getN b a).1 > 3000) := by simp only [h, Bool.true_eq_false, false_or]; exact h2
theorem unseal_short' {b : List UInt8} {a : Int} (h : (getN b a).2.2 = true) (h2 : ¬ (getN b a).1 > 3000) (h3 : (getN b a).1 + 4 > (b.length : Int) - (getN b a).2.1) : unsealB b a = ([], 0, 2) := unseal_short (unseal_ok h h2) h3
theorem four_bytes {b : List UInt8} {a : Int} (h0 : 0 ≤ (getN b a).1 ∧ 0 ≤ (getN b a).2.1) (h3 : ¬ (getN b a).1 + 4 > (b.length : Int) - (getN b a).2.1) : ((b.drop ((getN b a).2.1 + (getN b a).1).toNat).take 4).length = 4 := by
  rw [List.length_take, List.length_drop]; omega
theorem unseal_yes' {b c : List UInt8} {a : Int} (h : (getN b a).2.2 = true) (h2 : ¬ (getN b a).1 > 3000) (h3 : ¬ (getN b a).1 + 4 > (b.length : Int) - (getN b a).2.1) (hc : c = (b.drop ((getN b a).2.1 + (getN b a).1).toNat).take 4) (h4 : sum4 (sumB ((b.drop (getN b a).2.1.toNat).take (getN b a).1.toNat)) = c) : unsealB b a = ((b.drop (getN b a).2.1.toNat).take (getN b a).1.toNat, (getN b a).2.1 + (getN b a).1 + 4, 0) := unseal_yes rfl rfl (unseal_ok h h2) h3 (by rw [h4, hc])
theorem unseal_sum' {b c : List UInt8} {a : Int} (h : (getN b a).2.2 = true) (h2 : ¬ (getN b a).1 > 3000) (h3 : ¬ (getN b a).1 + 4 > (b.length : Int) - (getN b a).2.1) (hc : c = (b.drop ((getN b a).2.1 + (getN b a).1).toNat).take 4) (h4 : ¬ sum4 (sumB ((b.drop (getN b a).2.1.toNat).take (getN b a).1.toNat)) = c) : unsealB b a = ([], 0, 3) := unseal_sum rfl rfl (unseal_ok h h2) h3 (by rw [hc] at h4; exact h4)
theorem cmdS_in (b : List UInt8) {a : Int} : 0 ≤ (cmdS b a).2.1 ∧ (cmdS b a).2.1 ≤ b.length := by
  have h1 := getN_num b (at_ := a)
  have h2 := getN_num b (at_ := (getN b a).2.1)
  have h3 := getN_num b (at_ := (getN b (getN b a).2.1).2.1)
  unfold cmdS cmdS0
  simp only
  repeat' split
  all_goals (dsimp only; first | omega | (rename_i q _ _; omega))
theorem entsS_no {b : List UInt8} {a : Int} (h : (getN b a).2.2 = false) : entsS b a = ([], 0, false) := by unfold entsS; rw [if_pos (Or.inl h)]
theorem entsS_big {b : List UInt8} {a : Int} (h : (getN b a).1 > 6) : entsS b a = ([], 0, false) := by unfold entsS; rw [if_pos (Or.inr h)]
theorem entsS_yes {b : List UInt8} {a : Int} (h : (getN b a).2.2 = true) (h2 : ¬ (getN b a).1 > 6) : entsS b a = entsSGo b ((getN b a).1.toNat - 0) (getN b a).2.1 [] := by
  unfold entsS; rw [if_neg (by simp only [h, Bool.true_eq_false, false_or]; exact h2)]; rfl
theorem textS_in (b : List UInt8) {a : Int} : 0 ≤ (textS b a).2.1 ∧ (textS b a).2.1 ≤ b.length := by
  have h1 := getN_num b (at_ := a)
  unfold textS
  split
  · simp
  · rename_i h
    have : ¬ (getN b a).1 > (b.length : Int) - (getN b a).2.1 := fun q => h (.inr (.inr q))
    simp only
    omega
theorem entsSGo_in (b : List UInt8) : ∀ (n : Nat) (a : Int) (l : List Ent), 0 ≤ a ∧ a ≤ b.length → (0 ≤ (entsSGo b n a l).2.1 ∧ (entsSGo b n a l).2.1 ≤ b.length) ∧ (entsSGo b n a l).1.length ≤ l.length + n
  | 0, a, l, h => ⟨h, by simp [entsSGo]⟩
  | n + 1, a, l, h => by
    rw [entsSGo]
    split
    · simp
    · split
      · simp
      · have := entsSGo_in b n _ (l ++ [⟨(getN b a).1, (cmdS b (getN b a).2.1).1⟩]) (cmdS_in b (a := (getN b a).2.1))
        rw [List.length_append, List.length_singleton] at this
        omega
theorem entsS_in (b : List UInt8) {a : Int} : (0 ≤ (entsS b a).2.1 ∧ (entsS b a).2.1 ≤ b.length) ∧ (entsS b a).1.length ≤ 6 := by
  have h1 := getN_num b (at_ := a)
  unfold entsS
  split
  · simp
  · rename_i h
    have h6 : ¬ (getN b a).1 > 6 := fun q => h (.inr q)
    have := entsSGo_in b (getN b a).1.toNat (getN b a).2.1 [] (by omega)
    simp only [List.length_nil] at this
    omega
theorem fieldS_in (m : Msg) (f : Int) (b : List UInt8) {a : Int} : 0 ≤ (fieldS m f b a).2.1 ∧ (fieldS m f b a).2.1 ≤ b.length := by
  have h1 := getN_num b (at_ := a)
  have h2 : 0 ≤ (getN b a).2.1 ∧ (getN b a).2.1 ≤ b.length := by omega
  have e : (fieldS m f b a).2.1 = if f = 98 then (textS b a).2.1 else if f = 100 then (cmdS b a).2.1 else if f = 101 then (entsS b a).2.1 else (getN b a).2.1 := by
    unfold fieldS
    simp only [apply_ite Prod.snd, apply_ite Prod.fst, ite_self]
  rw [e]
  split
  · exact textS_in b
  · split
    · exact cmdS_in b
    · split
      · exact (entsS_in b).1
      · exact h2
theorem fieldS_ents (m : Msg) (f : Int) (b : List UInt8) (a : Int) (h : m.entries.length ≤ 7) : (fieldS m f b a).1.entries.length ≤ 7 := by
  have h1 := (entsS_in b (a := a)).2
  have e : (fieldS m f b a).1.entries = if f = 98 then m.entries else if f = 100 then m.entries else if f = 101 then (entsS b a).1 else m.entries := by
    unfold fieldS
    simp only [apply_ite Prod.fst, apply_ite Msg.entries, ite_self]
  rw [e]
  split
  · exact h
  · split
    · exact h
    · split
      · exact Nat.le_trans h1 (by omega)
      · exact h
section
variable {b : List UInt8} (h1 : (unsealB b 0).2.2 = 0) (h2 : (unsealB b 0).2.1 = (b.length : Int))
theorem msgR_1 (h : ¬ (unsealB b 0).2.2 = 0 ∨ ¬ (unsealB b 0).2.1 = (b.length : Int)) : msgR b = (zMsg, 1) := by
  unfold msgR
  simp only
  rw [if_pos h]
include h1 h2
theorem msgR_go : msgR b = if (getN (unsealB b 0).1 0).2.2 = false ∨ (l8F (getN (unsealB b 0).1 0).1).toList = [] then ((zMsg, 2) : Msg × Int) else
  msgEnd (unsealB b 0).1.length (fieldsS (unsealB b 0).1 (l8F (getN (unsealB b 0).1 0).1).data.toList (kMsg (getN (unsealB b 0).1 0).1) (getN (unsealB b 0).1 0).2.1) := by
  unfold msgR
  simp only
  rw [if_neg (show ¬ ((unsealB b 0).2.2 ≠ 0 ∨ (unsealB b 0).2.1 ≠ (b.length : Int)) from by simp [h1, h2])]
theorem msgR_2 (h : (getN (unsealB b 0).1 0).2.2 = false ∨ (l8F (getN (unsealB b 0).1 0).1).toList = []) : msgR b = (zMsg, 2) := by rw [msgR_go h1 h2, if_pos h]
variable (h3 : (getN (unsealB b 0).1 0).2.2 = true) (h4 : ¬ (l8F (getN (unsealB b 0).1 0).1).toList = [])
include h3 h4
theorem msgR_f : msgR b = msgEnd (unsealB b 0).1.length (fieldsS (unsealB b 0).1 (l8F (getN (unsealB b 0).1 0).1).data.toList (kMsg (getN (unsealB b 0).1 0).1) (getN (unsealB b 0).1 0).2.1) := by
  rw [msgR_go h1 h2, if_neg (show ¬ ((getN (unsealB b 0).1 0).2.2 = false ∨ (l8F (getN (unsealB b 0).1 0).1).toList = []) from by simp [h3, h4])]
theorem msgR_3 (h : fieldsS (unsealB b 0).1 (l8F (getN (unsealB b 0).1 0).1).data.toList (kMsg (getN (unsealB b 0).1 0).1) (getN (unsealB b 0).1 0).2.1 = none) : msgR b = (zMsg, 3) := by
  rw [msgR_f h1 h2 h3 h4, h, msgEnd]
variable {m : Msg} {a : Int} (h : fieldsS (unsealB b 0).1 (l8F (getN (unsealB b 0).1 0).1).data.toList (kMsg (getN (unsealB b 0).1 0).1) (getN (unsealB b 0).1 0).2.1 = some (m, a))
include h
theorem msgR_4 (h5 : a < ((unsealB b 0).1.length : Int)) : msgR b = (zMsg, 4) := by
  rw [msgR_f h1 h2 h3 h4, h, msgEnd]
  rw [if_pos h5]
theorem msgR_5 (h5 : ¬ a < ((unsealB b 0).1.length : Int)) (h6 : msgFits m = false) : msgR b = (zMsg, 5) := by
  rw [msgR_f h1 h2 h3 h4, h, msgEnd]
  rw [if_neg h5, if_pos h6]
theorem msgR_0 (h5 : ¬ a < ((unsealB b 0).1.length : Int)) (h6 : msgFits m = true) : msgR b = (m, 0) := by
  rw [msgR_f h1 h2 h3 h4, h, msgEnd]
  rw [if_neg h5, if_neg (by simp [h6])]
end
theorem rdEntsGo_len : ∀ (n : Nat) (r : Rd) (l : List Ent), (rdEntsGo n r l).2.length ≤ l.length + n
  | 0, r, l => by simp [rdEntsGo]
  | n + 1, r, l => by
    rw [rdEntsGo]
    split
    · simp only; omega
    · have := rdEntsGo_len n (rdCmd (rdNum r).1).1 (l ++ [⟨(rdNum r).2, (rdCmd (rdNum r).1).2⟩])
      rw [List.length_append, List.length_singleton] at this
      omega
theorem rdEnts_len (r : Rd) : (rdEnts r).2.length ≤ 7 := by
  by_cases h : (rdNum r).2 > 6
  · rw [rdEnts_far h, rdEntsGo_bad rfl]; simp
  · rw [rdEnts_near h]
    have := rdEntsGo_len ((rdNum r).2.toNat - 0) (rdNum r).1 []
    simp only [List.length_nil] at this
    omega
theorem rdField_ents {r : Rd} (m : Msg) (f : Int) (hr : RdOk r) (h : m.entries.length ≤ 7) : (rdField r m f).2.entries.length ≤ 7 := by
  have h1 := rdEnts_len r
  unfold rdField
  repeat' split
  all_goals first | exact h | exact h1
section
variable {b : List UInt8} (h1 : (unsealB b 0).2.2 = 0) (h2 : (unsealB b 0).2.1 = (b.length : Int))
theorem msgRI_1 (h : ¬ (unsealB b 0).2.2 = 0 ∨ ¬ (unsealB b 0).2.1 = (b.length : Int)) : msgRI b = (zMsg, 1) := by
  unfold msgRI
  simp only
  rw [if_pos h]
include h1 h2
theorem msgRI_go : msgRI b = if (rdNum ⟨(unsealB b 0).1, 0, false⟩).1.bad = true ∨ (fieldsL (rdNum ⟨(unsealB b 0).1, 0, false⟩).2).toList = [] then (zMsg, 2) else
    let r := rdFields (fieldsL (rdNum ⟨(unsealB b 0).1, 0, false⟩).2).data.toList (rdNum ⟨(unsealB b 0).1, 0, false⟩).1 (kMsg (rdNum ⟨(unsealB b 0).1, 0, false⟩).2)
    if r.1.bad = true then (zMsg, 3) else if ¬ r.1.at_ = (r.1.b.length : Int) then (zMsg, 4) else if msgFits r.2 = false then (zMsg, 5) else (r.2, 0) := by
  unfold msgRI
  simp only
  rw [if_neg (show ¬ ((unsealB b 0).2.2 ≠ 0 ∨ (unsealB b 0).2.1 ≠ (b.length : Int)) from by simp [h1, h2])]
theorem msgRI_2 (h : (rdNum ⟨(unsealB b 0).1, 0, false⟩).1.bad = true ∨ (fieldsL (rdNum ⟨(unsealB b 0).1, 0, false⟩).2).toList = []) : msgRI b = (zMsg, 2) := by rw [msgRI_go h1 h2, if_pos h]
variable (h3 : (rdNum ⟨(unsealB b 0).1, 0, false⟩).1.bad = false) (h4 : ¬ (fieldsL (rdNum ⟨(unsealB b 0).1, 0, false⟩).2).toList = []) {r : Rd} {m : Msg}
  (hE : rdFields (fieldsL (rdNum ⟨(unsealB b 0).1, 0, false⟩).2).data.toList (rdNum ⟨(unsealB b 0).1, 0, false⟩).1 (kMsg (rdNum ⟨(unsealB b 0).1, 0, false⟩).2) = (r, m))
include h3 h4 hE
theorem msgRI_f : msgRI b = if r.bad = true then (zMsg, 3) else if ¬ r.at_ = (r.b.length : Int) then (zMsg, 4) else if msgFits m = false then (zMsg, 5) else (m, 0) := by
  rw [msgRI_go h1 h2, if_neg (show ¬ ((rdNum ⟨(unsealB b 0).1, 0, false⟩).1.bad = true ∨ (fieldsL (rdNum ⟨(unsealB b 0).1, 0, false⟩).2).toList = []) from by simp [h3, h4])]
  simp only [hE]
theorem msgRI_3 (h : r.bad = true) : msgRI b = (zMsg, 3) := by rw [msgRI_f h1 h2 h3 h4 hE, if_pos h]
variable (h5 : r.bad = false)
include h5
theorem msgRI_4 (h : (!r.bad && (r.at_ == (r.b.length : Int))) = false) : msgRI b = (zMsg, 4) := by rw [msgRI_f h1 h2 h3 h4 hE, if_neg (by simp [h5]), if_pos (by simpa [h5] using h)]
variable (h6 : (!r.bad && (r.at_ == (r.b.length : Int))) = true)
include h6
theorem msgRI_5 (h : msgFits m = false) : msgRI b = (zMsg, 5) := by rw [msgRI_f h1 h2 h3 h4 hE, if_neg (by simp [h5]), if_neg (by simpa [h5] using h6), if_pos h]
theorem msgRI_0 (h : msgFits m = true) : msgRI b = (m, 0) := by rw [msgRI_f h1 h2 h3 h4 hE, if_neg (by simp [h5]), if_neg (by simpa [h5] using h6), if_neg (by simp [h])]
end
theorem fieldsS_ents {b : List UInt8} : ∀ (l : List UInt8) (m : Msg) (a : Int) {m' : Msg} {a' : Int}, m.entries.length ≤ 7 → fieldsS b l m a = some (m', a') → m'.entries.length ≤ 7
  | [], m, a, m', a', h, e => by
    simp only [fieldsS, Option.some.injEq, Prod.mk.injEq] at e
    rw [← e.1]; exact h
  | c :: l, m, a, m', a', h, e => by
    rw [fieldsS] at e
    split at e
    · cases e
    · exact fieldsS_ents l _ _ (fieldS_ents m _ b a h) e
theorem msgR_ents (b : List UInt8) : (msgR b).1.entries.length ≤ 7 := by
  unfold msgR
  simp only
  split
  · simp [zMsg]
  · split
    · simp [zMsg]
    · generalize hf : fieldsS (unsealB b 0).1 (l8F (getN (unsealB b 0).1 0).1).data.toList (kMsg (getN (unsealB b 0).1 0).1) (getN (unsealB b 0).1 0).2.1 = o
      cases o with
      | none => simp [msgEnd, zMsg]
      | some p =>
        obtain ⟨m, a⟩ := p
        have h7 := fieldsS_ents _ _ _ (by simp [kMsg]) hf
        unfold msgEnd
        simp only
        split
        · simp [zMsg]
        · split
          · simp [zMsg]
          · exact h7
end Go.Sy

