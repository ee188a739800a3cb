/- Messages out of bytes: what the two sides read. -/
import Derived.Test.YthjmbojkpkbedaaSMsgMb
set_option linter.unusedVariables false
set_option linter.unusedSimpArgs false
namespace Go.Sy
structure Rd where
  b : List UInt8
  at_ : Int
  bad : Bool
def RdOk (r : Rd) : Prop := r.b.length ≤ 1048576 ∧ 0 ≤ r.at_ ∧ r.at_ ≤ r.b.length
def subB (b : List UInt8) (at_ n : Int) : ByteArray := strOf ((b.drop at_.toNat).take n.toNat)
def unsealB (b : List UInt8) (at_ : Int) : List UInt8 × Int × Int :=
  if (getN b at_).2.2 = false ∨ (getN b at_).1 > 3000 then ([], 0, 1)
  else if (getN b at_).1 + 4 > (b.length : Int) - (getN b at_).2.1 then ([], 0, 2)
  else if sum4 (sumB ((b.drop (getN b at_).2.1.toNat).take (getN b at_).1.toNat)) = (b.drop ((getN b at_).2.1 + (getN b at_).1).toNat).take 4 then ((b.drop (getN b at_).2.1.toNat).take (getN b at_).1.toNat, (getN b at_).2.1 + (getN b at_).1 + 4, 0)
  else ([], 0, 3)
def rdNum (r : Rd) : Rd × Int := if r.bad = true ∨ (getN r.b r.at_).2.2 = false then (⟨r.b, r.at_, true⟩, 0) else (⟨r.b, (getN r.b r.at_).2.1, false⟩, (getN r.b r.at_).1)
def rdBytes (r : Rd) (n : Int) : Rd × ByteArray := if r.bad = true ∨ n > (r.b.length : Int) - r.at_ then (⟨r.b, r.at_, true⟩, ⟨#[]⟩) else (⟨r.b, r.at_ + n, false⟩, subB r.b r.at_ n)
def rdText (r : Rd) : Rd × ByteArray := rdBytes ⟨(rdNum r).1.b, (rdNum r).1.at_, (rdNum r).1.bad || decide ((rdNum r).2 > 3000)⟩ (rdNum r).2
def rdCmd0 (r : Rd) : Rd × Cmd :=
  let k := rdNum r
  if k.2 = 1 then (k.1, ⟨k.2, 0, 0, 0, ⟨#[]⟩⟩) else
  let l := rdNum k.1
  if k.2 = 3 then ((rdNum l.1).1, ⟨k.2, l.2, (rdNum l.1).2, 0, ⟨#[]⟩⟩) else
  if k.2 = 2 then ((rdBytes (rdNum l.1).1 32).1, ⟨k.2, l.2, 0, (rdNum l.1).2, (rdBytes (rdNum l.1).1 32).2⟩) else
  (l.1, ⟨k.2, l.2, 0, 0, ⟨#[]⟩⟩)
def rdCmd (r : Rd) : Rd × Cmd := if (rdCmd0 r).1.bad = true ∨ cmdOk (rdCmd0 r).2 = false then (⟨(rdCmd0 r).1.b, (rdCmd0 r).1.at_, true⟩, zCmd) else rdCmd0 r
def rdEntsGo : Nat → Rd → List Ent → Rd × List Ent
  | 0, r, l => (r, l)
  | n + 1, r, l => if r.bad = true then (r, l) else rdEntsGo n (rdCmd (rdNum r).1).1 (l ++ [⟨(rdNum r).2, (rdCmd (rdNum r).1).2⟩])
def rdEnts (r : Rd) : Rd × List Ent := rdEntsGo (rdNum r).2.toNat ⟨(rdNum r).1.b, (rdNum r).1.at_, (rdNum r).1.bad || decide ((rdNum r).2 > 6)⟩ []
def rdField (r : Rd) (m : Msg) (f : Int) : Rd × Msg :=
  if f = 102 then ((rdNum r).1, { m with from_ := (rdNum r).2 }) else if f = 116 then ((rdNum r).1, { m with term := (rdNum r).2 })
  else if f = 97 then ((rdNum r).1, { m with at_ := (rdNum r).2 }) else if f = 120 then ((rdNum r).1, { m with atTerm := (rdNum r).2 })
  else if f = 99 then ((rdNum r).1, { m with commit := (rdNum r).2 }) else if f = 121 then (⟨(rdNum r).1.b, (rdNum r).1.at_, (rdNum r).1.bad || decide ((rdNum r).2 > 1)⟩, { m with yes := (rdNum r).2 == 1 })
  else if f = 114 then ((rdNum r).1, { m with release := (rdNum r).2 }) else if f = 112 then ((rdNum r).1, { m with part := (rdNum r).2 })
  else if f = 98 then ((rdText r).1, { m with bytes := (rdText r).2 }) else if f = 100 then ((rdCmd r).1, { m with cmd := (rdCmd r).2 })
  else ((rdEnts r).1, { m with entries := (rdEnts r).2 })
def rdFields : List UInt8 → Rd → Msg → Rd × Msg
  | [], r, m => (r, m)
  | c :: l, r, m => rdFields l (rdField r m c.toNat).1 (rdField r m c.toNat).2
def textS (b : List UInt8) (at_ : Int) : ByteArray × Int × Bool :=
  if (getN b at_).2.2 = false ∨ (getN b at_).1 > 3000 ∨ (getN b at_).1 > (b.length : Int) - (getN b at_).2.1 then (⟨#[]⟩, 0, false)
  else (subB b (getN b at_).2.1 (getN b at_).1, (getN b at_).2.1 + (getN b at_).1, true)
def cmdS0 (b : List UInt8) (at_ : Int) : Cmd × Int × Bool :=
  let k := getN b at_
  let l := getN b k.2.1
  if l.2.2 = false then (⟨k.1, l.1, 0, 0, ⟨#[]⟩⟩, l.2.1, false) else
  let z := getN b l.2.1
  if k.1 = 3 then (⟨k.1, l.1, z.1, 0, ⟨#[]⟩⟩, z.2.1, z.2.2) else
  if k.1 = 2 then (if z.2.2 = true ∧ (b.length : Int) - z.2.1 ≥ 32 then (⟨k.1, l.1, 0, z.1, subB b z.2.1 32⟩, z.2.1 + 32, true) else (⟨k.1, l.1, 0, z.1, ⟨#[]⟩⟩, z.2.1, z.2.2)) else
  (⟨k.1, l.1, 0, 0, ⟨#[]⟩⟩, l.2.1, true)
def cmdS (b : List UInt8) (at_ : Int) : Cmd × Int × Bool :=
  if (getN b at_).2.2 = false ∨ inR (getN b at_).1 1 5 = false then (zCmd, 0, false) else
  if (getN b at_).1 = 1 then (⟨(getN b at_).1, 0, 0, 0, ⟨#[]⟩⟩, (getN b at_).2.1, true) else
  if (cmdS0 b at_).2.2 = false ∨ cmdOk (cmdS0 b at_).1 = false then (zCmd, 0, false) else cmdS0 b at_
def entsSGo (b : List UInt8) : Nat → Int → List Ent → List Ent × Int × Bool
  | 0, a, l => (l, a, true)
  | n + 1, a, l => if (getN b a).2.2 = false then (l, 0, false) else if (cmdS b (getN b a).2.1).2.2 = false then (l, 0, false)
    else entsSGo b n (cmdS b (getN b a).2.1).2.1 (l ++ [⟨(getN b a).1, (cmdS b (getN b a).2.1).1⟩])
def entsS (b : List UInt8) (a : Int) : List Ent × Int × Bool := if (getN b a).2.2 = false ∨ (getN b a).1 > 6 then ([], 0, false) else entsSGo b (getN b a).1.toNat (getN b a).2.1 []
def fieldS (m : Msg) (f : Int) (b : List UInt8) (a : Int) : Msg × Int × Bool :=
  if f = 98 then ({ m with bytes := (textS b a).1 }, (textS b a).2.1, (textS b a).2.2) else if f = 100 then ({ m with cmd := (cmdS b a).1 }, (cmdS b a).2.1, (cmdS b a).2.2)
  else if f = 101 then ({ m with entries := (entsS b a).1 }, (entsS b a).2.1, (entsS b a).2.2) else if f = 102 then ({ m with from_ := (getN b a).1 }, (getN b a).2.1, (getN b a).2.2)
  else if f = 116 then ({ m with term := (getN b a).1 }, (getN b a).2.1, (getN b a).2.2) else if f = 97 then ({ m with at_ := (getN b a).1 }, (getN b a).2.1, (getN b a).2.2)
  else if f = 115 then ({ m with atTerm := (getN b a).1 }, (getN b a).2.1, (getN b a).2.2) else if f = 99 then ({ m with commit := (getN b a).1 }, (getN b a).2.1, (getN b a).2.2)
  else if f = 114 then ({ m with release := (getN b a).1 }, (getN b a).2.1, (getN b a).2.2) else if f = 112 then ({ m with part := (getN b a).1 }, (getN b a).2.1, (getN b a).2.2)
  else if f = 121 then ({ m with yes := (getN b a).1 == 1 }, (getN b a).2.1, (getN b a).2.2 && decide ((getN b a).1 < 2)) else (m, (getN b a).2.1, (getN b a).2.2)
def fieldsS (b : List UInt8) : List UInt8 → Msg → Int → Option (Msg × Int)
  | [], m, a => some (m, a)
  | c :: l, m, a => if (fieldS m c.toNat b a).2.2 = false then none else fieldsS b l (fieldS m c.toNat b a).1 (fieldS m c.toNat b a).2.1
def kMsg (k : Int) : Msg := ⟨k, 0, 0, 0, 0, 0, false, 0, 0, ⟨#[]⟩, zCmd, []⟩
def msgEnd (n : Int) : Option (Msg × Int) → Msg × Int
  | none => (zMsg, 3)
  | some (m, a) => if a < n then (zMsg, 4) else if msgFits m = false then (zMsg, 5) else (m, 0)
def msgR (b : List UInt8) : Msg × Int :=
  let u := unsealB b 0
  if u.2.2 ≠ 0 ∨ u.2.1 ≠ (b.length : Int) then (zMsg, 1) else
  let k := getN u.1 0
  if k.2.2 = false ∨ (l8F k.1).toList = [] then (zMsg, 2) else
  msgEnd u.1.length (fieldsS u.1 (l8F k.1).data.toList (kMsg k.1) k.2.1)
theorem RdOk.bad {r : Rd} (h : RdOk r) (x : Bool) : RdOk ⟨r.b, r.at_, x⟩ := h
theorem rdNum_ok {r : Rd} (h : RdOk r) : RdOk (rdNum r).1 := by
  have := getN_num r.b (at_ := r.at_)
  unfold rdNum
  split
  · exact h
  · exact ⟨h.1, by dsimp only; omega, by dsimp only; omega⟩
theorem rdNum_in (r : Rd) : 0 ≤ (rdNum r).2 ∧ (rdNum r).2 ≤ 9223372036854775807 := by
  have := getN_num r.b (at_ := r.at_)
  unfold rdNum
  split
  · simp
  · simp only; omega
theorem rdBytes_ok {r : Rd} {n : Int} (h : RdOk r) (hn : 0 ≤ n) : RdOk (rdBytes r n).1 := by
  obtain ⟨h1, h2, h3⟩ := h
  unfold rdBytes
  split
  · exact ⟨h1, h2, h3⟩
  · exact ⟨h1, by dsimp only; omega, by dsimp only; omega⟩
theorem rdText_ok {r : Rd} (h : RdOk r) : RdOk (rdText r).1 := rdBytes_ok ((rdNum_ok h).bad _) (rdNum_in r).1
theorem rdCmd0_ok {r : Rd} (h : RdOk r) : RdOk (rdCmd0 r).1 := by
  have h1 := rdNum_ok h
  have h2 := rdNum_ok h1
  have h3 := rdNum_ok h2
  have h4 := rdBytes_ok (n := 32) h3 (by omega)
  unfold rdCmd0
  simp only
  split
  · exact h1
  · split
    · exact h3
    · split
      · exact h4
      · exact h2
theorem rdCmd_ok {r : Rd} (h : RdOk r) : RdOk (rdCmd r).1 := by
  unfold rdCmd
  split
  · exact (rdCmd0_ok h).bad _
  · exact rdCmd0_ok h
theorem rdEntsGo_ok : ∀ (n : Nat) {r : Rd} (l : List Ent), RdOk r → RdOk (rdEntsGo n r l).1
  | 0, r, l, h => h
  | n + 1, r, l, h => by
    unfold rdEntsGo
    split
    · exact h
    · exact rdEntsGo_ok n _ (rdCmd_ok (rdNum_ok h))
theorem rdEnts_ok {r : Rd} (h : RdOk r) : RdOk (rdEnts r).1 := rdEntsGo_ok _ _ ((rdNum_ok h).bad _)
theorem rdField_ok {r : Rd} (m : Msg) (f : Int) (h : RdOk r) : RdOk (rdField r m f).1 := by
  have h1 := rdNum_ok h
  unfold rdField
  repeat' split
  all_goals first | exact h1 | exact h1.bad _ | exact rdText_ok h | exact rdCmd_ok h | exact rdEnts_ok h
theorem rdEnts_far {r : Rd} (h : (rdNum r).2 > 6) : rdEnts r = rdEntsGo ((rdNum r).2.toNat - 0) ⟨(rdNum r).1.b, (rdNum r).1.at_, true⟩ [] := by
  unfold rdEnts
  rw [decide_eq_true h, Bool.or_true]
  rfl
theorem rdEnts_near {r : Rd} (h : ¬ (rdNum r).2 > 6) : rdEnts r = rdEntsGo ((rdNum r).2.toNat - 0) (rdNum r).1 [] := by
  unfold rdEnts
  rw [decide_eq_false h, Bool.or_false]
  rfl
theorem rdEntsGo_bad {n : Nat} {q : Rd} {l : List Ent} (h : q.bad = true) : rdEntsGo n q l = (q, l) := by
  cases n with
  | zero => rfl
  | succ n => rw [rdEntsGo, if_pos h]
def Agree (q : Rd) {α : Type} (r : Rd × α) (s : α × Int × Bool) : Prop := if s.2.2 = true then r = (⟨q.b, s.2.1, false⟩, s.1) ∧ 0 ≤ s.2.1 ∧ s.2.1 ≤ q.b.length else r.1.bad = true
theorem rdNum_bad {r : Rd} (h : r.bad = true) : rdNum r = (⟨r.b, r.at_, true⟩, 0) := by unfold rdNum; rw [if_pos (.inl h)]
theorem rdNum_no {r : Rd} (h : (getN r.b r.at_).2.2 = false) : rdNum r = (⟨r.b, r.at_, true⟩, 0) := by unfold rdNum; rw [if_pos (.inr h)]
theorem rdNum_yes {r : Rd} (h : r.bad = false) (h2 : (getN r.b r.at_).2.2 = true) : rdNum r = (⟨r.b, (getN r.b r.at_).2.1, false⟩, (getN r.b r.at_).1) := by unfold rdNum; rw [if_neg (by simp [h, h2])]
theorem rdBytes_bad {r : Rd} {n : Int} (h : r.bad = true) : rdBytes r n = (⟨r.b, r.at_, true⟩, ⟨#[]⟩) := by unfold rdBytes; rw [if_pos (.inl h)]
theorem rdBytes_no {r : Rd} {n : Int} (h : n > (r.b.length : Int) - r.at_) : rdBytes r n = (⟨r.b, r.at_, true⟩, ⟨#[]⟩) := by unfold rdBytes; rw [if_pos (.inr h)]
theorem rdBytes_yes {r : Rd} {n : Int} (h : r.bad = false) (h2 : ¬ n > (r.b.length : Int) - r.at_) : rdBytes r n = (⟨r.b, r.at_ + n, false⟩, subB r.b r.at_ n) := by unfold rdBytes; rw [if_neg (by simp [h]; omega)]
theorem rdText_bad {r : Rd} (h : r.bad = true) : (rdText r).1.bad = true := by
  unfold rdText
  rw [rdNum_bad h, rdBytes_bad (by simp)]
theorem rdCmd_bad {r : Rd} (h : r.bad = true) : (rdCmd r).1.bad = true := by
  unfold rdCmd
  split
  · rfl
  · rename_i hn
    exfalso
    apply hn
    left
    unfold rdCmd0
    simp only [rdNum_bad h, rdNum_bad (r := ⟨r.b, r.at_, true⟩) rfl]
    rw [if_neg (by omega), if_neg (by omega), if_neg (by omega)]
theorem rdEnts_bad {r : Rd} (h : r.bad = true) : (rdEnts r).1.bad = true := by
  unfold rdEnts
  rw [rdNum_bad h]
  rfl
theorem rdField_bad {r : Rd} {m : Msg} {f : Int} (h : r.bad = true) : (rdField r m f).1.bad = true := by
  have h1 : (rdNum r).1.bad = true := by rw [rdNum_bad h]
  unfold rdField
  repeat' split
  all_goals first | exact h1 | (simp only [h1, Bool.true_or]; done) | exact rdText_bad h | exact rdCmd_bad h | exact rdEnts_bad h
theorem rdFields_bad : ∀ (l : List UInt8) {r : Rd} {m : Msg}, r.bad = true → (rdFields l r m).1.bad = true
  | [], r, m, h => h
  | c :: l, r, m, h => rdFields_bad l (rdField_bad h)
theorem num_agree {q : Rd} (hb : q.bad = false) : Agree q (rdNum q) (getN q.b q.at_) := by
  have := getN_num q.b (at_ := q.at_)
  unfold Agree
  split
  · exact ⟨rdNum_yes hb ‹_›, by omega, by omega⟩
  · rename_i h
    rw [rdNum_no (by simpa using h)]
theorem agree_yes {q : Rd} {α : Type} {r : Rd × α} {x : α} {a : Int} (h : r = (⟨q.b, a, false⟩, x)) (h1 : 0 ≤ a) (h2 : a ≤ q.b.length) : Agree q r (x, a, true) := by
  unfold Agree; rw [if_pos rfl]; exact ⟨h, h1, h2⟩
theorem agree_no {q : Rd} {α : Type} {r : Rd × α} {x : α} {a : Int} (h : r.1.bad = true) : Agree q r (x, a, false) := by
  unfold Agree; rw [if_neg (by simp)]; exact h
theorem text_agree {q : Rd} (hq : RdOk q) (hb : q.bad = false) : Agree q (rdText q) (textS q.b q.at_) := by
  have hn := getN_num q.b (at_ := q.at_)
  unfold textS
  by_cases h1 : (getN q.b q.at_).2.2 = true
  · by_cases h2 : (getN q.b q.at_).1 > 3000
    · rw [if_pos (Or.inr (Or.inl h2))]
      exact agree_no (by unfold rdText; rw [rdNum_yes hb h1, rdBytes_bad (by simp only [Bool.false_or, decide_eq_true_eq]; exact h2)])
    · by_cases h3 : (getN q.b q.at_).1 > (q.b.length : Int) - (getN q.b q.at_).2.1
      · rw [if_pos (Or.inr (Or.inr h3))]
        exact agree_no (by unfold rdText; rw [rdNum_yes hb h1, rdBytes_no h3])
      · rw [if_neg (by simp only [h1, Bool.true_eq_false, false_or]; omega)]
        exact agree_yes (by unfold rdText; rw [rdNum_yes hb h1, rdBytes_yes (by simp only [Bool.false_or, decide_eq_false_iff_not]; exact h2) h3]) (by omega) (by omega)
  · have h1 : (getN q.b q.at_).2.2 = false := by simpa using h1
    rw [if_pos (Or.inl h1)]
    exact agree_no (by unfold rdText; rw [rdNum_no h1, rdBytes_bad (by simp)])
theorem cmdOk_kind {c : Cmd} (h : inR c.kind 1 5 = false) : cmdOk c = false := by
  cases hc : cmdOk c with
  | false => rfl
  | true =>
    have := (cmdOk_in hc).1
    rw [inR_iff.2 this] at h
    cases h
theorem cmdOk_small {c : Cmd} (h : c.kind = 2) (hd : c.digest.size = 0) : cmdOk c = false := by
  unfold cmdOk
  rw [if_neg (by omega), if_pos h]
  simp [hd]
theorem rdCmd_no {r : Rd} (h : (rdCmd0 r).1.bad = true ∨ cmdOk (rdCmd0 r).2 = false) : (rdCmd r).1.bad = true := by unfold rdCmd; rw [if_pos h]
theorem rdCmd_yes {r : Rd} (h : (rdCmd0 r).1.bad = false) (h2 : cmdOk (rdCmd0 r).2 = true) : rdCmd r = rdCmd0 r := by unfold rdCmd; rw [if_neg (by simp [h, h2])]
theorem rdCmd0_kind (r : Rd) : (rdCmd0 r).2.kind = (rdNum r).2 := by
  unfold rdCmd0
  simp only
  repeat' split
  all_goals rfl
theorem cmd0_agree {b : List UInt8} {at_ k a : Int} (e : getN b at_ = (k, a, true)) (h1 : k ≠ 1) {q : Rd} (hq : rdNum q = (⟨b, a, false⟩, k)) :
    (if (cmdS0 b at_).2.2 = true then rdCmd0 q = (⟨b, (cmdS0 b at_).2.1, false⟩, (cmdS0 b at_).1) ∧ 0 ≤ (cmdS0 b at_).2.1 ∧ (cmdS0 b at_).2.1 ≤ b.length else (rdCmd0 q).1.bad = true) ∨ ((rdCmd0 q).1.bad = true ∧ cmdOk (cmdS0 b at_).1 = false) := by
  have n1 := getN_num b (at_ := a)
  unfold rdCmd0 cmdS0
  simp only [hq, e]
  rw [if_neg h1]
  by_cases l : (getN b a).2.2 = true
  case neg =>
    have l : (getN b a).2.2 = false := by simpa using l
    left
    rw [rdNum_no (r := ⟨b, a, false⟩) l, if_pos l, if_neg (by simp)]
    split
    · rw [rdNum_bad rfl]
    · split
      · rw [rdNum_bad rfl, rdBytes_bad rfl]
      · rfl
  have e2 := rdNum_yes (r := ⟨b, a, false⟩) rfl l
  rw [e2, if_neg (show ¬ (getN b a).2.2 = false by simp [l])]
  have n2 := getN_num b (at_ := (getN b a).2.1)
  by_cases h3 : k = 3
  · left
    rw [if_pos h3, if_pos h3]
    by_cases z : (getN b (getN b a).2.1).2.2 = true
    · rw [if_pos z, rdNum_yes (r := ⟨b, (getN b a).2.1, false⟩) rfl z]
      exact ⟨rfl, by dsimp only; omega, by dsimp only; omega⟩
    · rw [if_neg z, rdNum_no (r := ⟨b, (getN b a).2.1, false⟩) (by simpa using z)]
  · rw [if_neg h3, if_neg h3]
    by_cases h2 : k = 2
    · rw [if_pos h2, if_pos h2]
      by_cases z : (getN b (getN b a).2.1).2.2 = true
      · rw [rdNum_yes (r := ⟨b, (getN b a).2.1, false⟩) rfl z]
        by_cases d : (b.length : Int) - (getN b (getN b a).2.1).2.1 ≥ 32
        · left
          rw [if_pos (And.intro z d), if_pos rfl, rdBytes_yes rfl (by dsimp only; omega)]
          exact ⟨rfl, by dsimp only; omega, by dsimp only; omega⟩
        · right
          rw [if_neg (show ¬ ((getN b (getN b a).2.1).2.2 = true ∧ (b.length : Int) - (getN b (getN b a).2.1).2.1 ≥ 32) from fun h => d h.2), rdBytes_no (by dsimp only; omega)]
          exact ⟨rfl, cmdOk_small h2 rfl⟩
      · left
        rw [if_neg (show ¬ ((getN b (getN b a).2.1).2.2 = true ∧ (b.length : Int) - (getN b (getN b a).2.1).2.1 ≥ 32) from fun h => z h.1), if_neg z, rdNum_no (r := ⟨b, (getN b a).2.1, false⟩) (by simpa using z), rdBytes_bad rfl]
    · left
      rw [if_neg h2, if_neg h2, if_pos rfl]
      exact ⟨rfl, by dsimp only; omega, by dsimp only; omega⟩
theorem cmd_agree {q : Rd} (hq : RdOk q) (hb : q.bad = false) : Agree q (rdCmd q) (cmdS q.b q.at_) := by
  have hn := getN_num q.b (at_ := q.at_)
  unfold cmdS
  by_cases h1 : (getN q.b q.at_).2.2 = true
  case neg =>
    have h1 : (getN q.b q.at_).2.2 = false := by simpa using h1
    rw [if_pos (Or.inl h1)]
    refine agree_no (rdCmd_no (Or.inl ?_))
    unfold rdCmd0
    simp only [rdNum_no h1]
    rw [if_neg (by omega), if_neg (by omega), if_neg (by omega), rdNum_bad rfl]
  have e1 := rdNum_yes hb h1
  by_cases h2 : inR (getN q.b q.at_).1 1 5 = false
  · rw [if_pos (Or.inr h2)]
    exact agree_no (rdCmd_no (Or.inr (cmdOk_kind (by rw [rdCmd0_kind, e1]; exact h2))))
  rw [if_neg (by intro h; rcases h with h | h; (rw [h1] at h; cases h); exact h2 h)]
  by_cases h3 : (getN q.b q.at_).1 = 1
  · rw [if_pos h3]
    have e3 : rdCmd0 q = (⟨q.b, (getN q.b q.at_).2.1, false⟩, ⟨(getN q.b q.at_).1, 0, 0, 0, ⟨#[]⟩⟩) := by
      unfold rdCmd0
      simp only [e1]
      rw [if_pos h3]
    have e4 : cmdOk ⟨(getN q.b q.at_).1, 0, 0, 0, ⟨#[]⟩⟩ = true := by
      rw [h3]
      unfold cmdOk
      simp [noBytes]
    exact agree_yes (by rw [rdCmd_yes (by rw [e3]) (by rw [e3]; exact e4), e3]) (by omega) (by omega)
  rw [if_neg h3]
  rcases cmd0_agree (b := q.b) (at_ := q.at_) (k := (getN q.b q.at_).1) (a := (getN q.b q.at_).2.1) (by rw [← h1]) h3 e1 with h | h
  · split at h
    · rename_i hs
      by_cases h5 : cmdOk (cmdS0 q.b q.at_).1 = true
      · rw [if_neg (by simp [hs, h5])]
        unfold Agree
        rw [if_pos hs]
        exact ⟨by rw [rdCmd_yes (by rw [h.1]) (by rw [h.1]; exact h5), h.1], h.2.1, h.2.2⟩
      · rw [if_pos (Or.inr (by simpa using h5))]
        exact agree_no (rdCmd_no (Or.inr (by rw [h.1]; simpa using h5)))
    · rename_i hs
      rw [if_pos (Or.inl (by simpa using hs))]
      exact agree_no (rdCmd_no (Or.inl h))
  · rw [if_pos (Or.inr h.2)]
    exact agree_no (rdCmd_no (Or.inl h.1))
theorem entsGo_agree : ∀ (n : Nat) {q : Rd} (l : List Ent), RdOk q → q.bad = false → Agree q (rdEntsGo n q l) (entsSGo q.b n q.at_ l)
  | 0, q, l, hq, hb => agree_yes (by rw [rdEntsGo, ← hb]) hq.2.1 hq.2.2
  | n + 1, q, l, hq, hb => by
    rw [rdEntsGo, if_neg (by simp [hb]), entsSGo]
    have h1 := num_agree hb
    unfold Agree at h1
    split at h1
    · rename_i c1
      rw [if_neg (by simp [c1]), h1.1]
      have hq1 : RdOk ⟨q.b, (getN q.b q.at_).2.1, false⟩ := ⟨hq.1, h1.2.1, h1.2.2⟩
      have h2 := cmd_agree hq1 rfl
      unfold Agree at h2
      dsimp only at h2
      split at h2
      · rename_i c2
        rw [if_neg (by simp [c2]), h2.1]
        exact entsGo_agree n _ (q := ⟨q.b, _, false⟩) ⟨hq.1, h2.2.1, h2.2.2⟩ rfl
      · rename_i c2
        rw [if_pos (by simpa using c2)]
        refine agree_no ?_
        rw [rdEntsGo_bad h2]
        exact h2
    · rename_i c1
      rw [if_pos (by simpa using c1)]
      refine agree_no ?_
      have := rdCmd_bad h1
      rw [rdEntsGo_bad this]
      exact this
theorem ents_agree {q : Rd} (hq : RdOk q) (hb : q.bad = false) : Agree q (rdEnts q) (entsS q.b q.at_) := by
  have h1 := num_agree hb
  unfold entsS
  unfold Agree at h1
  split at h1
  · rename_i c1
    by_cases h6 : (getN q.b q.at_).1 > 6
    · rw [if_pos (Or.inr h6)]
      refine agree_no ?_
      rw [rdEnts_far (by rw [h1.1]; exact h6), rdEntsGo_bad rfl]
    · rw [if_neg (by simp only [c1, Bool.true_eq_false, false_or]; exact h6), rdEnts_near (by rw [h1.1]; exact h6), h1.1]
      exact entsGo_agree _ (q := ⟨q.b, _, false⟩) [] ⟨hq.1, h1.2.1, h1.2.2⟩ rfl
  · rename_i c1
    rw [if_pos (Or.inl (by simpa using c1))]
    refine agree_no ?_
    unfold rdEnts
    rw [rdEntsGo_bad (by simp [h1])]
    simp [h1]
end Go.Sy

