/- Marks that are put into lists and looked for again; small words for sums. -/
import Derived.Test.YtlmadhahghiedaaGreatSyRd
set_option linter.unusedVariables false
set_option linter.unusedSimpArgs false
namespace Go.Sy
section
variable {α : Type}
def marks (mk : α → Int → α) (nx : α → Int → Int) : List α → Int → List α
  | [], _ => []
  | a :: l, k => mk a k :: marks mk nx l (nx a k)
def ends (nx : α → Int → Int) : List α → Int → Int
  | [], k => k
  | a :: l, k => ends nx l (nx a k)
def held (ok : α → Int → Bool) (nx : α → Int → Int) : List α → Int → Int
  | [], k => k
  | a :: l, k => if ok a k = true then held ok nx l (nx a k) else -1
def MInv (mk : α → Int → α) (nx : α → Int → Int) (a : List α) (k : Int) (i : Nat) (kk : Int) (o : List α) : Prop :=
  i ≤ a.length ∧ o.length = a.length ∧ o.drop i = a.drop i ∧ marks mk nx a k = o.take i ++ marks mk nx (a.drop i) kk ∧ ends nx a k = ends nx (a.drop i) kk
variable {mk : α → Int → α} {nx : α → Int → Int} {a o : List α} {k kk : Int} {i : Nat}
theorem MInv.start : MInv mk nx a k 0 k a := ⟨by omega, rfl, rfl, by simp, by simp⟩
theorem MInv.get {e : α} (h : MInv mk nx a k i kk o) (he : o[i]? = some e) : a[i]? = some e := by
  have h1 : (o.drop i)[0]? = some e := by simpa using he
  rw [h.2.2.1] at h1
  simpa using h1
theorem MInv.step {e x : α} {k' : Int} (h : MInv mk nx a k i kk o) (he : o[i]? = some e) (hx : x = mk e kk) (hk : k' = nx e kk) : MInv mk nx a k (i + 1) k' (o.set i x) := by
  subst hx
  subst hk
  have hi := (List.getElem?_eq_some_iff.1 he).1
  have hd := dropCons (h.get he)
  obtain ⟨h1, h2, h3, h4, h5⟩ := h
  have h3' : o.drop (i + 1) = a.drop (i + 1) := by
    have := congrArg (List.drop 1) h3
    simpa [List.drop_drop, Nat.add_comm] using this
  refine ⟨by omega, by simpa using h2, ?_, ?_, ?_⟩
  · rw [List.drop_set_of_lt (by omega)]
    exact h3'
  · rw [h4, hd, marks]
    have e2 : (o.set i (mk e kk)).take (i + 1) = o.take i ++ [mk e kk] := by
      rw [List.take_set, List.take_succ_eq_append_getElem hi, List.set_append, if_neg (by rw [List.length_take]; omega)]
      simp [Nat.min_eq_left (Nat.le_of_lt hi)]
    rw [e2]
    simp
  · rw [h5, hd, ends]
theorem MInv.done (h : MInv mk nx a k i kk o) (hi : ¬ (i : Int) < a.length) : o = marks mk nx a k ∧ kk = ends nx a k := by
  obtain ⟨h1, h2, h3, h4, h5⟩ := h
  rw [List.drop_of_length_le (by omega)] at h4 h5
  refine ⟨?_, h5.symm⟩
  rw [h4, List.take_of_length_le (by omega)]
  simp [marks]
theorem ends_ge (hn : ∀ e k, k ≤ nx e k) : ∀ (l : List α) (k : Int), k ≤ ends nx l k
  | [], k => Int.le_refl k
  | e :: l, k => Int.le_trans (hn e k) (ends_ge hn l _)
theorem MInv.le {e : α} (hn : ∀ e k, k ≤ nx e k) (h : MInv mk nx a k i kk o) (he : o[i]? = some e) : nx e kk ≤ ends nx a k := by
  have hd := dropCons (h.get he)
  rw [h.2.2.2.2, hd, ends]
  exact ends_ge hn _ _
theorem MInv.ge (hn : ∀ e k, k ≤ nx e k) (h : MInv mk nx a k i kk o) : kk ≤ ends nx a k := by
  rw [h.2.2.2.2]
  exact ends_ge hn _ _
theorem held_marks {ok : α → Int → Bool} (h1 : ∀ e k, 0 ≤ k → ok (mk e k) k = true) (h2 : ∀ e k, nx (mk e k) k = nx e k) (hn : ∀ e k, k ≤ nx e k) : ∀ (l : List α) (k : Int), 0 ≤ k → held ok nx (marks mk nx l k) k = ends nx l k
  | [], k, _ => rfl
  | e :: l, k, hk => by
    rw [marks, held, if_pos (h1 e k hk), h2, held_marks h1 h2 hn l _ (Int.le_trans hk (hn e k)), ends]
theorem ends_le {c : Int} : ∀ (l : List α) (k : Int), (∀ e ∈ l, ∀ k, nx e k ≤ k + c) → ends nx l k ≤ k + c * l.length
  | [], k, _ => by simp [ends]
  | e :: l, k, h => by
    have h1 := ends_le l (nx e k) (fun e he => h e (List.mem_cons_of_mem _ he))
    have h2 := h e List.mem_cons_self k
    simp only [ends, List.length_cons, Int.natCast_add, Int.mul_add]
    omega
theorem marks_len : ∀ (l : List α) (k : Int), (marks mk nx l k).length = l.length
  | [], _ => rfl
  | e :: l, k => by simp [marks, marks_len l]
end
theorem setGet {α : Type} {l : List α} {i : Nat} {e x : α} (h : l[i]? = some e) : (l.set i x)[i]? = some x := by
  have := (List.getElem?_eq_some_iff.1 h).1
  rw [List.getElem?_set, if_pos rfl, if_pos this]
theorem setV {α : Type} {f : α → V} {l : List α} {i : Nat} {y : α} : (l.set i y).map f = (l.map f).set i (f y) := List.map_set
theorem setSetV {α : Type} {f : α → V} {l : List α} {i : Nat} {x y : α} : (l.set i y).map f = ((l.set i x).map f).set i (f y) := by
  rw [List.map_set, List.map_set, List.set_set]
def markGo (k : Nat) (acc : ByteArray) : ByteArray := if k = 0 then acc else markGo (k / 10) (strOf [u8Of (48 + ((k : Int) % 10))] ++ acc)
def markT (k : Int) : ByteArray := if k ≤ 0 then ⟨#[109, 48]⟩ else ⟨#[109]⟩ ++ markGo k.toNat ⟨#[]⟩
theorem markGo_step {k : Int} {acc : ByteArray} (h : k > 0) : markGo k.toNat acc = markGo (k / 10).toNat (strOf [u8Of (48 + k % 10)] ++ acc) := by
  rw [markGo, if_neg (by omega), show k.toNat / 10 = (k / 10).toNat from by omega, show ((k.toNat : Nat) : Int) = k from by omega]
theorem markGo_zero {k : Int} {acc : ByteArray} (h : ¬ k > 0) : markGo k.toNat acc = acc := by
  rw [markGo, if_pos (by omega)]
theorem strOf_size (l : List UInt8) : (strOf l).size = l.length := by
  show l.toArray.size = _
  simp
theorem cat_size (a b : ByteArray) : (a ++ b).size = a.size + b.size := by simp
def markI (a : Int) (k : Int) : Int := k
def nxI (a : Int) (k : Int) : Int := k + 1
def markE (e : Ent) (k : Int) : Ent := ⟨k, ⟨k + 1, k + 2, k + 3, k + 4, markT (k + 5)⟩⟩
def nxE (e : Ent) (k : Int) : Int := k + 6
def markR (e : Rec) (k : Int) : Rec := ⟨k, k + 1, k + 2, k + 3, ⟨k + 4, ⟨k + 5, k + 6, k + 7, k + 8, markT (k + 9)⟩⟩⟩
def nxR (e : Rec) (k : Int) : Int := k + 10
def markO (o : Out) (k : Int) : Out := ⟨k, ⟨k + 1, k + 2, k + 3, k + 4, k + 5, k + 6, (k + 7) % 3 == 0, k + 8, k + 9, markT (k + 10), ⟨k + 11, k + 12, k + 13, k + 14, markT (k + 15)⟩, marks markE nxE o.msg.entries (k + 16)⟩⟩
def nxO (o : Out) (k : Int) : Int := ends nxE o.msg.entries (k + 16)
theorem nxI_ge (e : Int) (k : Int) : k ≤ nxI e k := by unfold nxI; omega
theorem nxE_ge (e : Ent) (k : Int) : k ≤ nxE e k := by unfold nxE; omega
theorem nxR_ge (e : Rec) (k : Int) : k ≤ nxR e k := by unfold nxR; omega
theorem nxO_ge (o : Out) (k : Int) : k ≤ nxO o k := by
  have := ends_ge nxE_ge o.msg.entries (k + 16)
  unfold nxO
  omega
def okI (a : Int) (k : Int) : Bool := a == k
def okE (e : Ent) (k : Int) : Bool := e.term == k && (e.cmd.kind == k + 1 && (e.cmd.release == k + 2 && (e.cmd.node == k + 3 && (e.cmd.size == k + 4 && e.cmd.digest.toList == (markT (k + 5)).toList))))
def okR (e : Rec) (k : Int) : Bool := e.kind == k && (e.term == k + 1 && (e.vote == k + 2 && (e.at_ == k + 3 && (e.entry.term == k + 4 && (e.entry.cmd.kind == k + 5 && (e.entry.cmd.release == k + 6 && (e.entry.cmd.node == k + 7 && (e.entry.cmd.size == k + 8 && e.entry.cmd.digest.toList == (markT (k + 9)).toList))))))))
def okM (o : Out) (k : Int) : Bool := o.to == k && (o.msg.kind == k + 1 && (o.msg.from_ == k + 2 && (o.msg.term == k + 3 && (o.msg.at_ == k + 4 && (o.msg.atTerm == k + 5 && (o.msg.commit == k + 6 && (o.msg.yes == ((k + 7) % 3 == 0) && (o.msg.release == k + 8 && (o.msg.part == k + 9 && (o.msg.bytes.toList == (markT (k + 10)).toList
  && (o.msg.cmd.kind == k + 11 && (o.msg.cmd.release == k + 12 && (o.msg.cmd.node == k + 13 && (o.msg.cmd.size == k + 14 && o.msg.cmd.digest.toList == (markT (k + 15)).toList))))))))))))))
def heldO : List Out → Int → Int
  | [], k => k
  | o :: l, k => if okM o k = true then (if held okE nxE o.msg.entries (k + 16) < 0 then -1 else heldO l (held okE nxE o.msg.entries (k + 16))) else -1
theorem held_ints (l : List Int) (k : Int) (hk : 0 ≤ k) : held okI nxI (marks markI nxI l k) k = ends nxI l k := held_marks (mk := markI) (ok := okI) (fun _ _ _ => by simp [okI, markI]) (fun _ _ => rfl) nxI_ge l k hk
theorem held_ents (l : List Ent) (k : Int) (hk : 0 ≤ k) : held okE nxE (marks markE nxE l k) k = ends nxE l k := held_marks (mk := markE) (ok := okE) (fun _ _ _ => by simp [okE, markE]) (fun _ _ => rfl) nxE_ge l k hk
theorem held_recs (l : List Rec) (k : Int) (hk : 0 ≤ k) : held okR nxR (marks markR nxR l k) k = ends nxR l k := held_marks (mk := markR) (ok := okR) (fun _ _ _ => by simp [okR, markR]) (fun _ _ => rfl) nxR_ge l k hk
theorem held_outs : ∀ (l : List Out) (k : Int), 0 ≤ k → heldO (marks markO nxO l k) k = ends nxO l k
  | [], k, _ => rfl
  | o :: l, k, hk => by
    have h0 : 0 ≤ k + 16 := by omega
    have h1 : held okE nxE (markO o k).msg.entries (k + 16) = nxO o k := held_ents _ _ h0
    have h2 := nxO_ge o k
    rw [marks, heldO, if_pos (by simp [okM, markO]), h1, if_neg (by omega), held_outs l _ (by omega), ends]
theorem heldE_le : ∀ (l : List Ent) (k : Int), 0 ≤ k → held okE nxE l k ≤ k + 6 * l.length
  | [], k, _ => by simp [held]
  | e :: l, k, h => by
    have := heldE_le l (nxE e k) (by unfold nxE; omega)
    unfold held
    simp only [List.length_cons]
    unfold nxE at *
    split <;> omega
theorem heldI_le : ∀ (l : List Int) (k : Int), 0 ≤ k → held okI nxI l k ≤ k + l.length
  | [], k, _ => by simp [held]
  | e :: l, k, h => by
    have := heldI_le l (nxI e k) (by unfold nxI; omega)
    unfold held
    simp only [List.length_cons]
    unfold nxI at *
    split <;> omega
theorem held_neg {α : Type} {ok : α → Int → Bool} {nx : α → Int → Int} (hn : ∀ e k, k ≤ nx e k) : ∀ {l : List α} {k : Int}, 0 ≤ k → held ok nx l k < 0 → held ok nx l k = -1
  | [], k, h0, h => by simp [held] at h; omega
  | e :: l, k, h0, h => by
    unfold held at h ⊢
    split
    · rename_i h1
      rw [if_pos h1] at h
      exact held_neg hn (Int.le_trans h0 (hn e k)) h
    · rfl
def raftEnd (r : Raft) (k : Int) : Int := ends nxI r.match_ (ends nxI r.next (ends nxI r.yes (ends nxE r.hard.log k)))
def raftMark (r : Raft) (k : Int) : Raft := { r with hard := { r.hard with log := marks markE nxE r.hard.log k }, yes := marks markI nxI r.yes (ends nxE r.hard.log k), next := marks markI nxI r.next (ends nxI r.yes (ends nxE r.hard.log k)), match_ := marks markI nxI r.match_ (ends nxI r.next (ends nxI r.yes (ends nxE r.hard.log k))) }
def heldRaft (r : Raft) (k : Int) : Int :=
  if held okE nxE r.hard.log k < 0 then -1 else
  if held okI nxI r.yes (held okE nxE r.hard.log k) < 0 then -1 else
  if held okI nxI r.next (held okI nxI r.yes (held okE nxE r.hard.log k)) < 0 then -1 else
  held okI nxI r.match_ (held okI nxI r.next (held okI nxI r.yes (held okE nxE r.hard.log k)))
theorem endsE_eq : ∀ (l : List Ent) (k : Int), ends nxE l k = k + 6 * l.length
  | [], k => by simp [ends]
  | e :: l, k => by simp only [ends, List.length_cons, endsE_eq l]; unfold nxE; omega
theorem endsI_eq : ∀ (l : List Int) (k : Int), ends nxI l k = k + l.length
  | [], k => by simp [ends]
  | e :: l, k => by simp only [ends, List.length_cons, endsI_eq l]; unfold nxI; omega
theorem endsR_eq : ∀ (l : List Rec) (k : Int), ends nxR l k = k + 10 * l.length
  | [], k => by simp [ends]
  | e :: l, k => by simp only [ends, List.length_cons, endsR_eq l]; unfold nxR; omega
theorem endsO_le (l : List Out) (k : Int) (h : ∀ o ∈ l, o.msg.entries.length ≤ 100) : ends nxO l k ≤ k + 616 * l.length :=
  ends_le l k (fun o ho k => by unfold nxO; rw [endsE_eq]; have := h o ho; omega)
theorem raftEnd_eq (r : Raft) (k : Int) : raftEnd r k = k + 6 * r.hard.log.length + r.yes.length + r.next.length + r.match_.length := by
  unfold raftEnd
  rw [endsI_eq, endsI_eq, endsI_eq, endsE_eq]
theorem held_raft (r : Raft) (k : Int) (hk : 0 ≤ k) : heldRaft (raftMark r k) k = raftEnd r k := by
  unfold heldRaft raftMark
  simp only
  have h1 := endsE_eq r.hard.log k
  have h2 := endsI_eq r.yes (ends nxE r.hard.log k)
  have h3 := endsI_eq r.next (ends nxI r.yes (ends nxE r.hard.log k))
  rw [held_ents _ _ hk, held_ints _ _ (by omega), held_ints _ _ (by omega), held_ints _ _ (by omega), if_neg (by omega), if_neg (by omega), if_neg (by omega)]
  rfl
/-! ### What is sent -/
theorem ents_sendOf (r : Raft) (i : Int) : (sendOf r i).msg.entries.length ≤ 6 := by simp only [sendOf, List.length_take]; omega
theorem sendUp_ents (r : Raft) : ∀ (k : Nat), ∀ o ∈ sendUp r k, o.msg.entries.length ≤ 6
  | 0, o, h => by simp [sendUp] at h
  | k + 1, o, h => by
    unfold sendUp at h
    rcases List.mem_append.1 h with h | h
    · exact sendUp_ents r k o h
    · split at h
      · simp at h
      · simp only [List.mem_singleton] at h
        subst h
        exact ents_sendOf r k
theorem askUp_ents (r : Raft) : ∀ (k : Nat), ∀ o ∈ askUp r k, o.msg.entries.length ≤ 6
  | 0, o, h => by simp [askUp] at h
  | k + 1, o, h => by
    unfold askUp at h
    rcases List.mem_append.1 h with h | h
    · exact askUp_ents r k o h
    · split at h
      · simp at h
      · simp only [List.mem_singleton] at h
        subst h
        simp [askOf]
def FewOuts (l : List Out) : Prop := l.length ≤ 6 ∧ ∀ o ∈ l, o.msg.entries.length ≤ 6
theorem beat_few (r : Raft) : FewOuts (beat r) := by
  unfold beat
  split
  · rename_i h
    have hn := raftOk1_nums (raftOk_1 h)
    split
    · exact ⟨by have := sendUp_len r r.of_.toNat; unfold sendAll; omega, sendUp_ents r _⟩
    · split
      · exact ⟨by have := askUp_len r r.of_.toNat; unfold asks; omega, askUp_ents r _⟩
      · exact ⟨by simp, by simp⟩
  · exact ⟨by simp, by simp⟩
theorem FewOuts.ends {l : List Out} (h : FewOuts l) (k : Int) : k ≤ Sy.ends nxO l k ∧ Sy.ends nxO l k ≤ k + 3696 := by
  have h1 := ends_ge nxO_ge l k
  have h2 := endsO_le l k (fun o ho => by have := h.2 o ho; omega)
  have := h.1
  omega
theorem FewOuts.marks {l : List Out} (h : FewOuts l) (k : Int) : FewOuts (Sy.marks markO nxO l k) := by
  obtain ⟨h1, h2⟩ := h
  refine ⟨by rw [marks_len]; exact h1, ?_⟩
  clear h1
  induction l generalizing k with
  | nil => intro o ho; simp [Sy.marks] at ho
  | cons a l ih =>
    intro o ho
    simp only [Sy.marks, List.mem_cons] at ho
    rcases ho with rfl | ho
    · have := h2 a List.mem_cons_self
      simp only [markO, marks_len]
      exact this
    · exact ih _ (fun o ho => h2 o (List.mem_cons_of_mem _ ho)) o ho
theorem raftMark_small {r : Raft} (h : SmallR r) (k : Int) : SmallR (raftMark r k) := by
  obtain ⟨h1, h2, h3, h4⟩ := h
  refine ⟨?_, ?_, ?_, ?_⟩ <;> simp only [raftMark, marks_len] <;> assumption
theorem same_small {r : Raft} (h : SmallR r) : SmallR (same r) := by
  unfold same
  split
  · exact h
  · exact ⟨by decide, by decide, by decide, by decide⟩
theorem sendAll_few {r : Raft} (h : r.of_ ≤ 6) : FewOuts (sendAll r) := ⟨by have := sendUp_len r r.of_.toNat; unfold sendAll; omega, sendUp_ents r _⟩
theorem asks_few {r : Raft} (h : r.of_ ≤ 6) : FewOuts (asks r) := ⟨by have := askUp_len r r.of_.toNat; unfold asks; omega, askUp_ents r _⟩
theorem few_nil : FewOuts [] := ⟨by simp, by simp⟩
theorem propOk_1 {r : Raft} {c : Cmd} (h : propOk r c = true) : raftOk r = true := by simp only [propOk, Bool.and_eq_true] at h; exact h.1
theorem propR_small {r : Raft} (c : Cmd) (h : SmallR r) : SmallR (propR r c) := by
  unfold propR
  split
  · rename_i h1
    have hn := raftOk1_nums (raftOk_1 (propOk_1 h1))
    obtain ⟨z1, z2, z3, z4⟩ := h
    refine ⟨?_, z2, z3, ?_⟩
    · simp only [had, put, List.length_append, List.length_cons, List.length_nil]; omega
    · simp only [had, put, List.length_set]; exact z4
  · exact same_small h
theorem propRecs_len (r : Raft) (c : Cmd) : (propRecs r c).length ≤ 10 := by unfold propRecs; split <;> simp
theorem propOuts_few (r : Raft) (c : Cmd) : FewOuts (propOuts r c) := by
  unfold propOuts
  split
  · rename_i h1
    have hn := raftOk1_nums (raftOk_1 (propOk_1 h1))
    exact sendAll_few (by show r.of_ ≤ 6; omega)
  · exact few_nil
theorem szMsg_small {m : Msg} {left : Int} (hl : left ≤ 1048576) (h : ¬ szMsg m left < 0) : m.entries.length ≤ 1048576 ∧ 0 ≤ szMsg m left ∧ szMsg m left ≤ left := by
  unfold szMsg at h ⊢
  split at h
  · omega
  · rename_i h1
    split at h
    · omega
    · rename_i h2
      have c1 := szB_cases left m.bytes.size
      have c2 := szB_cases (szB left m.bytes.size) m.cmd.digest.size
      have h3 := szEnts_small h
      rw [if_neg h1, if_neg h2]
      omega
theorem hears_1 {r : Raft} {m : Msg} {k : Int} (h : hears r m k = true) : raftOk r = true := by
  cases hb : raftOk r with
  | true => rfl
  | false => rw [hears_no (by rw [hb]; decide)] at h; cases h
theorem folT_small {r : Raft} (h : SmallR r) (t : Int) : SmallR (folT r t) := ⟨h.1, by show ([] : List Int).length ≤ _; decide, by show ([] : List Int).length ≤ _; decide, by show ([] : List Int).length ≤ _; decide⟩
theorem ask1_small {r : Raft} {m : Msg} (h : SmallR r) : SmallR (ask1 r m) := by
  unfold ask1 ask0
  (repeat' split) <;> first | exact h | exact folT_small h m.term
theorem askR_small {r : Raft} (m : Msg) (h : SmallR r) : SmallR (askR r m) := by
  unfold askR
  split
  · exact ask1_small h
  · exact same_small h
theorem askRecs_len (r : Raft) (m : Msg) : (askRecs r m).length ≤ 10 := by unfold askRecs; (repeat' split) <;> simp
theorem askOuts_few (r : Raft) (m : Msg) : FewOuts (askOuts r m) := by
  unfold askOuts
  split
  · exact ⟨by simp, by simp⟩
  · exact few_nil
theorem leadR_small {r : Raft} (h : SmallR r) (ho : 0 ≤ r.of_ ∧ r.of_ ≤ 5) : SmallR (leadR r) := by
  obtain ⟨z1, z2, z3, z4⟩ := h
  unfold leadR
  split
  · refine ⟨?_, ?_, ?_, ?_⟩ <;> simp [had, put, lead0] <;> omega
  · refine ⟨?_, ?_, ?_, ?_⟩ <;> simp [had, lead0] <;> omega
theorem stands_small {r : Raft} (h : SmallR r) : SmallR (stands r).1 := by
  have h' : SmallR (standR r) := ⟨h.1, by show ([] : List Int).length ≤ _; decide, h.2.2.1, h.2.2.2⟩
  unfold stands
  split
  · rename_i h1
    have hn := raftOk1_nums (raftOk_1 h1.1)
    split
    · exact leadR_small h' (by show 0 ≤ r.of_ ∧ r.of_ ≤ 5; omega)
    · exact h'
  · exact same_small h
theorem leadRecs_len (r : Raft) : (leadRecs r).length ≤ 1 := by unfold leadRecs; split <;> simp
theorem stands_len (r : Raft) : (stands r).2.1.length ≤ 10 := by
  unfold stands
  split
  · split
    · have := leadRecs_len (standR r)
      simp only [List.length_cons]
      omega
    · simp
  · simp
theorem leadR_of (r : Raft) : (leadR r).of_ = r.of_ := by unfold leadR; split <;> rfl
theorem stands_few (r : Raft) : FewOuts (stands r).2.2 := by
  unfold stands
  split
  · rename_i h1
    have hn := raftOk1_nums (raftOk_1 h1.1)
    split
    · exact sendAll_few (by rw [leadR_of]; show r.of_ ≤ 6; omega)
    · exact asks_few (by show r.of_ ≤ 6; omega)
  · exact few_nil
theorem gots_small {r : Raft} (m : Msg) (h : SmallR r) : SmallR (gots r m).1 := by
  obtain ⟨z1, z2, z3, z4⟩ := id h
  unfold gots
  split
  · split
    · exact folT_small h _
    · split
      · exact h
      · split
        · split
          · refine ⟨z1, z2, ?_, ?_⟩ <;> simp only [gotUp1, gotUp, List.length_set] <;> assumption
          · exact h
        · refine ⟨z1, z2, ?_, z4⟩; simp only [gotNo, List.length_set]; exact z3
  · exact same_small h
theorem gots_len (r : Raft) (m : Msg) : (gots r m).2.1.length ≤ 10 := by
  unfold gots
  repeat' split
  all_goals simp
theorem gots_few (r : Raft) (m : Msg) : FewOuts (gots r m).2.2 := by
  unfold gots
  repeat' split
  all_goals first | exact few_nil | (refine ⟨by simp, fun o ho => ?_⟩; rw [List.mem_singleton.1 ho]; exact ents_sendOf _ _)
theorem sendT_ok {r : Raft} {m : Msg} (h : sendB r m = true) (hf : fitsB r.hard.log m = true) : (sendT r m).1.length ≤ 80 ∧ (sendT r m).2.1.length ≤ 12 := by
  simp only [sendB, Bool.and_eq_true] at h
  have hh := hears_ok h.1
  have hn := raftOk1_nums (raftOk_1 hh.1)
  have hu := msgFits_nums hh.2.1
  have := takeE_len m.entries m.at_ r.hard.log [] (by omega) (fitsB_at hf) (by omega)
  unfold sendT
  simp only [List.length_nil] at this
  omega
theorem sends_small {r : Raft} (m : Msg) (h : SmallR r) : SmallR (sends r m).1 := by
  obtain ⟨z1, z2, z3, z4⟩ := id h
  have nil : ([] : List Int).length ≤ 1048576 := by decide
  have hs0 : SmallR (send0 r m) := by
    unfold send0
    split
    · exact folT_small h _
    · exact ⟨z1, nil, nil, nil⟩
  unfold sends
  split
  · rename_i hB
    split
    · exact h
    · split
      · exact h
      · split
        · rename_i hf
          have hT := sendT_ok hB hf
          exact ⟨by simp only [sendR]; omega, hs0.2.1, hs0.2.2.1, hs0.2.2.2⟩
        · exact hs0
  · exact same_small h
theorem sends_len (r : Raft) (m : Msg) : (sends r m).2.1.length ≤ 20 := by
  have hr : (sendRc r m).length ≤ 1 := by unfold sendRc; split <;> simp
  unfold sends
  split
  · rename_i hB
    split
    · simp
    · split
      · simp
      · split
        · rename_i hf
          have hT := sendT_ok hB hf
          simp only [List.length_append]
          omega
        · show (sendRc r m).length ≤ 20
          omega
  · simp
theorem sends_few (r : Raft) (m : Msg) : FewOuts (sends r m).2.2 := by
  unfold sends
  repeat' split
  all_goals first | exact few_nil | exact ⟨by simp, fun o ho => by rw [List.mem_singleton.1 ho]; simp [gotMsg]⟩
theorem yess_small {r : Raft} (m : Msg) (h : SmallR r) : SmallR (yess r m).1 := by
  unfold yess
  split
  · rename_i h0
    have hh := hears_ok h0
    have hn := raftOk1_nums (raftOk_1 hh.1)
    have hp := (raftOk_pair hh.1).2
    have hl := putA_len m.from_ r.yes
    have hy : SmallR (yesR r m) := ⟨h.1, by show (putA m.from_ r.yes).length ≤ _; omega, h.2.2.1, h.2.2.2⟩
    split
    · exact folT_small h _
    · split
      · exact h
      · split
        · exact leadR_small hy (by show 0 ≤ r.of_ ∧ r.of_ ≤ 5; omega)
        · exact hy
  · exact same_small h
theorem yess_len (r : Raft) (m : Msg) : (yess r m).2.1.length ≤ 10 := by
  unfold yess
  repeat' split
  all_goals first | (simp; done) | (have := leadRecs_len (yesR r m); show (leadRecs (yesR r m)).length ≤ 10; omega)
theorem yess_few (r : Raft) (m : Msg) : FewOuts (yess r m).2.2 := by
  unfold yess
  split
  · rename_i h0
    have hn := raftOk1_nums (raftOk_1 (hears_ok h0).1)
    repeat' split
    all_goals first | exact few_nil | exact sendAll_few (by rw [leadR_of]; show r.of_ ≤ 6; omega)
  · exact few_nil
theorem fieldsL_small (k : Int) : (fieldsL k).size ≤ 1048576 := by
  unfold fieldsL
  (repeat' split) <;> decide
theorem u8n (n : Nat) (h : n < 256) : ((UInt8.ofNat n).toNat : Int) = n := by
  rw [UInt8.toNat_ofNat_of_lt' h]
theorem listEq_nil {α : Type} {f : α → α → Bool} (l : List α) : listEq f l [] = ((l.length : Int) == 0) := by
  cases l with
  | nil => rfl
  | cons a l => simp [listEq]; omega
theorem size0 (s : ByteArray) : (s.toList == (⟨#[]⟩ : ByteArray).toList) = ((s.size : Int) == 0) := by
  have : s.toList.length = s.size := by rw [ByteArray.toList_eq]; simp
  rw [noBytes, Bool.eq_iff_iff, beq_iff_eq, beq_iff_eq, ← List.length_eq_zero_iff, this]
  omega
theorem b0 (s : ByteArray) : (s.toList == []) = ((s.size : Int) == 0) := by
  rw [← noBytes]; exact size0 s
theorem b1 (s : ByteArray) : s.toList.isEmpty = ((s.size : Int) == 0) := by
  rw [← b0]; cases s.toList <;> rfl
theorem fits_run (m : Msg) : msgFits m = (!((fieldsL m.kind).toList == []) && runTake m.kind (fieldsL m.kind).data.toList m) := by
  by_cases h : inR m.kind 1 7 = true
  · have h' := inR_iff.1 h
    have h7 : m.kind = 1 ∨ m.kind = 2 ∨ m.kind = 3 ∨ m.kind = 4 ∨ m.kind = 5 ∨ m.kind = 6 ∨ m.kind = 7 := by omega
    have hz : (m.entries.length : Int) = 0 ↔ m.entries = [] := by simp
    have cr : cmdEq zCmd zCmd = true := by simp [cmdEq]
    have cz : cmdEq m.cmd zCmd = cmdEq m.cmd ⟨0, 0, 0, 0, ⟨#[]⟩⟩ := rfl
    rcases h7 with h | h | h | h | h | h | h <;> simp only [msgFits, fits1, fits2, fits3, hasF, h]
    · rw [ByteArray.toList_eq, ByteArray.toList_eq, show (l8F 1).data.toList = [102, 116, 97, 115] from rfl, show (fieldsL 1).data.toList = [102, 116, 97, 120] from rfl]
      simp [hasU, runTake, takeOk, takeM, msgEq, zMsg, num8, listEq_nil, b1, h]
      grind [entsFit, zCmd, entsOk, listEq, inR]
    · rw [ByteArray.toList_eq, ByteArray.toList_eq, show (l8F 2).data.toList = [102, 116, 121] from rfl, show (fieldsL 2).data.toList = [102, 116, 121] from rfl]
      simp [hasU, runTake, takeOk, takeM, msgEq, zMsg, num8, listEq_nil, b1, h]
      grind [entsFit, zCmd, entsOk, listEq, inR]
    · rw [ByteArray.toList_eq, ByteArray.toList_eq, show (l8F 3).data.toList = [102, 116, 97, 115, 99, 101] from rfl, show (fieldsL 3).data.toList = [102, 116, 97, 120, 99, 101] from rfl]
      simp [hasU, runTake, takeOk, takeM, msgEq, zMsg, num8, listEq_nil, b1, h]
      grind [entsFit, zCmd, entsOk, listEq, inR]
    · rw [ByteArray.toList_eq, ByteArray.toList_eq, show (l8F 4).data.toList = [102, 116, 121, 97] from rfl, show (fieldsL 4).data.toList = [102, 116, 121, 97] from rfl]
      simp [hasU, runTake, takeOk, takeM, msgEq, zMsg, num8, listEq_nil, b1, h]
      grind [entsFit, zCmd, entsOk, listEq, inR]
    · rw [ByteArray.toList_eq, ByteArray.toList_eq, show (l8F 5).data.toList = [102, 114, 112] from rfl, show (fieldsL 5).data.toList = [102, 114, 112] from rfl]
      simp [hasU, runTake, takeOk, takeM, msgEq, zMsg, num8, listEq_nil, b1, h]
      grind [entsFit, zCmd, entsOk, listEq, inR]
    · rw [ByteArray.toList_eq, ByteArray.toList_eq, show (l8F 6).data.toList = [102, 114, 112, 98] from rfl, show (fieldsL 6).data.toList = [102, 114, 112, 98] from rfl]
      simp [hasU, runTake, takeOk, takeM, msgEq, zMsg, num8, listEq_nil, b1, h]
      grind [entsFit, zCmd, entsOk, listEq, inR]
    · rw [ByteArray.toList_eq, ByteArray.toList_eq, show (l8F 7).data.toList = [102, 100] from rfl, show (fieldsL 7).data.toList = [102, 100] from rfl]
      simp [hasU, runTake, takeOk, takeM, msgEq, zMsg, num8, listEq_nil, b1, h]
      grind [entsFit, zCmd, entsOk, listEq, inR]
  · have e : (fieldsL m.kind) = ⟨#[]⟩ := by
      have := inR_not.1 (Bool.eq_false_iff.2 h)
      unfold fieldsL
      (repeat' split) <;> first | rfl | omega
    have e2 : (l8F m.kind) = ⟨#[]⟩ := by unfold l8F; rw [if_neg h]
    simp [msgFits, fits1, e, e2, noBytes]
end Go.Sy
