/- The laws on votes and on what is known committed, in plain words. -/
import Derived.Test.YtlmadhahghiedaaGreatSOneVoteRg
set_option linter.unusedVariables false
set_option linter.unusedSimpArgs false
namespace Go.Sy
theorem rd_u8 {H : Type} {enc : TypeId × Value → H} {P : Program} {W : World} {t : TypeId} (ht : P.underlying t = some (.int .u8)) : RdV enc P W t 1 (fun b : UInt8 => [encU8 b]) (fun _ => True) := by
  intro fuel cs x h
  obtain ⟨n, hK, hl, hw⟩ := rd_int (enc := enc) (W := W) ht fuel cs x h
  have hb : 0 ≤ n ∧ n ≤ 255 := by
    simp only [Lit.wf, Bool.and_eq_true, decide_eq_true_eq] at hw
    simp [IntKind.min, IntKind.max, IntKind.bits, IntKind.signed] at hw
    omega
  refine ⟨UInt8.ofNat n.toNat, ?_, hl, trivial⟩
  have e : encU8 (UInt8.ofNat n.toNat) = .int .u8 n := by
    unfold encU8
    congr 1
    rw [UInt8.toNat_ofNat']
    omega
  simpa only [e] using hK
def cvC : List Nat → List V → List V
  | e :: l, x :: xs => x.cv e :: cvC l xs
  | [], xs => xs
  | _ :: _, [] => []
theorem cvC_length : ∀ (l : List Nat) (xs : List V), (cvC l xs).length = xs.length
  | [], xs => by cases xs <;> rfl
  | _ :: _, [] => rfl
  | e :: l, x :: xs => by simp [cvC, cvC_length l xs]
theorem cvC_get : ∀ (l : List Nat) (xs : List V) (j : Nat) (x : V), (cvC l xs)[j]? = some x → ∃ y, xs[j]? = some y ∧ (x = y ∨ ∃ es, x = y.cv es)
  | [], xs, j, x, h => by
    have : cvC [] xs = xs := by cases xs <;> rfl
    rw [this] at h
    exact ⟨x, h, .inl rfl⟩
  | _ :: _, [], j, x, h => by simp [cvC] at h
  | e :: l, y :: xs, 0, x, h => ⟨y, rfl, .inr ⟨e, by simpa [cvC] using h.symm⟩⟩
  | e :: l, y :: xs, j + 1, x, h => by
    obtain ⟨z, h1, h2⟩ := cvC_get l xs j x (by simpa [cvC] using h)
    exact ⟨z, by simpa using h1, h2⟩
def V.cv2 (l : List Nat) : V → V
  | .agg cs => .agg (cvC l cs)
  | .un => .un
  | .int k n => .int k n
  | .bool b => .bool b
  | .str s => .str s
  | .tup vs => .tup vs
  | .nil => .nil
  | .sl p es xs => .sl p es xs
  | .own e es xs => .own e es xs
  | .ref i => .ref i
  | .sub i off len => .sub i off len
  | .ptr i k off => .ptr i k off
  | .vp p es xs k off => .vp p es xs k off
  | .np => .np
  | .fn f => .fn f
theorem cv2_rep {G : Gh} {w : World} {ob : Nat → Ob} (H : Hold G w ob) {v : Value} {x : V} (l : List Nat) (h : G.Rep w v x) : G.Rep w v (x.cv2 l) := by
  cases x with
  | agg cs =>
    obtain ⟨a, rfl, h1, h2⟩ := Rep.inv_agg h
    simp only [V.cv2]
    refine .agg a _ (by rw [cvC_length]; exact h1) (fun j x hx => ?_)
    obtain ⟨y, hy, rfl | ⟨es, rfl⟩⟩ := cvC_get l cs j x hx
    · exact h2 j x hy
    · exact cv_rep H es (h2 j y hy)
  | _ => exact h
def cvB : List (List Nat) → List V → List V
  | [] :: m, x :: l => x :: cvB m l
  | (e :: k) :: m, x :: l => x.cv2 (e :: k) :: cvB m l
  | [], l => l
  | _ :: _, [] => []
theorem cvB_length : ∀ (m : List (List Nat)) (l : List V), (cvB m l).length = l.length
  | [], l => by cases l <;> rfl
  | [] :: m, [] => rfl
  | (_ :: _) :: m, [] => rfl
  | [] :: m, x :: l => by simp [cvB, cvB_length m l]
  | (_ :: _) :: m, x :: l => by simp [cvB, cvB_length m l]
theorem cvB_get : ∀ (m : List (List Nat)) (l : List V) (j : Nat) (x : V), (cvB m l)[j]? = some x → ∃ y, l[j]? = some y ∧ (x = y ∨ ∃ k, x = y.cv2 k)
  | [], l, j, x, h => by
    have : cvB [] l = l := by cases l <;> rfl
    rw [this] at h
    exact ⟨x, h, .inl rfl⟩
  | [] :: m, [], j, x, h => by simp [cvB] at h
  | (_ :: _) :: m, [], j, x, h => by simp [cvB] at h
  | [] :: m, y :: l, 0, x, h => ⟨y, rfl, .inl (by simpa [cvB] using h.symm)⟩
  | (e :: k) :: m, y :: l, 0, x, h => ⟨y, rfl, .inr ⟨e :: k, by simpa [cvB] using h.symm⟩⟩
  | [] :: m, y :: l, j + 1, x, h => by
    obtain ⟨z, h1, h2⟩ := cvB_get m l j x (by simpa [cvB] using h)
    exact ⟨z, by simpa using h1, h2⟩
  | (e :: k) :: m, y :: l, j + 1, x, h => by
    obtain ⟨z, h1, h2⟩ := cvB_get m l j x (by simpa [cvB] using h)
    exact ⟨z, by simpa using h1, h2⟩
theorem FnSpec.cv2 {P : Program} {f : Nat} {As : List V} {T : List Ob} {R : V} {T' : List Ob} (m : List (List Nat)) (h : FnSpec P f (cvB m As) T R T') : FnSpec P f As T R T' := by
  intro G w args H hs hr
  refine h G w args H (by rw [cvB_length]; exact hs) (fun k x hx => ?_)
  obtain ⟨y, hy, rfl | ⟨es, rfl⟩⟩ := cvB_get m As k x hx
  · exact hr k x hy
  · exact cv2_rep H es (hr k y hy)
section
variable {r : Raft} {m : Msg}
theorem one_is {o e : Out} {b : Bool} (h : [o][0]? = some e) (hb : o.msg.yes = b) : e.msg.yes = b := by
  simp only [List.getElem?_cons_zero, Option.some.injEq] at h
  rw [← h]; exact hb
theorem ask_one {e : Out} (h : (askOuts r m)[0]? = some e) : hears r m 1 = true ∧ e.msg.yes = askYes r m := by
  unfold askOuts at h
  split at h
  · rename_i hh
    refine ⟨hh, ?_⟩
    simp only [List.getElem?_cons_zero, Option.some.injEq] at h
    rw [← h]
  · simp at h
theorem vote_no (h : hears r m 1 = true) (hy : askYes r m = false) : (askR r m).hard.vote = r.hard.vote ∨ (askR r m).hard.vote = 0 := by
  unfold askR
  rw [if_pos h]
  unfold ask1
  rw [if_neg (by rw [hy]; decide)]
  unfold ask0
  split
  · exact .inr rfl
  · exact .inl rfl
theorem ask1_of : (ask1 r m).of_ = r.of_ ∧ (ask1 r m).id = r.id ∧ (ask1 r m).hard.log = r.hard.log := by
  unfold ask1 ask0
  (repeat' split) <;> exact ⟨rfl, rfl, rfl⟩
theorem ask1_yes (hy : askYes r m = true) : (ask1 r m).hard.term = m.term ∧ (ask1 r m).hard.vote = m.from_ + 1 := by
  unfold ask1
  rw [if_pos hy]
  refine ⟨?_, rfl⟩
  unfold askYes yesB at hy
  simp only [Bool.and_eq_true, beq_iff_eq] at hy
  exact hy.1.symm
theorem vote_hears (h : hears r m 1 = true) (f : Int) (hf : 0 ≤ f ∧ f < r.of_ ∧ f ≠ r.id) : hears (ask1 r m) ⟨m.kind, f, m.term, m.at_, m.atTerm, m.commit, m.yes, m.release, m.part, m.bytes, m.cmd, m.entries⟩ 1 = true := by
  have h1 := ask1_ok h
  obtain ⟨ho, hm, hk, h2, h3, h4, h5⟩ := hears_ok h
  obtain ⟨e1, e2, _⟩ := ask1_of (r := r) (m := m)
  have hr := raftOk1_nums (raftOk_1 ho)
  have hfit : msgFits ⟨m.kind, f, m.term, m.at_, m.atTerm, m.commit, m.yes, m.release, m.part, m.bytes, m.cmd, m.entries⟩ = true := by
    have e0 : hasF m 102 = true := by unfold hasF; rw [hk]; rfl
    have q : num8 (hasF m 102) f 0 4 = true := by rw [e0]; exact inR_iff.2 (by omega)
    simp only [msgFits, fits1, Bool.and_eq_true] at hm ⊢
    exact ⟨⟨hm.1.1, q, hm.1.2.2⟩, hm.2⟩
  simp only [hears, Bool.and_eq_true, beq_iff_eq, decide_eq_true_eq, Bool.not_eq_true', beq_eq_false_iff_ne]
  exact ⟨h1, hfit, hk, by rw [e1]; exact hf.2.1, by rw [e2]; exact hf.2.2⟩
theorem vote_again (h : hears r m 1 = true) (hy : askYes r m = true) : (∃ o, askOuts (askR r m) m = [o] ∧ o.msg.yes = true) ∧ (askR r m).hard.vote = m.from_ + 1 := by
  have e : askR r m = ask1 r m := if_pos h
  obtain ⟨e1, e2⟩ := ask1_yes hy
  obtain ⟨ho, hm, hk, h2, h3, h4, h5⟩ := hears_ok h
  have hh := vote_hears h m.from_ ⟨h4, h2, h3⟩
  rw [e]
  refine ⟨?_, e2⟩
  have hh' : hears (ask1 r m) m 1 = true := hh
  refine ⟨_, if_pos hh', ?_⟩
  show askYes (ask1 r m) m = true
  have ea : ask0 (ask1 r m) m = ask1 r m := by unfold ask0; rw [if_neg (by rw [e1]; omega)]
  unfold askYes
  rw [ea, e1, e2, (ask1_of).2.2]
  unfold askYes at hy
  unfold yesB at hy ⊢
  simp only [Bool.and_eq_true] at hy ⊢
  simp [hy.2.2]
theorem vote_other (h : hears r m 1 = true) (hy : askYes r m = true) {f : Int} (hf : 0 ≤ f ∧ f < r.of_ ∧ f ≠ r.id) (hne : f ≠ m.from_) :
    ∃ o, askOuts (askR r m) ⟨m.kind, f, m.term, m.at_, m.atTerm, m.commit, m.yes, m.release, m.part, m.bytes, m.cmd, m.entries⟩ = [o] ∧ o.msg.yes = false := by
  have e : askR r m = ask1 r m := if_pos h
  obtain ⟨e1, e2⟩ := ask1_yes hy
  obtain ⟨ho, hm, hk, h2, h3, h4, h5⟩ := hears_ok h
  rw [e]
  refine ⟨_, if_pos (vote_hears h f hf), ?_⟩
  show askYes (ask1 r m) _ = false
  have ea : ask0 (ask1 r m) ⟨m.kind, f, m.term, m.at_, m.atTerm, m.commit, m.yes, m.release, m.part, m.bytes, m.cmd, m.entries⟩ = ask1 r m := by unfold ask0; rw [if_neg (by rw [e1]; dsimp only; omega)]
  unfold askYes
  rw [ea, e1, e2]
  unfold yesB
  simp only [Bool.and_eq_false_iff, Bool.or_eq_false_iff, beq_eq_false_iff_ne]
  exact .inr (.inl ⟨by omega, by omega⟩)
theorem vote_again2 (h : hears r m 1 = true) (hy : askYes r m = true) : ∃ o, askOuts (askR r m) m = [o] ∧ o.msg.yes = true ∧ (askR r m).hard.vote = m.from_ + 1 := by
  obtain ⟨⟨o, h1, h2⟩, h3⟩ := vote_again h hy
  exact ⟨o, h1, h2, h3⟩
theorem mod_in {x n : Int} (hn : n = 1 ∨ n = 3 ∨ n = 5) : 0 ≤ x % n ∧ x % n < n := ⟨Int.emod_nonneg _ (by omega), Int.emod_lt_of_pos _ (by omega)⟩
theorem mod_ne {x n : Int} (hn : n = 3 ∨ n = 5) (h0 : 0 ≤ x) (h1 : x < n) : (x + 1) % n ≠ x := by
  rcases hn with rfl | rfl <;> omega
theorem beat_zero : beat ⟨0, 0, 0, 0, ⟨0, 0, []⟩, [], [], []⟩ = [] := by
  unfold beat
  rw [if_neg (by decide)]
theorem askR_smallR (hz : SmallR r) : SmallR (askR r m) := askR_small m hz
end
end Go.Sy

