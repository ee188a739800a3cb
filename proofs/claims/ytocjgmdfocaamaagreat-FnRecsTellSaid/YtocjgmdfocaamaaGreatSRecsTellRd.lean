/- What the functions of a node compute, part 4: a number put into its place. -/
import Derived.Test.YtocjgmdfocaamaaGreatSRecsTellRc
set_option linter.unusedVariables false
set_option linter.unusedSimpArgs false
namespace Go.Sy
def putA (v : Int) : List Int → List Int
  | [] => [v]
  | x :: l => if x < v then x :: putA v l else if x = v then x :: l else v :: x :: l
theorem asc_pair : ∀ (l : List Int) (p hi : Int), asc hi p l = true → (∀ x ∈ l, p < x) ∧ l.Pairwise (· < ·)
  | [], p, hi, _ => ⟨fun x h => (by cases h), List.Pairwise.nil⟩
  | n :: l, p, hi, h => by
    simp only [asc, Bool.and_eq_true, inR_iff, decide_eq_true_eq] at h
    obtain ⟨h1, h2⟩ := asc_pair l n hi h.2
    refine ⟨fun x hx => ?_, List.pairwise_cons.2 ⟨h1, h2⟩⟩
    rcases List.mem_cons.1 hx with rfl | hx
    · omega
    · have := h1 x hx; omega
theorem hasI_iff (v : Int) : ∀ l : List Int, hasI v l = true ↔ v ∈ l
  | [] => by simp [hasI]
  | a :: l => by
    have := hasI_iff v l
    simp [hasI, this]
    exact ⟨fun h => h.imp Eq.symm id, fun h => h.imp Eq.symm id⟩
def l7G (v : Int) : Bool → List Int → List Int
  | d, [] => if d = true then [] else [v]
  | d, x :: l => (if (!d && decide (x ≥ v)) = true then [v] else []) ++ ((if x = v then [] else [x]) ++ l7G v (d || decide (x ≥ v)) l)
theorem l7G_done {v : Int} : ∀ l : List Int, (∀ x ∈ l, v < x) → l7G v true l = l
  | [], _ => rfl
  | x :: l, h => by
    have h1 := h x List.mem_cons_self
    rw [l7G, if_neg (by simp), if_neg (by omega), Bool.true_or, l7G_done l (fun y hy => h y (List.mem_cons_of_mem _ hy))]
    rfl
theorem l7G_put {v : Int} : ∀ l : List Int, l.Pairwise (· < ·) → l7G v false l = putA v l
  | [], _ => rfl
  | x :: l, h => by
    obtain ⟨h1, h2⟩ := List.pairwise_cons.1 h
    unfold l7G putA
    by_cases q1 : x < v
    · rw [if_neg (by simp; omega), if_neg (by omega), if_pos q1, show (false || decide (x ≥ v)) = false by simp; omega, l7G_put l h2]
      rfl
    · rw [if_pos (by simp; omega), if_neg q1, show (false || decide (x ≥ v)) = true by simp; omega]
      by_cases q2 : x = v
      · subst q2
        rw [if_pos rfl, if_pos rfl, l7G_done l h1]
        rfl
      · rw [if_neg q2, if_neg q2, l7G_done l (fun y hy => by have := h1 y hy; omega)]
        rfl
def nthI (l : List Int) (k : Nat) : Int := (l[k]?).getD 0
def insAt (v : Int) (s : List Int) : Nat → List Int
  | 0 => v :: s
  | j + 1 => if v < nthI s j then insAt v s j else s.take (j + 1) ++ v :: s.drop (j + 1)
def ins (v : Int) (s : List Int) : List Int := insAt v s s.length
def isortN (x : List Int) : Nat → List Int
  | 0 => []
  | k + 1 => ins (nthI x k) (isortN x k)
def isort (x : List Int) : List Int := isortN x x.length
theorem insAt_len (v : Int) (s : List Int) : ∀ j, j ≤ s.length → (insAt v s j).length = s.length + 1
  | 0, _ => rfl
  | j + 1, h => by
    unfold insAt
    split
    · exact insAt_len v s j (by omega)
    · simp; omega
theorem isortN_len (x : List Int) : ∀ k, (isortN x k).length = k
  | 0 => rfl
  | k + 1 => by unfold isortN ins; rw [insAt_len _ _ _ (Nat.le_refl _), isortN_len x k]
theorem insAt_go {v : Int} {s : List Int} {j : Nat} (h : 0 < j) (hv : v < nthI s (j - 1)) : insAt v s j = insAt v s (j - 1) := by
  obtain ⟨i, rfl⟩ : ∃ i, j = i + 1 := ⟨j - 1, by omega⟩
  show (if v < nthI s i then insAt v s i else _) = _
  have hv' : v < nthI s i := hv
  rw [if_pos hv']; rfl
theorem insAt_end {v : Int} {s : List Int} {j : Nat} (h : j = 0 ∨ ¬ v < nthI s (j - 1)) : insAt v s j = s.take j ++ v :: s.drop j := by
  cases j with
  | zero => rfl
  | succ i =>
    show (if v < nthI s i then insAt v s i else _) = _
    have h' : ¬ v < nthI s i := h.elim (fun q => by omega) id
    rw [if_neg h']
def mid (v : Int) (s t : List Int) (j : Nat) : List Int := s.take j ++ v :: (s.drop j ++ t)
theorem mid_len (v : Int) (s t : List Int) {j : Nat} (h : j ≤ s.length) : (mid v s t j).length = s.length + 1 + t.length := by simp [mid]; omega
theorem mid_at {v : Int} {s t : List Int} {j : Nat} (h : j ≤ s.length) : (mid v s t j)[j]? = some v := by
  unfold mid
  rw [List.getElem?_append_right (by simp; omega), List.length_take, Nat.min_eq_left h, Nat.sub_self]
  rfl
theorem mid_prev {v : Int} {s t : List Int} {j : Nat} (h : j ≤ s.length) (h0 : 0 < j) : (mid v s t j)[j - 1]? = some (nthI s (j - 1)) := by
  unfold mid
  rw [List.getElem?_append_left (by simp; omega), List.getElem?_take, if_pos (by omega), nthI, List.getElem?_eq_getElem (show j - 1 < s.length by omega)]
  rfl
theorem mid_swap {v : Int} {s t : List Int} {j : Nat} (h : j ≤ s.length) (h0 : 0 < j) : ((mid v s t j).set j (nthI s (j - 1))).set (j - 1) v = mid v s t (j - 1) := by
  apply List.ext_getElem?
  intro i
  have e : nthI s (j - 1) = s[j - 1]'(by omega) := by unfold nthI; rw [List.getElem?_eq_getElem (by omega)]; rfl
  rw [List.getElem?_set, List.getElem?_set, List.length_set, mid_len v s t h]
  by_cases h1 : j - 1 = i
  · rw [if_pos h1, if_pos (by omega), ← h1, mid_at (by omega)]
  · rw [if_neg h1]
    by_cases h2 : j = i
    · subst h2
      rw [if_pos rfl, if_pos (by omega), e]
      unfold mid
      rw [List.getElem?_append_right (by simp; omega), List.length_take, Nat.min_eq_left (show j - 1 ≤ s.length by omega), show j - (j - 1) = 0 + 1 by omega, List.getElem?_cons_succ, List.getElem?_append_left (by simp; omega), List.getElem?_drop, Nat.add_zero, List.getElem?_eq_getElem]
    · rw [if_neg h2]
      unfold mid
      by_cases h3 : i < j - 1
      · rw [List.getElem?_append_left (by simp; omega), List.getElem?_append_left (by simp; omega), List.getElem?_take, List.getElem?_take, if_pos (by omega), if_pos (by omega)]
      · rw [List.getElem?_append_right (by simp; omega), List.getElem?_append_right (by simp; omega), List.length_take, List.length_take, Nat.min_eq_left h, Nat.min_eq_left (show j - 1 ≤ s.length by omega)]
        obtain ⟨d, hd⟩ : ∃ d, i = j + 1 + d := ⟨i - (j + 1), by omega⟩
        rw [show i - j = d + 1 by omega, show i - (j - 1) = (d + 1) + 1 by omega, List.getElem?_cons_succ, List.getElem?_cons_succ]
        have hdr : s.drop (j - 1) = s[j - 1]'(by omega) :: s.drop j := by
          rw [List.drop_eq_getElem_cons (show j - 1 < s.length by omega), show j - 1 + 1 = j by omega]
        rw [hdr, List.cons_append, List.getElem?_cons_succ]
theorem mid_start (x : List Int) {k : Nat} (h : k < x.length) : isortN x k ++ x.drop k = mid (nthI x k) (isortN x k) (x.drop (k + 1)) k := by
  unfold mid
  have hl := isortN_len x k
  rw [List.take_of_length_le (by omega), List.drop_of_length_le (show (isortN x k).length ≤ k by omega), List.drop_eq_getElem_cons h, nthI, List.getElem?_eq_getElem h]
  rfl
theorem mid_done (x : List Int) {k j : Nat} (hq : insAt (nthI x k) (isortN x k) j = ins (nthI x k) (isortN x k)) (h : j = 0 ∨ ¬ nthI x k < nthI (isortN x k) (j - 1)) : mid (nthI x k) (isortN x k) (x.drop (k + 1)) j = isortN x (k + 1) ++ x.drop (k + 1) := by
  show _ = ins (nthI x k) (isortN x k) ++ _
  rw [← hq, insAt_end h, mid, List.append_assoc]
  rfl
theorem putA_split {v : Int} {b : List Int} (hb : ∀ y ∈ b, v < y) : ∀ a : List Int, (∀ x ∈ a, x < v) → putA v (a ++ b) = a ++ v :: b
  | [], _ => by
    cases b with
    | nil => rfl
    | cons y b =>
      have := hb y List.mem_cons_self
      show putA v (y :: b) = v :: y :: b
      rw [putA, if_neg (by omega), if_neg (by omega)]
  | x :: a, h => by
    have := h x List.mem_cons_self
    show putA v (x :: (a ++ b)) = x :: (a ++ v :: b)
    rw [putA, if_pos this, putA_split hb a (fun y hy => h y (List.mem_cons_of_mem _ hy))]
theorem insAt_putA {v : Int} {s : List Int} (hs : s.Pairwise (· < ·)) (hv : v ∉ s) : ∀ j, j ≤ s.length → (∀ x ∈ s.drop j, v < x) → insAt v s j = putA v s
  | 0, _, h => (putA_split (b := s) (fun y hy => h y (by simpa using hy)) [] (fun x hx => by cases hx)).symm
  | j + 1, hj, h => by
    have hlt : j < s.length := by omega
    have e : nthI s j = s[j] := by unfold nthI; rw [List.getElem?_eq_getElem hlt]; rfl
    unfold insAt
    split
    · rename_i h1
      refine insAt_putA hs hv j (by omega) (fun x hx => ?_)
      rw [List.drop_eq_getElem_cons hlt] at hx
      rcases List.mem_cons.1 hx with rfl | hx
      · omega
      · exact h x hx
    · rename_i h1
      have hne : s[j] ≠ v := fun q => hv (q ▸ List.getElem_mem hlt)
      have := putA_split (v := v) (b := s.drop (j + 1)) h (s.take (j + 1)) (fun x hx => ?_)
      · rw [List.take_append_drop] at this; exact this.symm
      · obtain ⟨i, hi⟩ := List.getElem?_of_mem hx
        rw [List.getElem?_take] at hi
        split at hi
        · rename_i hij
          obtain ⟨hi1, hi2⟩ := List.getElem?_eq_some_iff.1 hi
          by_cases hq : i = j
          · subst hq; omega
          · have := List.pairwise_iff_getElem.1 hs i j hi1 hlt (by omega)
            omega
        · cases hi
theorem isortN_asc {l : List Int} (hs : l.Pairwise (· < ·)) (t : List Int) : ∀ k, k ≤ l.length → isortN (l ++ t) k = l.take k
  | 0, _ => by simp [isortN]
  | k + 1, h => by
    have hlt : k < l.length := by omega
    have e : nthI (l ++ t) k = l[k] := by unfold nthI; rw [List.getElem?_append_left hlt, List.getElem?_eq_getElem hlt]; rfl
    unfold isortN
    rw [isortN_asc hs t k (by omega), e, ins, List.length_take, Nat.min_eq_left (by omega)]
    rw [insAt_end, List.take_take, Nat.min_self, List.drop_of_length_le (by simp; omega), List.take_succ_eq_append_getElem hlt]
    cases k with
    | zero => exact .inl rfl
    | succ i =>
      refine .inr ?_
      have h1 : nthI (l.take (i + 1)) i = l[i] := by unfold nthI; rw [List.getElem?_take, if_pos (by omega), List.getElem?_eq_getElem (by omega)]; rfl
      have := List.pairwise_iff_getElem.1 hs i (i + 1) (by omega) hlt (by omega)
      show ¬ _ < nthI (l.take (i + 1)) i
      omega
theorem isort_put {v : Int} {l : List Int} (hs : l.Pairwise (· < ·)) (hv : v ∉ l) : isort (l ++ [v]) = putA v l := by
  unfold isort
  rw [List.length_append, show [v].length = 1 from rfl]
  unfold isortN
  rw [isortN_asc hs [v] l.length (Nat.le_refl _), List.take_of_length_le (Nat.le_refl _)]
  have e : nthI (l ++ [v]) l.length = v := by unfold nthI; rw [List.getElem?_append_right (Nat.le_refl _), Nat.sub_self]; rfl
  rw [e]
  exact insAt_putA hs hv _ (Nat.le_refl _) (fun x hx => by rw [List.drop_length] at hx; cases hx)
theorem putA_mem {v : Int} : ∀ l : List Int, l.Pairwise (· < ·) → v ∈ l → putA v l = l
  | x :: l, h, hv => by
    obtain ⟨h1, h2⟩ := List.pairwise_cons.1 h
    unfold putA
    rcases List.mem_cons.1 hv with rfl | hm
    · rw [if_neg (by omega), if_pos rfl]
    · have := h1 v hm
      rw [if_pos this, putA_mem l h2 hm]
theorem putA_len (v : Int) : ∀ l : List Int, (putA v l).length ≤ l.length + 1
  | [] => by simp [putA]
  | x :: l => by
    have := putA_len v l
    unfold putA
    (repeat' split) <;> simp <;> omega
def len8 : ByteArray := ⟨#[0, 1, 2, 2, 3, 3, 3, 3, 4, 4, 4, 4, 4, 4, 4, 4, 5, 5, 5, 5, 5, 5, 5, 5, 5, 5, 5, 5, 5, 5, 5, 5, 6, 6, 6, 6, 6, 6, 6, 6, 6, 6, 6, 6, 6, 6, 6, 6, 6, 6, 6, 6, 6, 6, 6, 6, 6, 6, 6, 6, 6, 6, 6, 6, 7, 7, 7, 7, 7, 7, 7, 7, 7, 7, 7, 7, 7, 7, 7, 7, 7, 7, 7, 7, 7, 7, 7, 7, 7, 7, 7, 7, 7, 7, 7, 7, 7, 7, 7, 7, 7, 7, 7, 7, 7, 7, 7, 7, 7, 7, 7, 7, 7, 7, 7, 7, 7, 7, 7, 7, 7, 7, 7, 7, 7, 7, 7, 7, 8, 8, 8, 8, 8, 8, 8, 8, 8, 8, 8, 8, 8, 8, 8, 8, 8, 8, 8, 8, 8, 8, 8, 8, 8, 8, 8, 8, 8, 8, 8, 8, 8, 8, 8, 8, 8, 8, 8, 8, 8, 8, 8, 8, 8, 8, 8, 8, 8, 8, 8, 8, 8, 8, 8, 8, 8, 8, 8, 8, 8, 8, 8, 8, 8, 8, 8, 8, 8, 8, 8, 8, 8, 8, 8, 8, 8, 8, 8, 8, 8, 8, 8, 8, 8, 8, 8, 8, 8, 8, 8, 8, 8, 8, 8, 8, 8, 8, 8, 8, 8, 8, 8, 8, 8, 8, 8, 8, 8, 8, 8, 8, 8, 8, 8, 8, 8, 8, 8, 8, 8, 8, 8, 8, 8, 8, 8, 8]⟩
def lenT (x : Int) : Int := ((len8.data[(u8Of x).toNat]?).getD 0).toNat
theorem isort_one {x : List Int} (h : 1 ≤ x.length) : x = isortN x 1 ++ x.drop 1 := by
  cases x with
  | nil => simp at h
  | cons a l => rfl
theorem isort_len (x : List Int) : (isort x).length = x.length := isortN_len x x.length
theorem mid_row {data p : List Int} {k j : Nat} (hj : j ≤ k) (hk : k < data.length) (hp : p = mid (nthI data k) (isortN data k) (data.drop (k + 1)) j) : p.length = data.length := by
  rw [hp, mid_len _ _ _ (by rw [isortN_len]; exact hj), isortN_len, List.length_drop]; omega
theorem mid_step {data p : List Int} {k j : Nat} {e1 e2 : Int} (hj : j ≤ k) (hp : p = mid (nthI data k) (isortN data k) (data.drop (k + 1)) j) (h0 : 0 < j) (he1 : p[j]? = some e1) (he2 : p[j - 1]? = some e2) :
    (p.set j e2).set (j - 1) e1 = mid (nthI data k) (isortN data k) (data.drop (k + 1)) (j - 1) ∧ e1 = nthI data k ∧ e2 = nthI (isortN data k) (j - 1) := by
  have hl : j ≤ (isortN data k).length := by rw [isortN_len]; exact hj
  rw [hp, mid_at hl] at he1
  rw [hp, mid_prev hl h0] at he2
  have q1 := Option.some.inj he1
  have q2 := Option.some.inj he2
  rw [hp, ← q1, ← q2]
  exact ⟨mid_swap hl h0, rfl, rfl⟩
theorem mid_exit0 {data p : List Int} {k j : Nat} (hp : p = mid (nthI data k) (isortN data k) (data.drop (k + 1)) j) (hq : insAt (nthI data k) (isortN data k) j = ins (nthI data k) (isortN data k)) (h : j = 0) : p = isortN data (k + 1) ++ data.drop (k + 1) := by
  rw [hp]; exact mid_done data hq (.inl h)
theorem mid_exit1 {data p : List Int} {k j : Nat} {e1 e2 : Int} (hj : j ≤ k) (hp : p = mid (nthI data k) (isortN data k) (data.drop (k + 1)) j) (hq : insAt (nthI data k) (isortN data k) j = ins (nthI data k) (isortN data k)) (h0 : 0 < j) (he1 : p[j]? = some e1) (he2 : p[j - 1]? = some e2) (h : ¬ e1 < e2) : p = isortN data (k + 1) ++ data.drop (k + 1) := by
  obtain ⟨_, q1, q2⟩ := mid_step hj hp h0 he1 he2
  rw [hp]; exact mid_done data hq (.inr (by rw [← q1, ← q2]; exact h))
def yesR (r : Raft) (m : Msg) : Raft := { r with yes := putA m.from_ r.yes }
def yess (r : Raft) (m : Msg) : Raft × List Rec × List Out :=
  if hears r m 2 = true then
    (if m.term > r.hard.term then (folT r m.term, [voteRec (folT r m.term)], [])
    else if r.role ≠ 2 ∨ m.term ≠ r.hard.term ∨ m.yes = false then (r, [], [])
    else if 2 * (((yesR r m).yes.length : Int) + 1) > r.of_ then (leadR (yesR r m), leadRecs (yesR r m), sendAll (leadR (yesR r m)))
    else (yesR r m, [], []))
  else (same r, [], [])
theorem raftOk_pair {r : Raft} (h : raftOk r = true) : r.yes.Pairwise (· < ·) ∧ (r.yes.length : Int) ≤ r.of_ := by
  have h1 := raftOk_1 h
  refine ⟨?_, raftOk1_len h1⟩
  simp only [raftOk1, Bool.and_eq_true] at h1
  exact (asc_pair _ _ _ h1.2.2.2.2.2.1).2
section
variable {r : Raft} {m : Msg}
theorem yess_un (h : hears r m 2 = false) (ho : raftOk r = true) : yess r m = (r, [], []) := by unfold yess; rw [if_neg (by rw [h]; decide), same, if_pos ho]
theorem yess_term (h : hears r m 2 = true) (h1 : m.term > r.hard.term) : yess r m = (folT r m.term, [voteRec (folT r m.term)], []) := by unfold yess; rw [if_pos h, if_pos h1]
theorem yess_not (h : hears r m 2 = true) (h1 : ¬ m.term > r.hard.term) (h2 : r.role ≠ 2 ∨ m.term ≠ r.hard.term ∨ m.yes = false) : yess r m = (r, [], []) := by unfold yess; rw [if_pos h, if_neg h1, if_pos h2]
theorem yess_less (h : hears r m 2 = true) (h1 : ¬ m.term > r.hard.term) (h2 : r.role = 2) (h3 : m.term = r.hard.term) (hy : m.yes = true) (hc : ¬ 2 * (((putA m.from_ r.yes).length : Int) + 1) > r.of_) : yess r m = ({ r with yes := putA m.from_ r.yes }, [], []) := by
  unfold yess
  rw [if_pos h, if_neg h1, if_neg (by rintro (q | q | q) <;> first | omega | (rw [hy] at q; cases q)), if_neg (show ¬ 2 * (((yesR r m).yes.length : Int) + 1) > r.of_ from hc)]; rfl
theorem yess_lead (h : hears r m 2 = true) (h1 : ¬ m.term > r.hard.term) (h2 : r.role = 2) (h3 : m.term = r.hard.term) (hy : m.yes = true) (hc : 2 * (((putA m.from_ r.yes).length : Int) + 1) > r.of_) : yess r m = (leadR { r with yes := putA m.from_ r.yes }, leadRecs { r with yes := putA m.from_ r.yes }, sendAll (leadR { r with yes := putA m.from_ r.yes })) := by
  unfold yess
  rw [if_pos h, if_neg h1, if_neg (by rintro (q | q | q) <;> first | omega | (rw [hy] at q; cases q)), if_pos (show 2 * (((yesR r m).yes.length : Int) + 1) > r.of_ from hc)]; rfl
theorem putA_has (ho : raftOk r = true) (h : hasI m.from_ r.yes = true) : putA m.from_ r.yes = r.yes := putA_mem _ (raftOk_pair ho).1 ((hasI_iff _ _).1 h)
theorem putA_new (ho : raftOk r = true) (h : hasI m.from_ r.yes = false) : isort (r.yes ++ [m.from_]) = putA m.from_ r.yes := isort_put (raftOk_pair ho).1 (fun q => by rw [(hasI_iff _ _).2 q] at h; cases h)
end
end Go.Sy

