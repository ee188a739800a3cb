/- The rules of single operations, part 5: append, literals, make, cuts. -/
import Derived.Test.YtocjgmdfocaamaaGreatSRecsTellG
set_option linter.unusedVariables false
set_option linter.unusedSimpArgs false
namespace Go.Sy
section
variable {P : Program} {N : Cx} {ops : Array Oper}
def FirstIs (ob : Nat → Ob) (S : V) (e es : Nat) (xs : List V) (kill : List Nat) : Prop :=
  match S with
  | .nil => xs = [] ∧ kill = []
  | .ref i => ob i = .arr e es xs ∧ kill = [i]
  | .sub i off n => off = 0 ∧ ∃ ys, ob i = .arr e es ys ∧ n ≤ ys.length ∧ xs = ys.take n ∧ kill = [i]
  | _ => False
def SecondIs (ob : Nat → Ob) (T : V) (e es : Nat) (ys : List V) (kill : List Nat) : Prop :=
  match T with
  | .nil => ys = [] ∧ kill = []
  | .ref j => ob j = .arr e es ys ∧ ((kill = [] ∧ AllP ys) ∨ kill = [j])
  | .sub j off n => ∃ zs, ob j = .arr e es zs ∧ off + n ≤ zs.length ∧ ys = (zs.drop off).take n ∧ AllP ys ∧ kill = []
  | .sl p es' zs => es' = es ∧ zs = ys ∧ AllP ys ∧ kill = []
  | _ => False
def obK : V → List Nat
  | .ref i => [i]
  | .sub i _ _ => [i]
  | _ => []
theorem row_take {w : World} {I J : Nat → Prop} {g cap : Nat} {e es : Nat} {xs : List V} {M : Nat → Nat → Nat → Prop} (h : Row w I J (.slice (some ⟨g, 0, none⟩) xs.length cap) e es xs M) {n : Nat} (hn : n ≤ xs.length) : Row w I J (.slice (some ⟨g, 0, none⟩) n cap) e es (xs.take n) (fun a j b => a < n ∧ M a j b) := by
  obtain ⟨cells, ⟨h1, h2⟩, h3, h4, h5, h6⟩ := h
  rcases h2 with ⟨h2, _⟩ | ⟨g', cap', cur, h2, _, hg, hc, hm, hs, ht⟩
  · cases h2
  · injection h2 with h2 _ h7
    injection h2 with h2
    injection h2 with h2
    subst h2
    subst h7
    have hle := Nat.mul_le_mul_right es hn
    have hlen : (xs.take n).length = n := by simp; omega
    refine ⟨cells.take (n * es), ⟨by rw [hlen]; simp; omega, .inr ⟨g, cap, cur, by rw [hlen], Nat.zero_le _, hg, by omega, hm, hs, by rw [hlen, ← ht, List.take_take, Nat.min_eq_left hle]⟩⟩, fun u hu => h3 u (List.mem_of_mem_take hu), fun k x hx => ?_, fun x hx => h5 x (List.mem_of_mem_take hx), fun k x hx j y hy => ?_⟩
    · rw [List.getElem?_take] at hx
      split at hx
      · exact h4 k x hx
      · cases hx
    · rw [List.getElem?_take] at hx
      split at hx
      · rename_i hk
        have hj : j < es := by rw [← h4 k x hx]; exact (List.getElem?_eq_some_iff.1 hy).1
        have hlt := idx_lt hk (Nat.le_refl n) hj
        have e1 : (cells.take (n * es)).getD (k * es + j) undef = cells.getD (k * es + j) undef := by
          rw [List.getD_eq_getElem?_getD, List.getElem?_take, if_pos hlt, ← List.getD_eq_getElem?_getD]
        rw [e1]
        have e2 : (fun b => k < n ∧ M k j b) = M k j := by funext b; simp [hk]
        show RepN w I J (fun b => k < n ∧ M k j b) _ _
        rw [e2]
        exact h6 k x hx j y hy
      · cases hx
theorem sub_ref {G : Gh} {w : World} {ob : Nat → Ob} (H : Hold G w ob) {i e es off n : Nat} {xs : List V} (hob : ob i = .arr e es xs) {v : Value} (hv : G.Rep w v (.sub i off n)) :
    ∃ r, G.ρ i = some r ∧ r.es = es ∧ r.len = xs.length ∧ off + n ≤ xs.length ∧ ∃ A, v = .slice A n (r.cap - off) ∧ ((0 < n ∨ off = 0) → A = r.g.map fun g => ⟨g, off * es, none⟩) := by
  obtain ⟨r, e1, e2, A, e3, e4⟩ := Rep.inv_sub hv
  obtain ⟨r', f1, f2, f3, f4⟩ := arr_of H hob
  rw [e1] at f1
  obtain rfl := Option.some.inj f1
  rw [f2] at e4
  exact ⟨r, e1, f2, f3, by omega, A, e3, e4⟩
theorem whole_ref {G : Gh} {w : World} {ob : Nat → Ob} (H : Hold G w ob) {i e es : Nat} {xs : List V} (hob : ob i = .arr e es xs) : ∃ r v, G.ρ i = some r ∧ r.sl v ∧ G.Rep w v (.ref i) ∧ v = (match r.g with
    | none => .slice none 0 0
    | some g => .slice (some ⟨g, 0, none⟩) xs.length r.cap) := by
  obtain ⟨r, f1, f2, f3, f4⟩ := arr_of H hob
  cases hg : r.g with
  | none =>
    have hl : r.len = 0 := by
      rcases f4 with ⟨_, h, _⟩ | ⟨g, cur, M, h, _⟩
      · rw [f3, h]; rfl
      · rw [hg] at h; cases h
    have hs : r.sl (.slice none 0 0) := by simp [RI.sl, hg, hl]
    exact ⟨r, _, f1, hs, .ref i r _ f1 hs, by rw [hg]⟩
  | some g =>
    have hs : r.sl (.slice (some ⟨g, 0, none⟩) xs.length r.cap) := by simp [RI.sl, hg, f3]
    exact ⟨r, _, f1, hs, .ref i r _ f1 hs, by rw [hg]⟩
theorem first_row {G : Gh} {w : World} {ob : Nat → Ob} (H : Hold G w ob) {S : V} {e es : Nat} {xs : List V} {kill : List Nat} (hf : FirstIs ob S e es xs kill) {v : Value} (hv : G.Rep w v S) :
    ∃ M, Row w G.I G.J v e es xs M ∧ (∀ b, v.ownBlock = some b → ∃ i ∈ kill, G.F i b) ∧ (∀ k j b, M k j b → ∃ i ∈ kill, G.F i b) ∧ (∀ k j b, M k j b → v.ownBlock ≠ some b) ∧ (∀ k j k' j' b, M k j b → M k' j' b → k = k' ∧ j = j') ∧ (∀ k j b, M k j b → ∃ x y, xs[k]? = some x ∧ (cl x)[j]? = some y) := by
  cases S <;> simp only [FirstIs] at hf
  · obtain ⟨rfl, rfl⟩ := hf
    rw [Rep.inv_nil hv]
    exact ⟨fun _ _ _ => False, ⟨[], World.ownsRow_nil w 0 e es, by simp, by simp, by simp, by simp⟩, by simp [Value.ownBlock], fun _ _ _ h => h.elim, fun _ _ _ h => h.elim, fun _ _ _ _ _ h => h.elim, fun _ _ _ h => h.elim⟩
  · rename_i i
    obtain ⟨h1, rfl⟩ := hf
    obtain ⟨M, m1, m2, m3, m4, m5⟩ := row_of_own H h1 hv
    exact ⟨M, m1, fun b hb => ⟨i, by simp, (m2 b).2 (.inl hb)⟩, fun k j b hb => ⟨i, by simp, (m2 b).2 (.inr ⟨k, j, hb⟩)⟩, m3, m4, m5⟩
  · rename_i i off n
    obtain ⟨rfl, ys, h1, h2, rfl, rfl⟩ := hf
    obtain ⟨r, s1, s2, s3, s4, A, s5, s6⟩ := sub_ref H h1 hv
    obtain ⟨r', u, t1, t2, t3, t4⟩ := whole_ref H h1
    rw [s1] at t1
    obtain rfl := Option.some.inj t1
    obtain ⟨M, m1, m2, m3, m4, m5⟩ := row_of_own H h1 t3
    have s6 := s6 (.inr rfl)
    cases hg : r.g with
    | none =>
      rw [hg] at t4 s6
      simp only [Option.map_none] at s6
      subst s6
      subst t4
      obtain ⟨cells, c1, _⟩ := m1
      have hy : ys = [] := by
        rcases c1.2 with ⟨_, h⟩ | ⟨g, cap, cur, h, _⟩
        · exact List.eq_nil_of_length_eq_zero h
        · cases h
      subst hy
      obtain rfl : n = 0 := by simpa using h2
      obtain ⟨r2, f1, f2, f3, f4⟩ := arr_of H h1
      rw [s1] at f1
      obtain rfl := Option.some.inj f1
      have hcap : r.cap = 0 := by
        rcases f4 with ⟨_, _, _, h⟩ | ⟨g, _, _, h, _⟩
        · exact h
        · rw [hg] at h; cases h
      rw [s5, hcap]
      exact ⟨fun _ _ _ => False, ⟨[], World.ownsRow_nil w 0 e es, by simp, by simp, by simp, by simp⟩, by simp [Value.ownBlock], fun _ _ _ h => h.elim, fun _ _ _ h => h.elim, fun _ _ _ _ _ h => h.elim, fun _ _ _ h => h.elim⟩
    | some g =>
      rw [hg] at t4 s6
      simp only [Option.map_some, Nat.zero_mul] at s6
      simp only at t4
      subst s6
      subst t4
      rw [s5, Nat.sub_zero]
      refine ⟨_, row_take m1 h2, fun b hb => ⟨i, by simp, (m2 b).2 (.inl hb)⟩, fun k j b hb => ⟨i, by simp, (m2 b).2 (.inr ⟨k, j, hb.2⟩)⟩, fun k j b hb => m3 k j b hb.2, fun k j k' j' b h h' => m4 k j k' j' b h.2 h'.2, fun k j b hb => ?_⟩
      obtain ⟨x, y, hx, hy⟩ := m5 k j b hb.2
      exact ⟨x, y, by rw [List.getElem?_take, if_pos hb.1]; exact hx, hy⟩
theorem second_src {G : Gh} {w : World} {ob : Nat → Ob} (H : Hold G w ob) {T : V} {e es : Nat} {ys : List V} {kill : List Nat} (hf : SecondIs ob T e es ys kill) {v : Value} (hv : G.Rep w v T) :
    ∃ M, Src w G.I G.J v es ys M ∧ (∀ k j b, M k j b → ∃ i ∈ kill, G.F i b) ∧ (∀ k j k' j' b, M k j b → M k' j' b → k = k' ∧ j = j') ∧ (∀ k j b, M k j b → ∃ x y, ys[k]? = some x ∧ (cl x)[j]? = some y) := by
  cases T <;> simp only [SecondIs] at hf
  · obtain ⟨rfl, rfl⟩ := hf
    rw [Rep.inv_nil hv]
    exact ⟨fun _ _ _ => False, ⟨none, 0, [], rfl, by simp, fun _ => rfl, (fun _ h => by cases h), by simp, by simp, by simp, by simp⟩, fun _ _ _ h => h.elim, fun _ _ _ _ _ h => h.elim, fun _ _ _ h => h.elim⟩
  · rename_i p es' zs
    obtain ⟨rfl, rfl, h1, rfl⟩ := hf
    exact ⟨_, src_of_sl hv h1, fun _ _ _ h => h.elim, fun _ _ _ _ _ h => h.elim, fun _ _ _ h => h.elim⟩
  · rename_i j
    obtain ⟨h1, h2⟩ := hf
    obtain ⟨M, m1, m2, m3, m4, m5⟩ := row_of_own H h1 hv
    rcases h2 with ⟨rfl, h2⟩ | rfl
    · exact ⟨_, src_plain (src_of_row m1) h2, fun _ _ _ h => h.elim, fun _ _ _ _ _ h => h.elim, fun _ _ _ h => h.elim⟩
    · exact ⟨M, src_of_row m1, fun k i b hb => ⟨j, by simp, (m2 b).2 (.inr ⟨k, i, hb⟩)⟩, m4, m5⟩
  · rename_i j off n
    obtain ⟨zs, h1, h2, rfl, h3, rfl⟩ := hf
    obtain ⟨r, s1, s2, s3, s4, A, s5, s6⟩ := sub_ref H h1 hv
    obtain ⟨r', f1, f2, f3, f4⟩ := arr_of H h1
    rw [s1] at f1
    obtain rfl := Option.some.inj f1
    have hlen : ((zs.drop off).take n).length = n := by simp; omega
    refine ⟨fun _ _ _ => False, ?_, fun _ _ _ h => h.elim, fun _ _ _ _ _ h => h.elim, fun _ _ _ h => h.elim⟩
    by_cases hn : n = 0
    · subst hn
      have : (zs.drop off).take 0 = [] := by simp
      rw [this]
      exact ⟨A, _, [], s5, by simp, fun _ => rfl, by simp, by simp, by simp, by simp, by simp⟩
    · have s6 := s6 (.inl (by omega))
      rcases f4 with ⟨_, rfl, _⟩ | ⟨g, cur, M, f4, f5⟩
      · simp at h2; omega
      rw [f4] at s6
      simp only [Option.map_some] at s6
      subst s6
      have hle := Nat.mul_le_mul_right es h2
      have hle2 := Nat.mul_le_mul_right es f5.le
      have hsz := f5.size
      rw [Nat.add_mul] at hle
      have hget : ∀ (k : Nat) (x : V), ((zs.drop off).take n)[k]? = some x → k < n ∧ zs[off + k]? = some x := by
        intro k x hx
        rw [List.getElem?_take] at hx
        split at hx
        · rename_i hk
          rw [List.getElem?_drop] at hx
          exact ⟨hk, hx⟩
        · cases hx
      have hnw : ∀ t, t < n * es → ((cur.toList.drop (off * es)).take (n * es)).getD t undef = cur.getD (off * es + t) undef := by
        intro t ht
        rw [List.getD_eq_getElem?_getD, List.getElem?_take, if_pos ht, List.getElem?_drop, Array.getD_eq_getD_getElem?]
        simp
      refine ⟨_, _, (cur.toList.drop (off * es)).take (n * es), by rw [hlen]; exact s5, by rw [hlen]; simp; omega, (fun h => by cases h), fun ad h t u hu => ?_, fun u hu => ?_, fun k x hx => f5.hl _ x (hget k x hx).2, fun x hx => f5.gr x (List.mem_of_mem_drop (List.mem_of_mem_take hx)), fun k x hx i y hy => ?_⟩
      · obtain rfl := Option.some.inj h
        rw [List.getElem?_take] at hu
        split at hu
        · rw [List.getElem?_drop] at hu
          rw [add_lit, cell_of_row w g _ cur e (0, 0) f5.heap]
          simpa using hu
        · cases hu
      · obtain ⟨t, ht⟩ := List.getElem?_of_mem hu
        have hlt : t < n * es := by
          rw [List.getElem?_take] at ht
          split at ht
          · assumption
          · cases ht
        have := hnw t hlt
        rw [List.getD_eq_getElem?_getD, ht] at this
        simp only [Option.getD_some] at this
        rw [this]
        exact f5.one _ (by omega)
      · obtain ⟨hk, hx'⟩ := hget k x hx
        have hi : i < es := by rw [← f5.hl _ x hx']; exact (List.getElem?_eq_some_iff.1 hy).1
        have hg := (List.all_eq_true.1 (h3 x (List.mem_of_getElem? hx))) y (List.mem_of_getElem? hy)
        rw [hnw _ (idx_lt hk (Nat.le_refl n) hi)]
        have := f5.rep _ x hx' i y hy
        rw [Nat.add_mul, Nat.add_assoc] at this
        exact repN_of_G hg (RepN.plain this (plain_of_gV hg)).1
def killW (l : List Nat) : List W := l.map fun i => .o i .dead
def obW (ob : Nat → Ob) (l : List Nat) : List W := l.map fun i => .o i (ob i)
theorem obW_has {σ : Sg} {ob : Nat → Ob} {l : List Nat} (h : σ.has (obW ob l)) : ∀ i ∈ l, σ.ob i = ob i := by
  induction l with
  | nil => simp
  | cons a l ih =>
    intro i hi
    rcases List.mem_cons.1 hi with rfl | hi
    · exact h.1
    · exact ih h.2 i hi
theorem obW_self (σ : Sg) (l : List Nat) : σ.has (obW σ.ob l) := by
  induction l with
  | nil => trivial
  | cons a l ih => exact ⟨rfl, ih⟩
theorem FirstIs.congr {ob ob' : Nat → Ob} {S : V} {e es : Nat} {xs : List V} {kill : List Nat} (h : FirstIs ob S e es xs kill) (he : ∀ i ∈ obK S, ob' i = ob i) : FirstIs ob' S e es xs kill := by
  cases S <;> simp only [FirstIs, obK] at h he ⊢
  · exact h
  · rw [he _ (by simp)]; exact h
  · rw [he _ (by simp)]; exact h
theorem SecondIs.congr {ob ob' : Nat → Ob} {S : V} {e es : Nat} {xs : List V} {kill : List Nat} (h : SecondIs ob S e es xs kill) (he : ∀ i ∈ obK S, ob' i = ob i) : SecondIs ob' S e es xs kill := by
  cases S <;> simp only [SecondIs, obK] at h he ⊢
  · exact h
  · exact h
  · rw [he _ (by simp)]; exact h
  · rw [he _ (by simp)]; exact h
theorem kill_ob (σ : Sg) : ∀ (l : List Nat) (k : Nat) (x : Ob), (σ.puts (killW l ++ [.o k x])).ob = fun i => if i = k then x else if i ∈ l then .dead else σ.ob i
  | [], k, x => by funext i; simp [killW, Sg.puts, Sg.put]
  | a :: l, k, x => by
    show ((σ.put (.o a .dead)).puts (killW l ++ [.o k x])).ob = _
    rw [kill_ob _ l k x]
    funext i
    simp only [Sg.put, List.mem_cons]
    by_cases h1 : i = k
    · simp [h1]
    · by_cases h2 : i ∈ l
      · simp [h1, h2]
      · by_cases h3 : i = a <;> simp [h1, h2, h3]
def notIn (k : Nat) (l : List Nat) : Bool := l.all (· != k)
theorem notIn_iff {k : Nat} {l : List Nat} (h : notIn k l = true) : k ∉ l := by
  intro hk
  have := (List.all_eq_true.1 h) k hk
  simp at this
theorem ok_append {o : Oper} {s x : Operand} {t e es bytes d k : Nat} {σ : Sg} {S T : V} {xs ys zs : List V} {kill1 kill2 : List Nat} (ho : o.op = .call { callee := .builtin .append, args := #[s, x], argTypes := #[t, t] }) (hd : o.dst = some d) (hn : d < N.n)
    (hu : P.underlying t = some (.slice e)) (hi : elInfo P e = some (es, bytes)) (hs : σ.ev s = S) (hx : σ.ev x = T) (hf : FirstIs σ.ob S e es xs kill1) (hg : SecondIs σ.ob T e es ys kill2)
    (hk : (notIn k (kill1 ++ kill2) && kill1.all (notIn · kill2)) = true) (hz : xs ++ ys = zs) (hb : (xs.length + ys.length) * bytes ≤ 140737488355328) (hm : xs.length + ys.length ≤ 9223372036854775807) :
    CoreOk P N o (opw s S ++ opw x T ++ obW σ.ob (obK S) ++ obW σ.ob (obK T) ++ [.o k .free]) ((killW (kill1 ++ kill2) ++ [.o k (.arr e es zs)]) ++ [.t d (.ref k)]) :=
  eff_ok hd hn (fun z hz => by
    simp only [killW, List.mem_append, List.mem_map, List.mem_singleton] at hz
    rcases hz with ⟨i, _, rfl⟩ | rfl
    · exact ⟨_, _, rfl⟩
    · exact ⟨_, _, rfl⟩) fun G w σ' a H _ he hp => by
    subst hz
    simp only [Bool.and_eq_true] at hk
    obtain ⟨hk1, hk2⟩ := hk
    have hk1 := notIn_iff hk1
    obtain ⟨hp, hp5⟩ := has_append.1 hp
    obtain ⟨hp, hp4⟩ := has_append.1 hp
    obtain ⟨hp, hp3⟩ := has_append.1 hp
    obtain ⟨hp1, hp2⟩ := has_append.1 hp
    have h1 := he s
    rw [opw_ev hs hp1] at h1
    have h2 := he x
    rw [opw_ev hx hp2] at h2
    obtain ⟨M1, a1, a2, a3, a4, a5, a6⟩ := first_row H (hf.congr (obW_has hp3)) h1
    obtain ⟨M2, b1, b2, b3, b4⟩ := second_src H (hg.congr (obW_has hp4)) h2
    have hne : ∀ i ∈ kill1, ∀ j ∈ kill2, i ≠ j := by
      intro i hi j hj e
      subst e
      exact notIn_iff ((List.all_eq_true.1 hk2) i hi) hj
    obtain ⟨v', w', G', r, r1, r2, r3, r4, r5⟩ := app_core (P := P) (ty := o.type) hu hi H (k := k) hp5.1 (fun i => i ∈ kill1 ++ kill2) hk1 (ob' := (σ'.puts (killW (kill1 ++ kill2) ++ [.o k (.arr e es (xs ++ ys))])).ob) a1 b1
      (fun b hb => by obtain ⟨i, hi, h⟩ := a2 b hb; exact ⟨i, by simp [hi], h⟩) (fun _ j b hb => by obtain ⟨i, hi, h⟩ := a3 _ _ b hb; exact ⟨i, by simp [hi], h⟩) (fun _ j b hb => by obtain ⟨i, hi, h⟩ := b2 _ _ b hb; exact ⟨i, by simp [hi], h⟩) a4
      (fun _ _ b hb e => by
        obtain ⟨i, hi, h⟩ := a2 b e
        obtain ⟨j, hj, h'⟩ := b2 _ _ b hb
        exact hne i hi j hj (H.dis i j b h h'))
      (fun _ _ _ _ b hb hb' => by
        obtain ⟨i, hi, h⟩ := a3 _ _ b hb
        obtain ⟨j, hj, h'⟩ := b2 _ _ b hb'
        exact hne i hi j hj (H.dis i j b h h')) a5 b3 a6 b4 hb (by simp only [maxLen]; omega) (by rw [kill_ob]; simp) (fun i hi => by rw [kill_ob]; have : i ≠ k := fun e => hk1 (e ▸ hi); simp only; rw [if_neg this, if_pos hi]) (fun i h1 h2 => by rw [kill_ob]; simp only; rw [if_neg h1, if_neg h2])
    refine ⟨v', w', G', ?_, r2, r3, .ref k r v' r4 r5⟩
    simp only [execOp, ho, resolve, invoke, builtin, Sem.run_bind, Sem.run_pure, Result.andThen_ok, List.map_toArray, List.map_cons, List.map_nil, r1]
theorem run_slice {t e es : Nat} (hu : P.underlying t = some (.slice e)) (hs : szOf P e = some es) {w : World} {A : Option Addr} {len cap lo hi : Nat} {l h : Option Value} (h1 : lo ≤ hi) (h2 : hi ≤ cap)
    (hl : (l = none ∧ lo = 0) ∨ ∃ k, l = some (.int k (lo : Int))) (hh : (h = none ∧ hi = len) ∨ ∃ k, h = some (.int k (hi : Int))) :
    (Instr.sliceAt t (.slice A len cap) l h none).run P w = .ok (.slice (if cap = lo then A else A.map (·.add (lo * es))) (hi - lo) (cap - lo)) w := by
  rcases hl with ⟨rfl, rfl⟩ | ⟨k, rfl⟩ <;> rcases hh with ⟨rfl, rfl⟩ | ⟨k', rfl⟩ <;>
    simp [Instr.sliceAt, run_underlying hu, Instr.slice, Instr.sliceBounds, Instr.sliceBound, asIntOf, run_sz hs, h1, h2] <;> omega
def boW (x : Option Operand) (v : V) : List W :=
  match x with
  | some y => opw y v
  | none => []
theorem bound_of {G : Gh} {w : World} {σ σ' : Sg} {a : Act} (he : ∀ y, G.Rep w (a.eval y) (σ'.ev y)) {x : Option Operand} {v : V} {n m : Nat} (h : (x = none ∧ n = m) ∨ ∃ y k, x = some y ∧ v = .int k (n : Int) ∧ σ.ev y = v) (hp : σ'.has (boW x v)) :
    (x.map a.eval = none ∧ n = m) ∨ ∃ k, x.map a.eval = some (.int k (n : Int)) := by
  rcases h with ⟨rfl, h⟩ | ⟨y, k, rfl, rfl, h⟩
  · exact .inl ⟨rfl, h⟩
  · have := he y
    rw [opw_ev h hp] at this
    exact .inr ⟨k, by simp [Rep.inv_int this]⟩
theorem ok_sliceRef {o : Oper} {x : Operand} {lx hx : Option Operand} {t e es d i lo hi : Nat} {σ : Sg} {xs : List V} {vl vh : V} (ho : o.op = .slice t x lx hx none) (hd : o.dst = some d) (hn : d < N.n) (hu : P.underlying t = some (.slice e)) (hs : szOf P e = some es)
    (hxv : σ.ev x = .ref i) (hob : σ.ob i = .arr e es xs) (hl : (lx = none ∧ lo = 0) ∨ ∃ y k, lx = some y ∧ vl = .int k (lo : Int) ∧ σ.ev y = vl) (hh : (hx = none ∧ hi = xs.length) ∨ ∃ y k, hx = some y ∧ vh = .int k (hi : Int) ∧ σ.ev y = vh) (h1 : lo ≤ hi) (h2 : hi ≤ xs.length) :
    CoreOk P N o (opw x (.ref i) ++ boW lx vl ++ boW hx vh ++ [.o i (.arr e es xs)]) [.t d (.sub i lo (hi - lo))] :=
  val_ok hd hn fun G w σ' a H he hp => by
    obtain ⟨hp, hp4⟩ := has_append.1 hp
    obtain ⟨hp, hp3⟩ := has_append.1 hp
    obtain ⟨hp1, hp2⟩ := has_append.1 hp
    have g1 := he x
    rw [opw_ev hxv hp1] at g1
    have b1 := bound_of he hl hp2
    have b2 := bound_of he hh hp3
    obtain ⟨r, e1, e2⟩ := Rep.inv_ref g1
    obtain ⟨r', f1, f2, f3, f4⟩ := arr_of H (show σ'.ob i = .arr e es xs from hp4.1)
    rw [e1] at f1
    obtain rfl := Option.some.inj f1
    rcases f4 with ⟨f4, f5, f6, f7⟩ | ⟨g, cur, M, f4, f5⟩
    · subst f5
      unfold RI.sl at e2
      rw [f4] at e2
      simp only at e2
      obtain ⟨e2, e3⟩ := e2
      simp at h2
      obtain rfl : hi = 0 := h2
      obtain rfl : lo = 0 := by omega
      refine ⟨.slice none 0 0, ?_, .sub i 0 0 r _ e1 ⟨by omega, none, by rw [f7], fun _ => by rw [f4]; rfl⟩⟩
      have := run_slice (P := P) hu hs (w := w) (A := none) (len := 0) (cap := 0) (lo := 0) (hi := 0) (l := lx.map a.eval) (h := hx.map a.eval) (Nat.le_refl _) (Nat.le_refl _) b1 (by simpa using b2)
      simp only [execOp, ho, e2, Sem.run_bind, Option.map_none, this, Result.andThen_ok, Sem.run_pure]
      simp
    · unfold RI.sl at e2
      rw [f4] at e2
      simp only at e2
      have hcap : hi ≤ r.cap := Nat.le_trans h2 f5.le
      have := run_slice (P := P) hu hs (w := w) (A := some ⟨g, 0, none⟩) (len := r.len) (cap := r.cap) (lo := lo) (hi := hi) (l := lx.map a.eval) (h := hx.map a.eval) h1 hcap b1 (by rw [f3]; exact b2)
      refine ⟨_, by simp only [execOp, ho, e2, Sem.run_bind, Option.map_none, this, Result.andThen_ok, Sem.run_pure]; rfl, .sub i lo (hi - lo) r _ e1 ⟨by omega, _, rfl, fun hh => ?_⟩⟩
      rw [f4, f2]
      by_cases hc : r.cap = lo
      · rw [if_pos hc]
        have : lo = 0 := by omega
        subst this
        simp
      · rw [if_neg hc]
        simp [add_lit]
theorem ok_cutRef {o : Oper} {x : Operand} {lx hx : Option Operand} {t e es d i hi k : Nat} {σ : Sg} {xs ys : List V} {vl vh : V} (ho : o.op = .slice t x lx hx none) (hd : o.dst = some d) (hn : d < N.n) (hu : P.underlying t = some (.slice e)) (hs : szOf P e = some es)
    (hxv : σ.ev x = .ref i) (hob : σ.ob i = .arr e es xs) (hl : (lx = none ∧ 0 = 0) ∨ ∃ y k, lx = some y ∧ vl = .int k ((0 : Nat) : Int) ∧ σ.ev y = vl) (hh : (hx = none ∧ hi = xs.length) ∨ ∃ y k, hx = some y ∧ vh = .int k (hi : Int) ∧ σ.ev y = vh) (h2 : hi ≤ xs.length) (hk : i ≠ k) (hy : xs.take hi = ys) :
    CoreOk P N o (opw x (.ref i) ++ boW lx vl ++ boW hx vh ++ [.o i (.arr e es xs), .o k .free]) ((killW [i] ++ [.o k (.arr e es ys)]) ++ [.t d (.ref k)]) :=
  eff_ok hd hn (fun z hz => by
    simp [killW] at hz
    rcases hz with rfl | rfl
    · exact ⟨_, _, rfl⟩
    · exact ⟨_, _, rfl⟩) fun G w σ' a H _ he hp => by
    subst hy
    obtain ⟨hp, hp4⟩ := has_append.1 hp
    obtain ⟨hp, hp3⟩ := has_append.1 hp
    obtain ⟨hp1, hp2⟩ := has_append.1 hp
    have g1 := he x
    rw [opw_ev hxv hp1] at g1
    have b1 := bound_of he hl hp2
    have b2 := bound_of he hh hp3
    have hob' : σ'.ob i = .arr e es xs := hp4.1
    have hfree : σ'.ob k = .free := hp4.2.1
    obtain ⟨M, m1, m2, m3, m4, m5⟩ := row_of_own H hob' g1
    have hFlt : ∀ b, G.F i b → b < w.heap.size := fun b h => H.flt i b h
    have fin : ∀ v' M', Row w G.I G.J v' e es (xs.take hi) M' → (v'.ownBlock = (a.eval x).ownBlock ∨ v'.ownBlock = none) → (∀ k j b, M' k j b → M k j b) → (∀ k j b, M' k j b → ∃ x y, (xs.take hi)[k]? = some x ∧ (cl x)[j]? = some y) → (Instr.sliceAt t (a.eval x) (lx.map a.eval) (hx.map a.eval) none).run P w = .ok v' w →
        ∃ v w' G', (execOp a.eval o).run P w = .ok (.value v) w' ∧ Hold G' w' (σ'.puts (killW [i] ++ [.o k (.arr e es (xs.take hi))])).ob ∧ Fr G w G' w' ∧ G'.Rep w' v (.ref k) := by
      intro v' M' hrow hv' hM hnb hrun
      have hob2 := kill_ob σ' [i] k (.arr e es (xs.take hi))
      have hg' : ∀ k j b, M' k j b → v'.ownBlock ≠ some b := by
        intro k j b h e
        rcases hv' with h' | h'
        · exact m3 k j b (hM k j b h) (by rw [← h']; exact e)
        · rw [h'] at e; cases e
      have hFk : ∀ b, (v'.ownBlock = some b ∨ ∃ k j, M' k j b) → G.F i b := by
        intro b hb
        rcases hb with hb | ⟨k, j, hb⟩
        · rcases hv' with h' | h'
          · exact (m2 b).2 (.inl (by rw [← h']; exact hb))
          · rw [h'] at hb; cases hb
        · exact (m2 b).2 (.inr ⟨k, j, hM k j b hb⟩)
      have := H.mv hfree (fun j => j = i) (fun e => hk e.symm) (w' := w) (ob' := (σ'.puts (killW [i] ++ [.o k (.arr e es (xs.take hi))])).ob) rfl rfl rfl (Nat.le_refl _) (fun _ _ _ => rfl) (RI.of v' es) (fun b => v'.ownBlock = some b ∨ ∃ k j, M' k j b) (fun b hb => .inl ⟨i, rfl, hFk b hb⟩) (fun b hb => hFlt b (hFk b hb)) (.arr e es (xs.take hi)) (fun _ => (own_of_row hrow (fun b => Iff.rfl) hg' (fun k j k' j' b h h' => m4 k j k' j' b (hM _ _ _ h) (hM _ _ _ h')) hnb).2)
        (by rw [hob2]; simp) (fun j hj => by rw [hob2]; subst hj; simp [hk]) (fun j h1 h2 => by rw [hob2]; simp [h1, h2])
      refine ⟨v', w, _, ?_, this.1, this.2, .ref k _ v' (by simp [Gh.mv]) (own_of_row (ρ := G.ρ) hrow (fun b => Iff.rfl) hg' (fun k j k' j' b h h' => m4 k j k' j' b (hM _ _ _ h) (hM _ _ _ h')) hnb).1⟩
      simp only [execOp, ho, Sem.run_bind, Option.map_none, hrun, Result.andThen_ok, Sem.run_pure]
    obtain ⟨cells, ⟨c0, c1⟩, c2⟩ := id m1
    rcases c1 with ⟨e2, hnil⟩ | ⟨g, cap, cur, e2, _, hg, hnc, hm, hs', ht⟩
    · have hxs : xs = [] := List.eq_nil_of_length_eq_zero hnil
      subst hxs
      simp at h2
      obtain rfl : hi = 0 := h2
      refine fin (.slice none 0 0) M (by rw [← e2]; simpa using m1) (.inr rfl) (fun _ _ _ h => h) (by simpa using m5) ?_
      rw [e2]
      have := run_slice (P := P) hu hs (w := w) (A := none) (len := 0) (cap := 0) (lo := 0) (hi := 0) (l := lx.map a.eval) (h := hx.map a.eval) (Nat.le_refl _) (Nat.le_refl _) (by simpa using b1) (by simpa using b2)
      rw [this]
      simp
    · rw [e2] at m1
      refine fin (.slice (some ⟨g, 0, none⟩) hi cap) _ (row_take m1 h2) (.inl (by rw [e2]; rfl)) (fun _ _ _ h => h.2) (fun k j b h => ?_) ?_
      · obtain ⟨x1, y1, q1, q2⟩ := m5 k j b h.2
        exact ⟨x1, y1, by rw [List.getElem?_take, if_pos h.1]; exact q1, q2⟩
      · rw [e2]
        have := run_slice (P := P) hu hs (w := w) (A := some ⟨g, 0, none⟩) (len := xs.length) (cap := cap) (lo := 0) (hi := hi) (l := lx.map a.eval) (h := hx.map a.eval) (Nat.zero_le _) (by omega) (by simpa using b1) b2
        rw [this]
        by_cases hc : cap = 0 <;> simp [hc, add_lit]
theorem ok_sliceSl {o : Oper} {x : Operand} {lx hx : Option Operand} {t e es d lo hi : Nat} {σ : Sg} {p : Bool} {xs ys : List V} {vl vh : V} (ho : o.op = .slice t x lx hx none) (hd : o.dst = some d) (hn : d < N.n) (hu : P.underlying t = some (.slice e)) (hs : szOf P e = some es)
    (hxv : σ.ev x = .sl p es xs) (hl : (lx = none ∧ lo = 0) ∨ ∃ y k, lx = some y ∧ vl = .int k (lo : Int) ∧ σ.ev y = vl) (hh : (hx = none ∧ hi = xs.length) ∨ ∃ y k, hx = some y ∧ vh = .int k (hi : Int) ∧ σ.ev y = vh) (h1 : lo ≤ hi) (h2 : hi ≤ xs.length) (hy : (xs.drop lo).take (hi - lo) = ys) :
    CoreOk P N o (opw x (.sl p es xs) ++ boW lx vl ++ boW hx vh) [.t d (.sl p es ys)] :=
  val_ok hd hn fun G w σ' a H he hp => by
    subst hy
    obtain ⟨hp, hp3⟩ := has_append.1 hp
    obtain ⟨hp1, hp2⟩ := has_append.1 hp
    have g1 := he x
    rw [opw_ev hxv hp1] at g1
    have b1 := bound_of he hl hp2
    have b2 := bound_of he hh hp3
    have g3 := Rep.inv_sl g1
    have hz : ∃ z, a.eval x = z := ⟨_, rfl⟩
    obtain ⟨z, hz⟩ := hz
    rw [hz] at g3
    cases g3 with
    | slE A c =>
      simp at h2
      obtain rfl : hi = 0 := h2
      obtain rfl : lo = 0 := by omega
      have := run_slice (P := P) hu hs (w := w) (A := A) (len := 0) (cap := c) (lo := 0) (hi := 0) (l := lx.map a.eval) (h := hx.map a.eval) (Nat.le_refl _) (Nat.zero_le _) b1 (by simpa using b2)
      refine ⟨_, by simp only [execOp, ho, hz, Sem.run_bind, Option.map_none, this, Result.andThen_ok, Sem.run_pure]; rfl, ?_⟩
      simp only [List.drop_nil, List.take_nil]
      exact .g (.slE _ _ _ _)
    | sl ad m c _ _ _ u hm hc hmx hp' hl' hu' ho' hq' hr =>
      subst hm
      have := run_slice (P := P) hu hs (w := w) (A := some ad) (len := xs.length) (cap := c) (lo := lo) (hi := hi) (l := lx.map a.eval) (h := hx.map a.eval) h1 (by omega) b1 b2
      refine ⟨_, by simp only [execOp, ho, hz, Sem.run_bind, Option.map_none, this, Result.andThen_ok, Sem.run_pure]; rfl, ?_⟩
      have hlen : ((xs.drop lo).take (hi - lo)).length = hi - lo := by simp; omega
      have hget : ∀ (k : Nat) (x : V), ((xs.drop lo).take (hi - lo))[k]? = some x → xs[lo + k]? = some x := by
        intro k x hx
        rw [List.getElem?_take] at hx
        split at hx
        · rwa [List.getElem?_drop] at hx
        · cases hx
      by_cases h0 : hi - lo = 0
      · have : (xs.drop lo).take (hi - lo) = [] := List.eq_nil_of_length_eq_zero (by omega)
        rw [this, h0]
        exact .g (.slE _ _ _ _)
      · rw [if_neg (by omega)]
        simp only [Option.map_some]
        have hbk : ∀ (ad : Addr) (n : Nat), (ad.add n).block = ad.block := by
          intro ad n; unfold Addr.add; split <;> rfl
        refine .g (.sl (ad.add (lo * es)) (hi - lo) (c - lo) p es _ (fun k j => u (lo + k) j) hlen (by omega) (by omega) (by rw [hbk]; exact hp') (fun k x hx => hl' _ x (hget k x hx)) (fun k x hx j y hy => ?_) (fun k x hx j y hy => ho' _ x (hget k x hx) j y hy) (fun hp k x hx => hq' hp _ x (hget k x hx)) (fun k x hx j y hy => hr _ x (hget k x hx) j y hy))
        have := hu' _ x (hget k x hx) j y hy
        rw [add_add, ← this]
        congr 2
        rw [Nat.add_mul]
        omega
theorem ok_indexStr {o : Oper} {x y : Operand} {t d : Nat} {σ : Sg} {s : ByteArray} {k : IntKind} {i : Int} (ho : o.op = .index t x y) (hd : o.dst = some d) (hn : d < N.n) (hu : P.underlying t = some .string)
    (hx : σ.ev x = .str s) (hy : σ.ev y = .int k i) (h0 : 0 ≤ i) (h1 : i.toNat < s.size) : CoreOk P N o (opw x (.str s) ++ opw y (.int k i)) [.t d (.int .u8 (s[i.toNat].toNat : Int))] :=
  val_ok hd hn fun G w σ' a H he hp => by
    obtain ⟨hp1, hp2⟩ := has_append.1 hp
    have g1 := he x
    rw [opw_ev hx hp1] at g1
    have g2 := he y
    rw [opw_ev hy hp2] at g2
    refine ⟨.int .u8 (s[i.toNat].toNat : Int), ?_, .g (.int _ _)⟩
    have hs : s[i.toNat]? = some s[i.toNat] := by simp [h1]
    simp [execOp, ho, Rep.inv_str g1, Rep.inv_int g2, Instr.index, asIntOf, run_underlying hu, h0, hs]
end
end Go.Sy

