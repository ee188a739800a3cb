/- Calls: what the caller knows behind one. -/
import Derived.Test.YtocjgmdfocaamaaGreatSRecsTellJ
set_option linter.unusedVariables false
set_option linter.unusedSimpArgs false
namespace Go.Sy
theorem RepG.scal {w w' : World} {I J I' J' : Nat → Prop} {v : Value} {y : V} (hy : gS y = true) (h : RepG w I J v y) : RepG w' I' J' v y := by
  cases h <;> simp [gS] at hy
  · exact .int _ _
  · exact .bool _
  · exact .str _
  · exact .nil
  · exact .np
  · exact .fn _
theorem RepG.perm {w : World} {I J J' : Nat → Prop} {v : Value} {y : V} (hy : gV y = true) (h : RepG w I J v y) : RepG w I J' v y := by
  cases h with
  | sl ad n c p es xs u hn hc hm hp hl hu ho hq hr =>
    cases p with
    | false => simp [gV] at hy
    | true =>
      simp only [if_true] at hp
      exact .sl ad n c true es xs u hn hc hm (by simpa using hp) hl hu ho hq (fun k x hx j z hz => (hr k x hx j z hz).scal ((List.all_eq_true.1 (hq rfl k x hx)) z (List.mem_of_getElem? hz)))
  | slE A c p es => exact .slE A c p es
  | vp => simp [gV] at hy
  | un => simp [gV] at hy
  | int => exact .int _ _
  | bool => exact .bool _
  | str => exact .str _
  | nil => exact .nil
  | np => exact .np
  | fn => exact .fn _
theorem RepN.perm {w : World} {I J J' : Nat → Prop} {M : Nat → Prop} {v : Value} {y : V} (hy : gO y = true) (h : RepN w I J M v y) : RepN w I J' M v y := by
  cases y with
  | un => exact ⟨.un _, h.2⟩
  | own e es ys =>
    rcases h with h | ⟨g, cap, cur, h1, h2, h3⟩
    · exact .inl h
    · exact .inr ⟨g, cap, cur, h1, ⟨h2.heap, h2.size, h2.le, h2.max, h2.hl, h2.one, h2.gr, fun k x hx j z hz => (h2.rep k x hx j z hz).scal ((List.all_eq_true.1 (h2.gr x (List.mem_of_getElem? hx))) z (List.mem_of_getElem? hz))⟩, h3⟩
  | _ => exact ⟨RepG.perm (by simpa [gO] using hy) h.1, h.2⟩
def Gh.back (G G' : Gh) (q : Bool) (L : List (Nat × Nat)) : Gh where
  ρ := fun i => match hOf L i with
    | some j => G'.ρ j
    | none => G.ρ i
  I := G'.I
  J := fun b => G.J b ∨ G'.I b ∨ (q = true ∧ G'.J b)
  F := fun i b => match hOf L i with
    | some j => G'.F j b
    | none => G.F i b
def obBack (q : Bool) (ob ob' : Nat → Ob) (L : List (Nat × Nat)) (i : Nat) : Ob :=
  match hOf L i with
  | some j => (ob' j).bk q L
  | none => ob i
theorem hOf_append (L M : List (Nat × Nat)) (i : Nat) : hOf (L ++ M) i = match hOf L i with
    | some j => some j
    | none => hOf M i := by
  induction L with
  | nil => rfl
  | cons p L ih =>
    obtain ⟨a, b⟩ := p
    simp only [List.cons_append, hOf]
    split
    · rfl
    · exact ih
theorem okL_left : ∀ {L M : List (Nat × Nat)}, okL (L ++ M) = true → okL L = true
  | [], _, _ => rfl
  | (a, b) :: L, M, h => by
    simp only [List.cons_append, okL, Bool.and_eq_true, List.all_append] at h ⊢
    exact ⟨h.1.1, okL_left h.2⟩
theorem back_rep (q : Bool) {G G' : Gh} {w' : World} {L : List (Nat × Nat)} (hL : okL L = true) {v : Value} {x : V} (h : G'.Rep w' v x) : (G.back G' q L).Rep w' v (x.bk q L) := by
  have hrho : ∀ i j r, gOf L j = some i → G'.ρ j = some r → (G.back G' q L).ρ i = some r := by
    intro i j r h1 h2
    simp only [Gh.back, hOf_of hL (gOf_mem h1)]
    exact h2
  unfold Gh.Rep at h ⊢
  induction h with
  | g h =>
    cases h with
    | un => exact .g (.un _)
    | int => exact .g (.int _ _)
    | bool => exact .g (.bool _)
    | str => exact .g (.str _)
    | nil => exact .g .nil
    | np => exact .g .np
    | fn => exact .g (.fn _)
    | slE A c p es =>
      simp only [V.bk]
      split
      · exact .g (.slE _ _ _ _)
      · exact .g (.un _)
    | sl ad n c p es xs u hn hc hm hp hl hu ho hq hr =>
      simp only [V.bk]
      split
      · rename_i hpq
        cases p with
        | true => exact .g ((RepG.sl ad n c true es xs u hn hc hm hp hl hu ho hq hr).perm rfl)
        | false =>
          simp only [Bool.false_or] at hpq
          exact .g ((RepG.sl ad n c false es xs u hn hc hm hp hl hu ho hq hr).mono (fun _ h => h) (fun _ h => .inr (.inr ⟨hpq, h⟩)) (fun _ _ => rfl))
      · exact .g (.un _)
    | vp ad p es xs k off u hp hl hu ho hq hr =>
      simp only [V.bk]
      split
      · rename_i hpq
        cases p with
        | true =>
          simp only [if_true] at hp
          exact .g (.vp ad true es xs k off u (by simp only [if_true]; exact hp) hl hu ho hq (fun k x hx j z hz => (hr k x hx j z hz).scal ((List.all_eq_true.1 (hq rfl k x hx)) z (List.mem_of_getElem? hz))))
        | false =>
          simp only [Bool.false_or] at hpq
          exact .g ((RepG.vp ad false es xs k off u hp hl hu ho hq hr).mono (fun _ h => h) (fun _ h => .inr (.inr ⟨hpq, h⟩)) (fun _ _ => rfl))
      · exact .g (.un _)
  | agg a cs hn _ ih =>
    simp only [V.bk]
    refine .agg a _ (by rw [bkL_length]; exact hn) (fun j x hx => ?_)
    rw [bkL_get] at hx
    obtain ⟨y, hy, rfl⟩ := Option.map_eq_some_iff.1 hx
    exact ih j y hy
  | tup a cs hn _ ih =>
    simp only [V.bk]
    refine .tup a _ (by rw [bkL_length]; exact hn) (fun j x hx => ?_)
    rw [bkL_get] at hx
    obtain ⟨y, hy, rfl⟩ := Option.map_eq_some_iff.1 hx
    exact ih j y hy
  | ref i r v h1 h2 =>
    simp only [V.bk]
    split
    · rename_i j hj
      exact .ref j r v (hrho j i r hj h1) h2
    · exact .g (.un _)
  | sub i off len r v h1 h2 =>
    simp only [V.bk]
    split
    · rename_i j hj
      exact .sub j off len r v (hrho j i r hj h1) h2
    · exact .g (.un _)
  | ptr i k off r g h1 h2 =>
    simp only [V.bk]
    split
    · rename_i j hj
      exact .ptr j k off r g (hrho j i r hj h1) h2
    · exact .g (.un _)
theorem back_own (q : Bool) {G G' : Gh} {w' : World} {L : List (Nat × Nat)} (hL : okL L = true) {ri : Option RI} {F : Nat → Prop} {x : Ob} (h : G'.Own w' ri F x) : (G.back G' q L).Own w' ri F (x.bk q L) := by
  cases x with
  | free => exact h
  | dead => exact h
  | raw e l => exact h
  | box t cs =>
    obtain ⟨r, g, cur, h1, h2, h3, h4, h5, h6⟩ := h
    refine ⟨r, g, cur, h1, h2, h3, by rw [bkL_length]; exact h4, fun j x hx => ?_, h6⟩
    rw [bkL_get] at hx
    obtain ⟨y, hy, rfl⟩ := Option.map_eq_some_iff.1 hx
    exact back_rep q hL (h5 j y hy)
  | arr e es xs =>
    obtain ⟨r, h1, h2, h3, h4⟩ := h
    refine ⟨r, h1, h2, h3, ?_⟩
    rcases h4 with h4 | ⟨g, cur, M, h5, h6⟩
    · exact .inl h4
    · exact .inr ⟨g, cur, M, h5, ⟨h6.heap, h6.size, h6.le, h6.max, h6.hl, h6.one, h6.gr, fun k x hx j y hy => (h6.rep k x hx j y hy).perm ((List.all_eq_true.1 (h6.gr x (List.mem_of_getElem? hx))) y (List.mem_of_getElem? hy)), h6.fo, h6.ng, h6.nd, h6.nb⟩⟩
  | hole e es xs j off k =>
    obtain ⟨r, g, cur, M, h1, h2, h3, h5, h6, h7⟩ := h
    have h8 : Arr w' (G.back G' q L).I (G.back G' q L).J M F g r.cap cur e es xs := ⟨h6.heap, h6.size, h6.le, h6.max, h6.hl, h6.one, h6.gr, fun k x hx j y hy => (h6.rep k x hx j y hy).perm ((List.all_eq_true.1 (h6.gr x (List.mem_of_getElem? hx))) y (List.mem_of_getElem? hy)), h6.fo, h6.ng, h6.nd, h6.nb⟩
    simp only [Ob.bk]
    have := back_rep (G := G) q hL h7
    simp only [V.bk] at this
    split
    · rename_i i hi
      rw [hi] at this
      exact ⟨r, g, cur, M, h1, h2, h3, h5, h8, this⟩
    · exact ⟨r, h1, h2, h3, .inr ⟨g, cur, M, h5, h8⟩⟩
  | holes e es xs j hs =>
    obtain ⟨r, g, cur, M, h1, h2, h3, h5, h6, h7⟩ := h
    have h8 : Arr w' (G.back G' q L).I (G.back G' q L).J M F g r.cap cur e es xs := ⟨h6.heap, h6.size, h6.le, h6.max, h6.hl, h6.one, h6.gr, fun k x hx j y hy => (h6.rep k x hx j y hy).perm ((List.all_eq_true.1 (h6.gr x (List.mem_of_getElem? hx))) y (List.mem_of_getElem? hy)), h6.fo, h6.ng, h6.nd, h6.nb⟩
    simp only [Ob.bk]
    refine ⟨r, g, cur, M, h1, h2, h3, h5, h8, fun p hp => ?_⟩
    obtain ⟨k, q1, q2⟩ := renH_mem hp
    have := back_rep (G := G) q hL (h7 _ q1)
    simp only [V.bk, q2] at this
    exact this
def live : Ob → Bool
  | .box .. | .arr .. => true
  | _ => false
theorem call_back (q : Bool) {G G' : Gh} {w w' : World} {ob ob' : Nat → Ob} (H : Hold G w ob) (L M : List (Nat × Nat)) (hL : okL (L ++ M) = true) (hlive : ∀ p ∈ L, live (ob p.1) = true) (hfree : ∀ p ∈ M, ob p.1 = .free) (H' : Hold G' w' ob') (f : Fr (G.lend q L) w G' w') :
    Hold (G.back G' q (L ++ M)) w' (obBack q ob ob' (L ++ M)) ∧ Fr G w (G.back G' q (L ++ M)) w' := by
  have hL1 := okL_left hL
  have lentF : ∀ j b, (G.lend q L).F j b → ∃ i, hOf L i = some j ∧ G.F i b := by
    intro j b h
    simp only [Gh.lend, Gh.ren] at h
    split at h
    · rename_i i hg
      exact ⟨i, hOf_of hL1 (gOf_mem hg), h⟩
    · exact h.elim
  have hsome : ∀ i j, hOf L i = some j → hOf (L ++ M) i = some j := fun i j h => by rw [hOf_append, h]
  have hnone : ∀ i, hOf (L ++ M) i = none → hOf L i = none := by
    intro i h
    rw [hOf_append] at h
    split at h
    · cases h
    · assumption
  have hbox : ∀ b, b < w.heap.size → (∀ i, hOf L i ≠ none → ¬ G.F i b) → w'.heap[b]? = w.heap[b]? := by
    intro b hb hf
    refine f.blk b hb (fun j h => ?_)
    obtain ⟨i, h1, h2⟩ := lentF j b h
    exact hf i (by rw [h1]; simp) h2
  have F2 : ∀ i b, (G.back G' q (L ++ M)).F i b → (∃ j, G.F j b ∧ (hOf (L ++ M) j ≠ none ∨ j = i)) ∨ w.heap.size ≤ b := by
    intro i b h
    simp only [Gh.back] at h
    split at h
    · rcases f.F _ b h with ⟨j', h'⟩ | h'
      · obtain ⟨i', h1, h2⟩ := lentF j' b h'
        exact .inl ⟨i', h2, .inl (by rw [hsome i' j' h1]; simp)⟩
      · exact .inr h'
    · exact .inl ⟨i, h, .inr rfl⟩
  have notI : ∀ i b, hOf (L ++ M) i = none → G.F i b → ¬ G'.I b := by
    intro i b hi hb h
    rcases f.In b h with h1 | h1 | ⟨j, h1⟩
    · exact H.fj i b hb (H.ij b h1)
    · have := H.flt i b hb; omega
    · obtain ⟨i', h2, h3⟩ := lentF j b h1
      have := H.dis i i' b hb h3
      subst this
      rw [hsome i j h2] at hi
      cases hi
  have notJ : q = true → ∀ i b, hOf (L ++ M) i = none → G.F i b → ¬ G'.J b := by
    intro hq i b hi hb h
    rcases f.Jn b h with h1 | h1 | ⟨j, h1⟩
    · rcases h1 with h1 | ⟨h1, _⟩
      · exact H.fj i b hb h1
      · rw [hq] at h1; cases h1
    · have := H.flt i b hb; omega
    · obtain ⟨i', h2, h3⟩ := lentF j b h1
      have := H.dis i i' b hb h3
      subst this
      rw [hsome i j h2] at hi
      cases hi
  have jun : ∀ b, G.J b → w'.heap[b]? = w.heap[b]? := fun b h => hbox b (H.lt b h) (fun i _ hi => H.fj i b hi h)
  have rho : ∀ i r, G.ρ i = some r → (G.back G' q (L ++ M)).ρ i = some r := by
    intro i r h
    simp only [Gh.back]
    split
    · rename_i j hj
      rw [hOf_append] at hj
      split at hj
      · rename_i j' hj'
        obtain rfl := Option.some.inj hj
        exact f.rho _ r (Gh.ren_rho hL1 i _ r hj' h)
      · have := (H.free (hfree (i, j) (hOf_mem hj))).1
        rw [h] at this
        cases this
    · exact h
  have hI : ∀ b, G.I b → G'.I b := fun b h => f.I b h
  refine ⟨⟨fun b h => .inr (.inl h), fun b h => ?_, fun i => ?_, fun i b h => ?_, fun i b h hj => ?_, fun i j b h1 h2 => ?_⟩, ⟨f.os, f.tape, f.output, f.sz, fun b hb hf => hbox b hb (fun i _ => hf i), rho, hI, fun b h => .inl h, fun b h => ?_, fun b h => ?_, fun i b h => ?_⟩⟩
  · rcases h with h | h | ⟨_, h⟩
    · exact Nat.lt_of_lt_of_le (H.lt b h) f.sz
    · exact H'.lt b (H'.ij b h)
    · exact H'.lt b h
  · cases hj : hOf (L ++ M) i with
    | none =>
      have e1 : (G.back G' q (L ++ M)).ρ i = G.ρ i := by simp [Gh.back, hj]
      have e2 : (G.back G' q (L ++ M)).F i = G.F i := by funext b; simp [Gh.back, hj]
      have e3 : obBack q ob ob' (L ++ M) i = ob i := by simp [obBack, hj]
      rw [e1, e2, e3]
      refine OwnOb.lift (fun v x h => h.mono hI (fun b h => .inl h) (fun b hb => jun b (hb.elim (H.ij b) id))) (fun v x h => h.mono rho hI (fun b h => .inl h) (fun b hb => jun b (hb.elim (H.ij b) id))) (H.own i) (fun b hb => hbox b (H.flt i b hb) (fun i' h1 h2 => ?_))
      have := H.dis i i' b hb h2
      subst this
      exact h1 (hnone i hj)
    | some j =>
      have e1 : (G.back G' q (L ++ M)).ρ i = G'.ρ j := by simp [Gh.back, hj]
      have e2 : (G.back G' q (L ++ M)).F i = G'.F j := by funext b; simp [Gh.back, hj]
      have e3 : obBack q ob ob' (L ++ M) i = (ob' j).bk q (L ++ M) := by simp [obBack, hj]
      rw [e1, e2, e3]
      exact back_own q hL (H'.own j)
  · simp only [Gh.back] at h
    split at h
    · exact H'.flt _ b h
    · exact Nat.lt_of_lt_of_le (H.flt i b h) f.sz
  · cases hi : hOf (L ++ M) i with
    | none =>
      have h : G.F i b := by simpa [Gh.back, hi] using h
      rcases hj with hj | hj | ⟨hq, hj⟩
      · exact H.fj i b h hj
      · exact notI i b hi h hj
      · exact notJ hq i b hi h hj
    | some k =>
      have h : G'.F k b := by simpa [Gh.back, hi] using h
      refine H'.fj k b h ?_
      rcases hj with hj | hj | ⟨_, hj⟩
      · exact f.J b (.inl hj)
      · exact H'.ij b hj
      · exact hj
  · have key : ∀ i j k, hOf (L ++ M) i = some k → hOf (L ++ M) j = none → G'.F k b → G.F j b → False := by
      intro i j k hi hj h1 h2
      rcases f.F k b h1 with ⟨k', h'⟩ | h'
      · obtain ⟨i', q1, q2⟩ := lentF k' b h'
        have := H.dis j i' b h2 q2
        subst this
        rw [hsome j k' q1] at hj
        cases hj
      · have := H.flt j b h2
        omega
    cases hi : hOf (L ++ M) i with
    | none =>
      have h1 : G.F i b := by simpa [Gh.back, hi] using h1
      cases hj : hOf (L ++ M) j with
      | none => exact H.dis i j b h1 (by simpa [Gh.back, hj] using h2)
      | some k => exact (key j i k hj hi (by simpa [Gh.back, hj] using h2) h1).elim
    | some k =>
      have h1 : G'.F k b := by simpa [Gh.back, hi] using h1
      cases hj : hOf (L ++ M) j with
      | none => exact (key i j k hi hj h1 (by simpa [Gh.back, hj] using h2)).elim
      | some k' =>
        have := H'.dis k k' b h1 (by simpa [Gh.back, hj] using h2)
        subst this
        have e1 := gOf_of hL (hOf_mem hi)
        have e2 := gOf_of hL (hOf_mem hj)
        rw [e1] at e2
        exact Option.some.inj e2
  · rcases f.In b h with h | h | ⟨j, h⟩
    · exact .inl h
    · exact .inr (.inl h)
    · obtain ⟨i, _, h⟩ := lentF j b h
      exact .inr (.inr ⟨i, h⟩)
  · rcases h with h | h | ⟨hq, h⟩
    · exact .inl h
    · rcases f.In b h with h | h | ⟨j, h⟩
      · exact .inl (H.ij b h)
      · exact .inr (.inl h)
      · obtain ⟨i, _, h⟩ := lentF j b h
        exact .inr (.inr ⟨i, h⟩)
    · rcases f.Jn b h with h | h | ⟨j, h⟩
      · rcases h with h | ⟨h, _⟩
        · exact .inl h
        · rw [hq] at h; cases h
      · exact .inr (.inl h)
      · obtain ⟨i, _, h⟩ := lentF j b h
        exact .inr (.inr ⟨i, h⟩)
  · rcases F2 i b h with ⟨j, h, _⟩ | h
    · exact .inl ⟨j, h⟩
    · exact .inr h
section
variable {P : Program} {N : Cx} {ops : Array Oper}
def argsW : List Operand → List V → List W
  | x :: l, v :: k => opw x v ++ argsW l k
  | _, _ => []
def evs (σ : Sg) : List Operand → List V
  | [] => []
  | x :: l => σ.ev x :: evs σ l
theorem argsW_ev {σ σ' : Sg} : ∀ (l : List Operand), σ'.has (argsW l (evs σ l)) → ∀ (k : Nat) (x : Operand), l[k]? = some x → σ'.ev x = σ.ev x
  | [], _, k, x, h => by simp at h
  | y :: l, hp, k, x, h => by
    simp only [evs, argsW] at hp
    obtain ⟨h1, h2⟩ := has_append.1 hp
    cases k with
    | zero => simp at h; subst h; exact opw_ev rfl h1
    | succ k => exact argsW_ev l h2 k x (by simpa using h)
theorem argsW_has (σ : Sg) : ∀ (l : List Operand), σ.has (argsW l (evs σ l))
  | [] => trivial
  | x :: l => has_append.2 ⟨opw_has rfl, argsW_has σ l⟩
theorem evs_get (σ : Sg) : ∀ (l : List Operand) (k : Nat), (evs σ l)[k]? = (l[k]?).map σ.ev
  | [], k => by simp [evs]
  | x :: l, 0 => by simp [evs]
  | x :: l, k + 1 => by simp [evs, evs_get σ l k]
theorem evs_length (σ : Sg) : ∀ (l : List Operand), (evs σ l).length = l.length
  | [] => rfl
  | x :: l => by simp [evs, evs_length σ l]
def freeW (l : List (Nat × Nat)) : List W := l.map fun p => .o p.1 .free
theorem freeW_has {σ : Sg} : ∀ {l : List (Nat × Nat)}, σ.has (freeW l) → ∀ p ∈ l, σ.ob p.1 = .free
  | [], _, p, h => by simp at h
  | a :: l, hh, p, h => by
    rcases List.mem_cons.1 h with rfl | h
    · exact hh.1
    · exact freeW_has hh.2 p h
def backW (q : Bool) (T : List Ob) (L : List (Nat × Nat)) : List (Nat × Nat) → List W
  | [] => []
  | (i, j) :: l => .o i ((obs T j).bk q L) :: backW q T L l
theorem backW_ob (q : Bool) (T : List Ob) (L : List (Nat × Nat)) : ∀ (l : List (Nat × Nat)) (σ : Sg), okL l = true → (σ.puts (backW q T L l)).ob = fun i => match hOf l i with
    | some j => (obs T j).bk q L
    | none => σ.ob i
  | [], σ, _ => rfl
  | (a, b) :: l, σ, h => by
    simp only [okL, Bool.and_eq_true] at h
    simp only [backW, Sg.puts]
    rw [backW_ob q T L l _ h.2]
    funext i
    simp only [hOf, Sg.put]
    by_cases hi : i = a
    · subst hi
      have : hOf l i = none := by
        cases hh : hOf l i with
        | none => rfl
        | some j =>
          have := (List.all_eq_true.1 h.1) _ (hOf_mem hh)
          simp at this
      rw [this]
      simp
    · rw [if_neg hi, if_neg hi]
theorem RoOk.congr {ob ob' : Nat → Ob} {L : List (Nat × Nat)} : ∀ {ro : List (Nat × Nat × List V)}, (∀ i ∈ ro.map Prod.fst, ob' i = ob i) → RoOk ob L ro → RoOk ob' L ro
  | [], _, _ => trivial
  | (i, es, ys) :: l, he, h => ⟨h.1, by rw [he i (by simp)]; exact h.2.1, RoOk.congr (fun j hj => he j (by simp at hj ⊢; exact .inr hj)) h.2.2⟩
theorem ok_callG {o : Oper} {f : Nat} {xs : Array Operand} {ats : Array TypeId} {σ : Sg} {As : List V} {T T' : List Ob} {R : V} (q : Bool) (L M : List (Nat × Nat)) (ro : List (Nat × Nat × List V)) (ho : o.op = .call { callee := .value (.func f), args := xs, argTypes := ats }) (hn : (match o.dst with
      | some d => decide (d < N.n)
      | none => true) = true)
    (hcall : ∀ args w, (callFunc f args).run P w = .ok (.enter f args) w) (hspec : ∀ (G0 G : Gh) (w0 w : World), N.q G0 w0 → Fr G0 w0 G w → SpecAt P f As T R T' (G.lend q L) w) (vs : List V) (hvs : evs σ xs.toList = vs) (hA : viewL L ro vs = As) (hT : (L.map fun p => (σ.ob p.1).ren (hOf L)) = T)
    (hL : (okL (L ++ M) && (L.map Prod.snd == List.range T.length) && L.all (fun p => live (σ.ob p.1)) && (!q || ro.isEmpty)) = true) (hro : RoOk σ.ob L ro) :
    CoreOk P N o (argsW xs.toList vs ++ obW σ.ob (L.map Prod.fst) ++ obW σ.ob (ro.map Prod.fst) ++ freeW M) (backW q T' (L ++ M) (L ++ M) ++ (match o.dst with
      | some d => [.t d (R.bk q (L ++ M))]
      | none => [])) := by
  subst hvs
  subst hA
  subst hT
  intro G0 w0 σ' a w s hp Q K hK
  obtain ⟨G, H, ht, s1, s2, s3, s4⟩ := id s
  obtain ⟨hp, hp4⟩ := has_append.1 hp
  obtain ⟨hp, hp3⟩ := has_append.1 hp
  obtain ⟨hp1, hp2⟩ := has_append.1 hp
  simp only [Bool.and_eq_true, beq_iff_eq] at hL
  obtain ⟨⟨⟨hL1, hL2⟩, hL3⟩, hq⟩ := hL
  have hq : q = true → ro = [] := by
    intro h
    subst h
    cases ro with
    | nil => rfl
    | cons => simp at hq
  have hLL := okL_left hL1
  have hob : ∀ p ∈ L, σ'.ob p.1 = σ.ob p.1 := fun p hp => obW_has hp2 p.1 (List.mem_map.2 ⟨p, hp, rfl⟩)
  have hro' : RoOk σ'.ob L ro := hro.congr (obW_has hp3)
  have hlive : ∀ p ∈ L, live (σ'.ob p.1) = true := fun p hp => by rw [hob p hp]; exact (List.all_eq_true.1 hL3) p hp
  have he : ∀ y, G.Rep w (a.eval y) (σ'.ev y) := fun y => St.ev (G0 := G0) (w0 := w0) ht y
  have hT : (L.map fun p => (σ.ob p.1).ren (hOf L)) = L.map fun p => (σ'.ob p.1).ren (hOf L) := List.map_congr_left (fun p hp => by rw [hob p hp])
  have HL := lend_hold q H hLL
  rw [obRen_list hLL _ hL2 hT] at HL
  have hc := hspec G0 G w0 w s4.2 s3 (xs.map a.eval) HL (by rw [viewL_length, evs_length]; simp) (fun k x hx => by
    rw [viewL_get, evs_get] at hx
    obtain ⟨y, hy, rfl⟩ := Option.map_eq_some_iff.1 hx
    obtain ⟨y0, hy0, rfl⟩ := Option.map_eq_some_iff.1 hy
    have h1 := view_rep q H hLL hro' hq (he y0)
    rw [argsW_ev _ hp1 k y0 hy0] at h1
    have hy' : xs[k]? = some y0 := by simpa using hy0
    have : (xs.map a.eval).getD k undef = a.eval y0 := by simp [Array.getD_eq_getD_getElem?, hy']
    rw [this]
    exact h1)
  have hrun : (execOp a.eval o).run P w = .ok (.enter f (xs.map a.eval)) w := by
    have hf : a.eval (.func f) = .func (.func f) #[] #[] := rfl
    simp [execOp, ho, resolve, hf, Deferred.ofValue, invoke, hcall]
  unfold Oper.wp
  rw [hrun, Oper.upon_enter]
  refine hc.mono ?_
  rintro e w' ⟨v, G', rfl, H', hv, f⟩
  obtain ⟨b1, b2⟩ := call_back q H L M hL1 hlive (freeW_has hp4) H' f
  refine hK _ _ ?_
  have hob2 := backW_ob q T' (L ++ M) (L ++ M) σ' hL1
  have htm : ∀ (l : List (Nat × Nat)) (σ : Sg), (σ.puts (backW q T' (L ++ M) l)).tm = σ.tm := by
    intro l
    induction l with
    | nil => intro σ; rfl
    | cons p l ih => intro σ; simp only [backW, Sg.puts]; rw [ih]; rfl
  have b1' : Hold (G.back G' q (L ++ M)) w' (σ'.puts (backW q T' (L ++ M) (L ++ M))).ob := by
    rw [hob2]
    exact b1
  rw [puts_append]
  cases hd : o.dst with
  | none =>
    refine ⟨G.back G' q (L ++ M), b1', fun t => ?_, ?_, ?_, s3.trans b2, s4⟩
    · simp only [Act.put]
      show Gh.Rep _ w' _ ((σ'.puts (backW q T' (L ++ M) (L ++ M))).tm t)
      rw [htm]
      exact (ht t).fr H b2
    · exact s1
    · exact s2
  | some d =>
    rw [hd] at hn
    simp only [decide_eq_true_eq] at hn
    refine ⟨G.back G' q (L ++ M), b1', fun t => ?_, ?_, ?_, s3.trans b2, s4⟩
    · simp only [Act.put]
      rw [getD_set _ _ _ _ _ (by rw [s1]; exact hn)]
      show Gh.Rep _ w' _ (if t = d then _ else (σ'.puts (backW q T' (L ++ M) (L ++ M))).tm t)
      split
      · exact back_rep q hL1 hv
      · rw [htm]; exact (ht t).fr H b2
    · simp [Act.put, s1]
    · simp [Act.put, s2]
end
end Go.Sy

