/- Arrays that are only read from now on; arguments under a weaker reading. -/
import Derived.Test.YtocjgmdfocaamaaGreatSRecsTellDw
set_option linter.unusedVariables false
set_option linter.unusedSimpArgs false
namespace Go.Sy
mutual
def V.fz (i es : Nat) (xs : List V) : V → V
  | .ref j => if j = i then .sl true es xs else .ref j
  | .sub j a b => if j = i then .sl true es ((xs.drop a).take b) else .sub j a b
  | .ptr j a b => if j = i then .un else .ptr j a b
  | .agg cs => .agg (fzL i es xs cs)
  | .tup cs => .tup (fzL i es xs cs)
  | .un => .un
  | .int k n => .int k n
  | .bool b => .bool b
  | .str s => .str s
  | .nil => .nil
  | .sl p es xs => .sl p es xs
  | .own e es xs => .own e es xs
  | .vp p es xs k off => .vp p es xs k off
  | .np => .np
  | .fn f => .fn f
def fzL (i es : Nat) (xs : List V) : List V → List V
  | [] => []
  | x :: l => x.fz i es xs :: fzL i es xs l
end
def Ob.fz (i es : Nat) (xs : List V) : Ob → Ob
  | .box t cs => .box t (fzL i es xs cs)
  | .free => .free
  | .dead => .dead
  | .arr e es xs => .arr e es xs
  | .hole e es' ys j off k => if k = i then .arr e es' ys else .hole e es' ys j off k
  | .holes e es' ys j hs => .holes e es' ys j (hs.filter fun h => h.2 != i)
  | .raw e l => .raw e l
theorem fzL_get (i es : Nat) (xs : List V) : ∀ (l : List V) (j : Nat), (fzL i es xs l)[j]? = (l[j]?).map (V.fz i es xs)
  | [], j => by simp [fzL]
  | x :: l, 0 => by simp [fzL]
  | x :: l, j + 1 => by simp [fzL, fzL_get i es xs l j]
theorem fzL_length (i es : Nat) (xs : List V) : ∀ (l : List V), (fzL i es xs l).length = l.length
  | [] => rfl
  | x :: l => by simp [fzL, fzL_length i es xs l]
def Gh.frz (G : Gh) (i : Nat) : Gh where
  ρ := G.ρ
  I := fun b => G.I b ∨ G.F i b
  J := fun b => G.J b ∨ G.F i b
  F := fun l b => l ≠ i ∧ G.F l b
theorem RepG.frz {G : Gh} {w : World} (i : Nat) {v : Value} {x : V} (h : RepG w G.I G.J v x) : RepG w (G.frz i).I (G.frz i).J v x := h.mono (fun _ h => .inl h) (fun _ h => .inl h) (fun _ _ => rfl)
theorem frz_of {G : Gh} {w : World} {ob : Nat → Ob} (H : Hold G w ob) {i e es : Nat} {xs : List V} (hob : ob i = .arr e es xs) (hf : ∀ x ∈ xs, (cl x).all gS = true) {off n : Nat} (hn : off + n ≤ xs.length) {A : Option Addr} {c : Nat} (hc : n ≤ c)
    (hA : ∀ g, (∃ r, G.ρ i = some r ∧ r.g = some g) → 0 < n → A = some ⟨g, off * es, none⟩) : RepG w (G.frz i).I (G.frz i).J (.slice A n c) (.sl true es ((xs.drop off).take n)) := by
  have hlen : ((xs.drop off).take n).length = n := by simp; omega
  by_cases h0 : n = 0
  · subst h0
    have : (xs.drop off).take 0 = [] := by simp
    rw [this]
    exact .slE _ _ _ _
  obtain ⟨r, f1, f2, f3, f4⟩ := arr_of H hob
  rcases f4 with ⟨_, rfl, _⟩ | ⟨g, cur, M, f4, f5⟩
  · simp at hn; omega
  rw [hA g ⟨r, f1, f4⟩ (by omega)]
  have hget : ∀ (k : Nat) (y : V), ((xs.drop off).take n)[k]? = some y → k < n ∧ xs[off + k]? = some y := by
    intro k y hy
    rw [List.getElem?_take] at hy
    split at hy
    · rename_i hk
      rw [List.getElem?_drop] at hy
      exact ⟨hk, hy⟩
    · cases hy
  have hm := f5.max
  have hle := f5.le
  refine .sl ⟨g, off * es, none⟩ n c true es _ (fun k j => cur.getD ((off + k) * es + j) undef) hlen hc (by omega) ?_ (fun k y hy => f5.hl _ _ (hget k y hy).2) (fun k y hy j b hb => ?_) (fun k y hy j b hb => ?_) (fun _ k y hy => hf y (List.mem_of_getElem? (hget k y hy).2)) (fun k y hy j b hb => ?_)
  · simp only [if_true]
    exact .inr ((f5.fo g).2 (.inl rfl))
  · obtain ⟨hk, h1⟩ := hget k y hy
    have hj : j < es := by rw [← f5.hl _ _ h1]; exact (List.getElem?_eq_some_iff.1 hb).1
    have hlt : (off + k) * es + j < cur.size := by rw [f5.size]; exact idx_lt (by omega) hle hj
    rw [add_lit, cell_of_row w g _ cur e (0, 0) f5.heap]
    rw [← Nat.add_assoc, ← Nat.add_mul]
    simp [Array.getD, hlt]
  · obtain ⟨hk, h1⟩ := hget k y hy
    have hj : j < es := by rw [← f5.hl _ _ h1]; exact (List.getElem?_eq_some_iff.1 hb).1
    exact f5.one _ (idx_lt (by omega) (Nat.le_refl _) hj)
  · obtain ⟨hk, h1⟩ := hget k y hy
    have h5 := f5.rep _ y h1 j b hb
    have hgs := (List.all_eq_true.1 (hf y (List.mem_of_getElem? h1))) b (List.mem_of_getElem? hb)
    exact RepG.frz i (RepN.plain h5 (plain_of_gS hgs)).1
theorem fz_rep {G : Gh} {w : World} {ob : Nat → Ob} (H : Hold G w ob) {i e es : Nat} {xs : List V} (hob : ob i = .arr e es xs) (hf : ∀ x ∈ xs, (cl x).all gS = true) {v : Value} {x : V} (h : G.Rep w v x) : (G.frz i).Rep w v (x.fz i es xs) := by
  obtain ⟨r0, f1, f2, f3, f4⟩ := arr_of H hob
  have hlec : xs.length ≤ r0.cap := by
    rcases f4 with ⟨_, rfl, _, _⟩ | ⟨g, cur, M, _, f5⟩
    · simp
    · exact f5.le
  unfold Gh.Rep at h ⊢
  induction h with
  | @g v x h =>
    have : x.fz i es xs = x := by cases h <;> rfl
    rw [this]
    exact .g (RepG.frz i h)
  | agg a cs hn _ ih =>
    simp only [V.fz]
    refine .agg a _ (by rw [fzL_length]; exact hn) (fun j x hx => ?_)
    rw [fzL_get, Option.map_eq_some_iff] at hx
    obtain ⟨y, hy, rfl⟩ := hx
    exact ih j y hy
  | tup a cs hn _ ih =>
    simp only [V.fz]
    refine .tup a _ (by rw [fzL_length]; exact hn) (fun j x hx => ?_)
    rw [fzL_get, Option.map_eq_some_iff] at hx
    obtain ⟨y, hy, rfl⟩ := hx
    exact ih j y hy
  | ref j r v h1 h2 =>
    simp only [V.fz]
    split
    · rename_i e
      subst e
      rw [f1] at h1
      obtain rfl := Option.some.inj h1
      have hx : xs = ((xs.drop 0).take xs.length) := by simp
      rw [hx]
      unfold RI.sl at h2
      rcases f4 with ⟨f4, f5, _⟩ | ⟨g, cur, M, f4, f5⟩
      · rw [f4] at h2
        obtain ⟨rfl, _⟩ := h2
        subst f5
        exact .g (.slE _ _ _ _)
      · rw [f4] at h2
        simp only at h2
        subst h2
        rw [f3]
        refine .g (frz_of H hob hf (by omega) hlec (fun g' hg' _ => ?_))
        obtain ⟨r', h3, h4⟩ := hg'
        rw [f1] at h3
        obtain rfl := Option.some.inj h3
        rw [f4] at h4
        obtain rfl := Option.some.inj h4
        simp
    · exact .ref j r v h1 h2
  | sub j off len r v h1 h2 =>
    simp only [V.fz]
    split
    · rename_i e
      subst e
      rw [f1] at h1
      obtain rfl := Option.some.inj h1
      obtain ⟨h3, A, rfl, h4⟩ := h2
      refine .g (frz_of H hob hf (by omega) (by omega) (fun g' hg' h0 => ?_))
      obtain ⟨r', h5, h6⟩ := hg'
      rw [f1] at h5
      obtain rfl := Option.some.inj h5
      rw [h4 (.inl h0), h6, f2]
      rfl
    · exact .sub j off len r v h1 h2
  | ptr j k off r g h1 h2 =>
    simp only [V.fz]
    split
    · exact .g (.un _)
    · exact .ptr j k off r g h1 h2
def Sg.frz (σ : Sg) (i es : Nat) (xs : List V) : Sg := ⟨fun t => (σ.tm t).fz i es xs, fun j => if j = i then .dead else (σ.ob j).fz i es xs⟩
theorem Sub.frz {N : Cx} {σ : Sg} (i e es : Nat) (xs : List V) (hob : σ.ob i = .arr e es xs) (hf : ∀ x ∈ xs, (cl x).all gS = true) : Sub N σ (σ.frz i es xs) := by
  intro G0 w0 a w s
  obtain ⟨G, H, ht, h1, h2, f, h4⟩ := s
  have LG : ∀ v x, RepG w G.I G.J v x → RepG w (G.frz i).I (G.frz i).J v x := fun v x h => RepG.frz i h
  refine ⟨G.frz i, ⟨fun b h => h.elim (fun h => .inl (H.ij b h)) .inr, fun b h => h.elim (H.lt b) (H.flt i b), fun j => ?_, fun j b h => H.flt j b h.2, fun j b h hj => ?_, fun j j' b q1 q2 => H.dis j j' b q1.2 q2.2⟩, fun t => fz_rep H hob hf (ht t), h1, h2, f.trans ⟨rfl, rfl, rfl, Nat.le_refl _, fun _ _ _ => rfl, fun _ _ h => h, fun _ h => .inl h, fun _ h => .inl h, fun b h => h.elim .inl (fun h => .inr (.inr ⟨i, h⟩)), fun b h => h.elim .inl (fun h => .inr (.inr ⟨i, h⟩)), fun j b h => .inl ⟨j, h.2⟩⟩, h4⟩
  · by_cases e : j = i
    · have : (σ.frz i es xs).ob j = .dead := by simp [Sg.frz, e]
      rw [this]
      intro b hb
      exact hb.1 e
    · have e1 : (σ.frz i es xs).ob j = (σ.ob j).fz i es xs := by simp [Sg.frz, e]
      have e2 : (G.frz i).F j = G.F j := by funext b; simp [Gh.frz, e]
      rw [e1, e2]
      have ho := H.own j
      cases hx : σ.ob j with
      | free => rw [hx] at ho; exact ho
      | dead => rw [hx] at ho; exact ho
      | raw e' l' => rw [hx] at ho; exact ho
      | box t cs =>
        rw [hx] at ho
        obtain ⟨r, g, cur, q1, q2, q3, q4, q5, q6⟩ := ho
        refine ⟨r, g, cur, q1, q2, q3, by rw [fzL_length]; exact q4, fun m x hx => ?_, q6⟩
        rw [fzL_get, Option.map_eq_some_iff] at hx
        obtain ⟨y, hy, rfl⟩ := hx
        exact fz_rep H hob hf (q5 m y hy)
      | arr e' es' ys =>
        rw [hx] at ho
        exact OwnOb.lift (ρ' := (G.frz i).ρ) LG (fun v x h => h.mono (fun _ _ h => h) (fun _ h => .inl h) (fun _ h => .inl h) (fun _ _ => rfl)) ho (fun _ _ => rfl)
      | hole e' es' ys j' off k =>
        rw [hx] at ho
        have h5 := OwnOb.lift (ρ' := (G.frz i).ρ) LG (fun v x h => h.mono (fun _ _ h => h) (fun _ h => .inl h) (fun _ h => .inl h) (fun _ _ => rfl)) ho (fun _ _ => rfl)
        simp only [Ob.fz]
        split
        · obtain ⟨r, g, cur, M, q1, q2, q3, q4, q5, q6⟩ := h5
          exact ⟨r, q1, q2, q3, .inr ⟨g, cur, M, q4, q5⟩⟩
        · exact h5
      | holes e' es' ys j' hs =>
        rw [hx] at ho
        obtain ⟨r, g, cur, M, q1, q2, q3, q4, q5, q6⟩ := OwnOb.lift (ρ' := (G.frz i).ρ) LG (fun v x h => h.mono (fun _ _ h => h) (fun _ h => .inl h) (fun _ h => .inl h) (fun _ _ => rfl)) ho (fun _ _ => rfl)
        simp only [Ob.fz]
        exact ⟨r, g, cur, M, q1, q2, q3, q4, q5, fun p hp => q6 p (List.mem_filter.1 hp).1⟩
  · rcases hj with hj | hj
    · exact H.fj j b h.2 hj
    · exact h.1 (H.dis j i b h.2 hj)
def frzT : V → V → Prop
  | .own _ es zs, b => b = .sl true es zs
  | a, b => a = b ∧ gV a = true
def FrzT (xs ys : List V) : Prop := xs.length = ys.length ∧ ∀ (k : Nat) (x y : V), xs[k]? = some x → ys[k]? = some y → (cl x).length = (cl y).length ∧ ∀ (j : Nat) (a b : V), (cl x)[j]? = some a → (cl y)[j]? = some b → frzT a b
theorem frzTOf {α : Type} {f g : α → V} (l : List α) (h : ∀ o, (cl (f o)).length = (cl (g o)).length ∧ ∀ (j : Nat) (a b : V), (cl (f o))[j]? = some a → (cl (g o))[j]? = some b → frzT a b) : FrzT (l.map f) (l.map g) := by
  refine ⟨by simp, fun k x y hx hy => ?_⟩
  rw [List.getElem?_map] at hx hy
  obtain ⟨o, ho, rfl⟩ := Option.map_eq_some_iff.1 hx
  rw [ho] at hy
  obtain rfl := Option.some.inj hy
  exact h o
def Gh.frzIn (G : Gh) (i g : Nat) : Gh where
  ρ := G.ρ
  I := fun b => G.I b ∨ (G.F i b ∧ b ≠ g)
  J := fun b => G.J b ∨ (G.F i b ∧ b ≠ g)
  F := fun l b => G.F l b ∧ (l = i → b = g)
theorem Sub.frzIn {N : Cx} {σ : Sg} (i e es : Nat) (xs ys : List V) (hob : σ.ob i = .arr e es xs) (hf : FrzT xs ys) : Sub N σ (σ.put (.o i (.arr e es ys))) := by
  intro G0 w0 a w s
  obtain ⟨G, H, ht, h1, h2, f, h4⟩ := s
  obtain ⟨r, f1, f2, f3, f4⟩ := arr_of H hob
  rcases f4 with ⟨f4, f5, f6, f7⟩ | ⟨g, cur, M, f4, f5⟩
  · subst f5
    have hy : ys = [] := List.eq_nil_of_length_eq_zero (by rw [← hf.1]; rfl)
    subst hy
    have : (σ.put (.o i (.arr e es []))) = σ := by
      have : (σ.put (.o i (.arr e es []))).ob = σ.ob := by
        funext j
        by_cases q : j = i
        · subst q; simp [Sg.put, hob]
        · simp [Sg.put, q]
      cases σ
      simp only [Sg.put] at this ⊢
      simpa using this
    rw [this]
    exact ⟨G, H, ht, h1, h2, f, h4⟩
  have hgi : G.F i g := (f5.fo g).2 (.inl rfl)
  have LG : ∀ v x, RepG w G.I G.J v x → RepG w (G.frzIn i g).I (G.frzIn i g).J v x := fun v x h => h.mono (fun _ h => .inl h) (fun _ h => .inl h) (fun _ _ => rfl)
  have LR : ∀ v x, Sy.Rep G.ρ w G.I G.J v x → Sy.Rep (G.frzIn i g).ρ w (G.frzIn i g).I (G.frzIn i g).J v x := fun v x h => h.mono (fun _ _ h => h) (fun _ h => .inl h) (fun _ h => .inl h) (fun _ _ => rfl)
  have hx : ∀ (k : Nat) (y : V), ys[k]? = some y → ∃ x, xs[k]? = some x ∧ (cl x).length = (cl y).length ∧ (cl y).length = es ∧ ∀ (j : Nat) (a b : V), (cl x)[j]? = some a → (cl y)[j]? = some b → frzT a b := by
    intro k y hy
    have h3 := List.getElem?_eq_getElem (show k < xs.length by rw [hf.1]; exact (List.getElem?_eq_some_iff.1 hy).1)
    obtain ⟨q1, q2⟩ := hf.2 _ _ _ h3 hy
    exact ⟨_, h3, q1, by rw [← q1]; exact f5.hl _ _ h3, q2⟩
  have hcell : ∀ (k : Nat) (y : V), ys[k]? = some y → ∀ (j : Nat) (b : V), (cl y)[j]? = some b → ∃ a, gO a = true ∧ frzT a b ∧ RepN w G.I G.J (M k j) (cur.getD (k * es + j) undef) a := by
    intro k y hy j b hb
    obtain ⟨x, q1, q2, q3, q4⟩ := hx k y hy
    have hj : j < (cl x).length := by rw [q2]; exact (List.getElem?_eq_some_iff.1 hb).1
    have ha := List.getElem?_eq_getElem hj
    exact ⟨_, (List.all_eq_true.1 (f5.gr x (List.mem_of_getElem? q1))) _ (List.mem_of_getElem? ha), q4 j _ b ha hb, f5.rep k x q1 j _ ha⟩
  refine ⟨G.frzIn i g, ⟨fun b h => h.elim (fun h => .inl (H.ij b h)) .inr, fun b h => h.elim (H.lt b) (fun h => H.flt i b h.1), fun j => ?_, fun j b h => H.flt j b h.1, fun j b h hj => ?_, fun j j' b q1 q2 => H.dis j j' b q1.1 q2.1⟩, fun t => LR _ _ (ht t), h1, h2, f.trans ⟨rfl, rfl, rfl, Nat.le_refl _, fun _ _ _ => rfl, fun _ _ h => h, fun _ h => .inl h, fun _ h => .inl h, fun b h => h.elim .inl (fun h => .inr (.inr ⟨i, h.1⟩)), fun b h => h.elim .inl (fun h => .inr (.inr ⟨i, h.1⟩)), fun j b h => .inl ⟨j, h.1⟩⟩, h4⟩
  · by_cases q : j = i
    · subst q
      have e1 : (σ.put (.o j (.arr e es ys))).ob j = .arr e es ys := by simp [Sg.put]
      rw [e1]
      refine ⟨r, f1, f2, by rw [f3, hf.1], .inr ⟨g, cur, fun _ _ _ => False, f4, ⟨f5.heap, f5.size, by rw [← hf.1]; exact f5.le, f5.max, fun k y hy => ?_, by rw [← hf.1]; exact f5.one, fun y hy => ?_, fun k y hy j b hb => ?_, fun b => ?_, fun _ _ h => h, fun _ _ _ _ _ h => h.elim, fun _ _ _ h => h.elim⟩⟩⟩
      · obtain ⟨x, q1, q2, q3, q4⟩ := hx k y hy
        exact q3
      · rw [List.all_eq_true]
        intro b hb
        obtain ⟨k, hk⟩ := List.getElem?_of_mem hy
        obtain ⟨m, hm⟩ := List.getElem?_of_mem hb
        obtain ⟨a, q1, q2, _⟩ := hcell k y hk m b hm
        cases a <;> simp only [frzT] at q2
        all_goals first | (subst q2; rfl) | (obtain ⟨rfl, q2⟩ := q2; exact q1)
      · obtain ⟨a, q1, q2, q3⟩ := hcell k y hy j b hb
        cases a with
        | own e' es' zs =>
          simp only [frzT] at q2
          subst q2
          refine ⟨?_, fun _ h => h⟩
          rcases q3 with ⟨h5, rfl, _⟩ | ⟨g', cap', cur', h5, h7, h8⟩
          · rw [h5]; exact .slE _ _ _ _
          · rw [h5]
            have hmem : G.F _ g' := (f5.fo g').2 (.inr ⟨k, j, (h8 g').2 rfl⟩)
            refine .sl ⟨g', 0, none⟩ zs.length cap' true es' zs (fun k j => cur'.getD (k * es' + j) undef) rfl h7.le (Nat.le_trans h7.le h7.max) ?_ h7.hl (fun k x hx j y hy => ?_) (fun k x hx j y hy => ?_) (fun _ k x hx => h7.gr x (List.mem_of_getElem? hx)) (fun k x hx j y hy => LG _ _ (h7.rep k x hx j y hy))
            · simp only [if_true]
              exact .inr ⟨hmem, fun e => f5.ng k j (by rw [← e]; exact (h8 g').2 rfl)⟩
            · have hj : j < es' := by rw [← h7.hl k x hx]; exact (List.getElem?_eq_some_iff.1 hy).1
              have hlt : k * es' + j < cur'.size := by rw [h7.size]; exact idx_lt (List.getElem?_eq_some_iff.1 hx).1 h7.le hj
              rw [add_lit, Nat.zero_add, cell_of_row w g' _ cur' e' (0, 0) h7.heap]
              simp [Array.getD, hlt]
            · have hj : j < es' := by rw [← h7.hl k x hx]; exact (List.getElem?_eq_some_iff.1 hy).1
              exact h7.one _ (idx_lt (List.getElem?_eq_some_iff.1 hx).1 (Nat.le_refl _) hj)
        | _ =>
          simp only [frzT] at q2
          obtain ⟨rfl, q2⟩ := q2
          first
            | (simp [gV] at q2; done)
            | exact ⟨LG _ _ q3.1, fun _ h => h⟩
      · constructor
        · intro h
          exact .inl (h.2 rfl)
        · rintro (rfl | ⟨_, _, h⟩)
          · exact ⟨hgi, fun _ => rfl⟩
          · exact h.elim
    · have e1 : (σ.put (.o i (.arr e es ys))).ob j = σ.ob j := by simp [Sg.put, q]
      have e2 : (G.frzIn i g).F j = G.F j := by funext b; simp [Gh.frzIn, q]
      rw [e1, e2]
      exact OwnOb.lift LG LR (H.own j) (fun _ _ => rfl)
  · rcases hj with hj | ⟨hj, hne⟩
    · exact H.fj j b h.1 hj
    · have := H.dis j i b h.1 hj
      exact hne (h.2 this)
mutual
def V.cv (es : Nat) : V → V
  | .nil => .sl false es []
  | .sl p es xs => .sl false es xs
  | .agg cs => .agg (cvL es cs)
  | .ref i => .ref i
  | .sub i a b => .sub i a b
  | .ptr i a b => .ptr i a b
  | .tup cs => .tup cs
  | .un => .un
  | .int k n => .int k n
  | .bool b => .bool b
  | .str s => .str s
  | .own e es xs => .own e es xs
  | .vp p es xs k off => .vp p es xs k off
  | .np => .np
  | .fn f => .fn f
def cvL (es : Nat) : List V → List V
  | [] => []
  | x :: l => x.cv es :: cvL es l
end
theorem cvL_get (es : Nat) : ∀ (l : List V) (j : Nat), (cvL es l)[j]? = (l[j]?).map (V.cv es)
  | [], j => by simp [cvL]
  | x :: l, 0 => by simp [cvL]
  | x :: l, j + 1 => by simp [cvL, cvL_get es l j]
theorem cvL_length (es : Nat) : ∀ (l : List V), (cvL es l).length = l.length
  | [] => rfl
  | x :: l => by simp [cvL, cvL_length es l]
theorem cv_rep {G : Gh} {w : World} {ob : Nat → Ob} (H : Hold G w ob) {v : Value} {x : V} (es : Nat) (h : G.Rep w v x) : G.Rep w v (x.cv es) := by
  unfold Gh.Rep at h ⊢
  induction h with
  | g h =>
    cases h with
    | slE A c p e => simp only [V.cv]; exact .g (.slE _ _ _ _)
    | nil => simp only [V.cv]; exact .g (.slE _ _ _ _)
    | sl ad n c p e xs u hn hc hm hp hl hu ho hq hr =>
      simp only [V.cv]
      refine .g (.sl ad n c false e xs u hn hc hm ?_ hl hu ho (fun h => by cases h) hr)
      cases p
      · exact hp
      · simp only [if_true] at hp
        simp only [Bool.false_eq_true, if_false]
        exact H.ij _ hp
    | un => simp only [V.cv]; exact .g (.un _)
    | int => simp only [V.cv]; exact .g (.int _ _)
    | bool => simp only [V.cv]; exact .g (.bool _)
    | str => simp only [V.cv]; exact .g (.str _)
    | vp => simp only [V.cv]; exact .g (.vp _ _ _ _ _ _ _ ‹_› ‹_› ‹_› ‹_› ‹_› ‹_›)
    | np => simp only [V.cv]; exact .g .np
    | fn f => simp only [V.cv]; exact .g (.fn f)
  | agg a cs hn _ ih =>
    simp only [V.cv]
    refine .agg a _ (by rw [cvL_length]; exact hn) (fun j x hx => ?_)
    rw [cvL_get, Option.map_eq_some_iff] at hx
    obtain ⟨y, hy, rfl⟩ := hx
    exact ih j y hy
  | tup a cs hn h ih => exact .tup a cs hn h
  | ref i r v h1 h2 => exact .ref i r v h1 h2
  | sub i off len r v h1 h2 => exact .sub i off len r v h1 h2
  | ptr i k off r g h1 h2 => exact .ptr i k off r g h1 h2
def cvA : List Nat → List V → List V
  | 0 :: m, x :: l => x :: cvA m l
  | (es + 1) :: m, x :: l => x.cv es :: cvA m l
  | [], l => l
  | _ :: _, [] => []
theorem cvA_length : ∀ (m : List Nat) (l : List V), (cvA m l).length = l.length
  | [], l => by cases l <;> rfl
  | 0 :: m, [] => rfl
  | (es + 1) :: m, [] => rfl
  | 0 :: m, x :: l => by simp [cvA, cvA_length m l]
  | (es + 1) :: m, x :: l => by simp [cvA, cvA_length m l]
theorem cvA_get : ∀ (m : List Nat) (l : List V) (j : Nat) (x : V), (cvA m l)[j]? = some x → ∃ y, l[j]? = some y ∧ (x = y ∨ ∃ es, x = y.cv es)
  | [], l, j, x, h => by
    have : cvA [] l = l := by cases l <;> rfl
    rw [this] at h
    exact ⟨x, h, .inl rfl⟩
  | 0 :: m, [], j, x, h => by simp [cvA] at h
  | (es + 1) :: m, [], j, x, h => by simp [cvA] at h
  | 0 :: m, y :: l, 0, x, h => ⟨y, rfl, .inl (by simpa [cvA] using h.symm)⟩
  | (es + 1) :: m, y :: l, 0, x, h => ⟨y, rfl, .inr ⟨es, by simpa [cvA] using h.symm⟩⟩
  | 0 :: m, y :: l, j + 1, x, h => by
    obtain ⟨z, h1, h2⟩ := cvA_get m l j x (by simpa [cvA] using h)
    exact ⟨z, by simpa using h1, h2⟩
  | (es + 1) :: m, y :: l, j + 1, x, h => by
    obtain ⟨z, h1, h2⟩ := cvA_get m l j x (by simpa [cvA] using h)
    exact ⟨z, by simpa using h1, h2⟩
theorem FnSpec.cv {P : Program} {f : Nat} {As : List V} {T : List Ob} {R : V} {T' : List Ob} (m : List Nat) (h : FnSpec P f (cvA m As) T R T') : FnSpec P f As T R T' := by
  intro G w args H hs hr
  refine h G w args H (by rw [cvA_length]; exact hs) (fun k x hx => ?_)
  obtain ⟨y, hy, rfl | ⟨es, rfl⟩⟩ := cvA_get m As k x hx
  · exact hr k x hy
  · exact cv_rep H es (hr k y hy)
end Go.Sy

