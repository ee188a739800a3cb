/- An element of an array of one's own whose slices stand open: read and written as a whole. -/
import Derived.Test.YtocjgmdfocaamaaGreatSRecsTellEz
set_option linter.unusedVariables false
set_option linter.unusedSimpArgs false
namespace Go.Sy
theorem holes_of {G : Gh} {w : World} {ob : Nat → Ob} (H : Hold G w ob) {i e es j : Nat} {xs : List V} {hs : List (Nat × Nat)} (hob : ob i = .holes e es xs j hs) :
    ∃ r g cur M, G.ρ i = some r ∧ r.es = es ∧ r.len = xs.length ∧ r.g = some g ∧ Arr w G.I G.J M (G.F i) g r.cap cur e es xs ∧ ∀ h ∈ hs, G.Rep w (cur.getD (j * es + h.1) undef) (.ref h.2) := by
  have h := H.own i
  rw [hob] at h
  exact h
theorem Sub.hole0 {N : Cx} {σ : Sg} {i e es : Nat} {xs : List V} (j : Nat) {y : V} (hob : σ.ob i = .arr e es xs) (hy : xs[j]? = some y) : Sub N σ (σ.put (.o i (.holes e es xs j []))) := by
  intro G0 w0 a w s
  obtain ⟨G, H, ht, h1, h2, f, h4⟩ := s
  refine ⟨G, ⟨H.ij, H.lt, fun k => ?_, H.flt, H.fj, H.dis⟩, ht, h1, h2, f, h4⟩
  by_cases q : k = i
  · subst q
    obtain ⟨r, f1, f2, f3, f4⟩ := arr_of H hob
    rcases f4 with ⟨_, f5, _⟩ | ⟨g, cur, M, f4, f5⟩
    · subst f5; simp at hy
    have e1 : (σ.put (.o k (.holes e es xs j []))).ob k = .holes e es xs j [] := by simp [Sg.put]
    rw [e1]
    exact ⟨r, g, cur, M, f1, f2, f3, f4, f5, fun h hh => by cases hh⟩
  · have e1 : (σ.put (.o i (.holes e es xs j []))).ob k = σ.ob k := by simp [Sg.put, q]
    rw [e1]
    exact H.own k
theorem Sub.noHole {N : Cx} {σ : Sg} {i e es j : Nat} {xs : List V} {hs : List (Nat × Nat)} (hob : σ.ob i = .holes e es xs j hs) : Sub N σ (σ.put (.o i (.arr e es xs))) := by
  intro G0 w0 a w s
  obtain ⟨G, H, ht, h1, h2, f, h4⟩ := s
  refine ⟨G, ⟨H.ij, H.lt, fun k => ?_, H.flt, H.fj, H.dis⟩, ht, h1, h2, f, h4⟩
  by_cases q : k = i
  · subst q
    obtain ⟨r, g, cur, M, f1, f2, f3, f4, f5, _⟩ := holes_of H hob
    have e1 : (σ.put (.o k (.arr e es xs))).ob k = .arr e es xs := by simp [Sg.put]
    rw [e1]
    exact ⟨r, f1, f2, f3, .inr ⟨g, cur, M, f4, f5⟩⟩
  · have e1 : (σ.put (.o i (.arr e es xs))).ob k = σ.ob k := by simp [Sg.put, q]
    rw [e1]
    exact H.own k
theorem Sub.openH {N : Cx} {σ : Sg} {i e es j off k e' es' : Nat} {xs ys : List V} {hs : List (Nat × Nat)} {y y' : V} (hob : σ.ob i = .holes e es xs j hs) (hk : σ.ob k = .free) (hy : xs[j]? = some y)
    (hc : (cl y)[off]? = some (.own e' es' ys)) (hy' : putEl es off [.un] y = some y') (hik : i ≠ k) : Sub N σ ((σ.put (.o i (.holes e es (xs.set j y') j ((off, k) :: hs)))).put (.o k (.arr e' es' ys))) := by
  intro G0 w0 a w s
  obtain ⟨G, H, htm, h1, h2, f, h4⟩ := s
  obtain ⟨k1, k2⟩ := H.free hk
  obtain ⟨r, g, cur, M, e1, f2, f3, e2, f5, hrs⟩ := holes_of H hob
  have hr := f5.rep j y hy off _ hc
  generalize hu : cur.getD (j * es + off) undef = u at hr
  have hown : (RI.of u es').sl u ∧ ∀ ρ, OwnOb ρ w G.I G.J (some (RI.of u es')) (M j off) (.arr e' es' ys) := by
    rcases hr with ⟨rfl, rfl, q3⟩ | ⟨g2, cap2, cur2, rfl, q2, q3⟩
    · exact ⟨⟨rfl, rfl⟩, fun ρ => ⟨_, rfl, rfl, rfl, .inl ⟨rfl, rfl, q3, rfl⟩⟩⟩
    · exact ⟨rfl, fun ρ => ⟨_, rfl, rfl, rfl, .inr ⟨g2, cur2, _, rfl, arr_of_flat q2 q3⟩⟩⟩
  have ht := f5.turn hy (z := .un) rfl rfl hy' (fun _ => False) ⟨.un _, fun _ h => h⟩ (fun _ h => h.elim) (fun h => h)
  generalize hFi : (fun b => b = g ∨ ∃ k' j', (if k' = j ∧ j' = off then False else M k' j' b)) = Fi at ht
  have hFi2 : ∀ b, Fi b → G.F i b := by
    intro b hb
    rw [← hFi] at hb
    rw [f5.fo]
    rcases hb with hb | ⟨k', j', hb⟩
    · exact .inl hb
    · split at hb
      · exact hb.elim
      · exact .inr ⟨k', j', hb⟩
  have hMi : ∀ b, M j off b → G.F i b := fun b hb => (f5.fo b).2 (.inr ⟨j, off, hb⟩)
  have hdis : ∀ b, Fi b → M j off b → False := by
    intro b hb hm
    rw [← hFi] at hb
    rcases hb with rfl | ⟨k', j', hb⟩
    · exact f5.ng j off hm
    · split at hb
      · exact hb
      · rename_i hne
        exact hne (f5.nd k' j' j off b hb hm)
  have hobi : ((σ.put (.o i (.holes e es (xs.set j y') j ((off, k) :: hs)))).put (.o k (.arr e' es' ys))).ob = fun l => if l = k then .arr e' es' ys else if l = i then .holes e es (xs.set j y') j ((off, k) :: hs) else σ.ob l := by
    funext l; simp [Sg.put]
  have key : Hold (G.out i k (RI.of u es') Fi (M j off)) w ((σ.put (.o i (.holes e es (xs.set j y') j ((off, k) :: hs)))).put (.o k (.arr e' es' ys))).ob ∧ Fr G w (G.out i k (RI.of u es') Fi (M j off)) w := by
    rw [hobi]
    refine Hold.step (G' := G.out i k (RI.of u es') Fi (M j off)) (w' := w) (ob' := fun l => if l = k then .arr e' es' ys else if l = i then .holes e es (xs.set j y') j ((off, k) :: hs) else σ.ob l) H rfl rfl rfl rfl rfl (Nat.le_refl _)
      (fun l rr h => by simp only [Gh.out]; rw [if_neg (fun e => by subst e; rw [k1] at h; cases h)]; exact h)
      (fun l => l = i ∨ l = k) (fun l hl => by
        have h1 : l ≠ i := fun e => hl (.inl e)
        have h2 : l ≠ k := fun e => hl (.inr e)
        simp [Gh.out, h1, h2]) (fun _ _ _ => rfl) (fun LG L l hl => ?_) (fun l b hl hb => .inl ⟨i, .inl rfl, ?_⟩) (fun l b hl hb => ?_) (fun l l' b hl hl' hb hb' => ?_)
    · rcases hl with rfl | rfl
      · have : (G.out l k (RI.of u es') Fi (M j off)).ρ l = some r := by simp [Gh.out, hik, e1]
        rw [this]
        have h2 : (G.out l k (RI.of u es') Fi (M j off)).F l = Fi := by simp [Gh.out, hik]
        rw [h2]
        simp only [if_neg hik, if_true]
        refine ⟨r, g, cur, _, rfl, f2, by simpa using f3, e2, ht, fun h hh => ?_⟩
        rcases List.mem_cons.1 hh with rfl | hh
        · show Sy.Rep _ _ _ _ (cur.getD (j * es + off) undef) (.ref k)
          rw [hu]
          exact Rep.ref k (RI.of u es') u (by simp [Gh.out]) hown.1
        · exact L _ _ (hrs h hh)
      · have : (G.out i l (RI.of u es') Fi (M j off)).ρ l = some (RI.of u es') := by simp [Gh.out]
        rw [this]
        have h2 : (G.out i l (RI.of u es') Fi (M j off)).F l = M j off := by simp [Gh.out]
        rw [h2]
        simp only [if_true]
        exact hown.2 _
    · rcases hl with rfl | rfl
      · simp only [Gh.out, if_neg hik, if_true] at hb
        exact hFi2 b hb
      · simp only [Gh.out, if_true] at hb
        exact hMi b hb
    · rcases hl with rfl | rfl
      · simp only [Gh.out, if_neg hik, if_true] at hb
        exact H.flt _ b (hFi2 b hb)
      · simp only [Gh.out, if_true] at hb
        exact H.flt _ b (hMi b hb)
    · rcases hl with rfl | rfl <;> rcases hl' with rfl | rfl
      · rfl
      · simp only [Gh.out, if_neg hik, if_true] at hb hb'
        exact (hdis b hb hb').elim
      · simp only [Gh.out, if_neg hik, if_true] at hb hb'
        exact (hdis b hb' hb).elim
      · rfl
  exact ⟨_, key.1, fun t => (htm t).fr H key.2, h1, h2, f.trans key.2, h4⟩
theorem Sub.closeH {N : Cx} {σ : Sg} {i e es j off k e' es' : Nat} {xs zs : List V} {hs : List (Nat × Nat)} {y y' : V} (hi : σ.ob i = .holes e es xs j ((off, k) :: hs)) (hk : σ.ob k = .arr e' es' zs) (hf : ∀ x ∈ zs, (cl x).all gS = true) (hy : xs[j]? = some y) (hy' : putEl es off [.own e' es' zs] y = some y') :
    Sub N σ ((σ.put (.o k .dead)).put (.o i (.holes e es (xs.set j y') j hs))) := by
  have hik : i ≠ k := fun q => by subst q; rw [hi] at hk; cases hk
  intro G0 w0 a w s
  obtain ⟨G, H, ht, h1, h2, f, h4⟩ := s
  obtain ⟨r, g, cur, M, e1, e2, e3, e4, f5, hrs⟩ := holes_of H hi
  have e6 := hrs _ List.mem_cons_self
  have hc := own_cell H hk hf e6
  have hd : ∀ b, G.F i b → G.F k b → False := fun b h h' => hik (H.dis i k b h h')
  have hMi : ∀ k' j' b, M k' j' b → G.F i b := fun k' j' b h => (f5.fo b).2 (.inr ⟨k', j', h⟩)
  have htn := f5.turn hy (z := .own e' es' zs) rfl rfl hy' (G.F k) hc (fun b hb k' j' hm => (hd b (hMi k' j' b hm) hb).elim) (fun h => hd g ((f5.fo g).2 (.inl rfl)) h)
  generalize hFi : (fun b => b = g ∨ ∃ k' j', (if k' = j ∧ j' = off then G.F k b else M k' j' b)) = Fi at htn
  have hFi2 : ∀ b, Fi b → G.F i b ∨ G.F k b := by
    intro b hb
    rw [← hFi] at hb
    rcases hb with rfl | ⟨k', j', hb⟩
    · exact .inl ((f5.fo _).2 (.inl rfl))
    · split at hb
      · exact .inr hb
      · exact .inl (hMi k' j' b hb)
  have hki : k ≠ i := fun e => hik e.symm
  let G' : Gh := { G with F := fun l => if l = k then fun _ => False else if l = i then Fi else G.F l }
  have key : Hold G' w ((σ.put (.o k .dead)).put (.o i (.holes e es (xs.set j y') j hs))).ob ∧ Fr G w G' w := by
    refine Hold.step (G' := G') (w' := w) (ob' := ((σ.put (.o k .dead)).put (.o i (.holes e es (xs.set j y') j hs))).ob) H rfl rfl rfl rfl rfl (Nat.le_refl _) (fun _ _ h => h) (fun l => l = i ∨ l = k) (fun l hl => by
      have h1 : l ≠ i := fun e => hl (.inl e)
      have h2 : l ≠ k := fun e => hl (.inr e)
      simp [G', Sg.put, h1, h2]) (fun _ _ _ => rfl) (fun LG L l hl => ?_) (fun l b hl hb => ?_) (fun l b hl hb => ?_) (fun l l' b hl hl' hb hb' => ?_)
    · by_cases hlk : l = k
      · have hob : ((σ.put (.o k .dead)).put (.o i (.holes e es (xs.set j y') j hs))).ob l = .dead := by simp [Sg.put, hlk, hki]
        rw [hob]
        intro b hb
        simp [G', hlk] at hb
      · have hli : l = i := hl.resolve_right hlk
        have hob : ((σ.put (.o k .dead)).put (.o i (.holes e es (xs.set j y') j hs))).ob l = .holes e es (xs.set j y') j hs := by simp [Sg.put, hli]
        have hF : G'.F l = Fi := by simp [G', hlk, hli, hik]
        rw [hob, hF, hli]
        exact ⟨r, g, cur, _, e1, e2, by simpa using e3, e4, htn, fun h hh => L _ _ (hrs h (List.mem_cons_of_mem _ hh))⟩
    · simp only [G'] at hb
      split at hb
      · exact hb.elim
      · rename_i hlk
        have hli : l = i := hl.resolve_right hlk
        rw [if_pos hli] at hb
        rcases hFi2 b hb with h | h
        · exact .inl ⟨i, .inl rfl, h⟩
        · exact .inl ⟨k, .inr rfl, h⟩
    · simp only [G'] at hb
      split at hb
      · exact hb.elim
      · rename_i hlk
        have hli : l = i := hl.resolve_right hlk
        rw [if_pos hli] at hb
        rcases hFi2 b hb with h | h <;> exact H.flt _ b h
    · simp only [G'] at hb hb'
      split at hb
      · exact hb.elim
      · split at hb'
        · exact hb'.elim
        · rename_i a1 a2
          rw [hl.resolve_right a1, hl'.resolve_right a2]
  exact ⟨G', key.1, fun t => (ht t).fr H key.2, h1, h2, f.trans key.2, h4⟩
theorem Sg.put_same (σ : Sg) (i : Nat) (x y : Ob) : (σ.put (.o i x)).put (.o i y) = σ.put (.o i y) := by
  unfold Sg.put
  simp only [Sg.mk.injEq, true_and]
  funext l
  split <;> rfl
theorem Sg.put_swap (σ : Sg) {i k : Nat} (h : i ≠ k) (x y : Ob) : (σ.put (.o i x)).put (.o k y) = (σ.put (.o k y)).put (.o i x) := by
  unfold Sg.put
  simp only [Sg.mk.injEq, true_and]
  funext l
  by_cases q1 : l = k
  · subst q1
    rw [if_pos rfl, if_neg (fun e => h e.symm), if_pos rfl]
  · rw [if_neg q1]
    by_cases q2 : l = i
    · rw [if_pos q2, if_pos q2]
    · rw [if_neg q2, if_neg q2, if_neg q1]
def openL (i es : Nat) : List (Nat × Nat) → V → List (Nat × Nat) → Sg → Option (V × List (Nat × Nat) × Sg)
  | [], y, hs, σ => some (y, hs, σ)
  | (off, k) :: l, y, hs, σ =>
    match (cl y)[off]? with
    | some (.own e' es' ys) => match σ.ob k with
      | .free => match putEl es off [.un] y with
        | some y' => match Nat.beq i k with
          | false => openL i es l y' ((off, k) :: hs) (σ.put (.o k (.arr e' es' ys)))
          | true => none
        | none => none
      | _ => none
    | _ => none
theorem openL_sub {N : Cx} {σ0 : Sg} {i e es j : Nat} {xs : List V} (hj : j < xs.length) : ∀ (l : List (Nat × Nat)) (y : V) (hs : List (Nat × Nat)) (σ : Sg) (y' : V) (hs' : List (Nat × Nat)) (σ' : Sg), openL i es l y hs σ = some (y', hs', σ') →
    Sub N σ0 (σ.put (.o i (.holes e es (xs.set j y) j hs))) → Sub N σ0 (σ'.put (.o i (.holes e es (xs.set j y') j hs')))
  | [], y, hs, σ, y', hs', σ', h, q => by
    simp only [openL, Option.some.injEq, Prod.mk.injEq] at h
    obtain ⟨rfl, rfl, rfl⟩ := h
    exact q
  | (off, k) :: l, y, hs, σ, y', hs', σ', h, q => by
    simp only [openL] at h
    split at h
    · rename_i e1 es1 ys hc
      split at h
      · rename_i hk
        split at h
        · rename_i y1 hy1
          split at h
          · rename_i hik
            have hik : i ≠ k := Nat.ne_of_beq_eq_false hik
            refine openL_sub hj l y1 ((off, k) :: hs) _ y' hs' σ' h (Sub.trans q ?_)
            have := Sub.openH (N := N) (σ := σ.put (.o i (.holes e es (xs.set j y) j hs))) (i := i) (e := e) (es := es) (j := j) (off := off) (k := k) (e' := e1) (es' := es1) (xs := xs.set j y) (ys := ys) (hs := hs) (y := y) (y' := y1) (by simp [Sg.put]) (by simp [Sg.put, Ne.symm hik, hk]) (by simp [hj]) hc hy1 hik
            rw [List.set_set, Sg.put_same, Sg.put_swap _ hik] at this
            exact this
          · cases h
        · cases h
      · cases h
    · cases h
theorem set_self {xs : List V} {j : Nat} {y : V} (h : xs[j]? = some y) : xs.set j y = xs := by
  obtain ⟨hj, rfl⟩ := List.getElem?_eq_some_iff.1 h
  exact List.set_getElem_self hj
theorem Sub.openL {N : Cx} {σ : Sg} (i j e es : Nat) (xs : List V) (y : V) (l : List (Nat × Nat)) (hob : σ.ob i = .arr e es xs) (hy : xs[j]? = some y) (h : (openL i es l y [] σ).isSome = true) :
    Sub N σ (((Sy.openL i es l y [] σ).get h).2.2.put (.o i (.holes e es (xs.set j ((Sy.openL i es l y [] σ).get h).1) j ((Sy.openL i es l y [] σ).get h).2.1))) := by
  refine openL_sub (List.getElem?_eq_some_iff.1 hy).1 l y [] σ _ _ _ (Option.some_get h).symm ?_
  rw [set_self hy]
  exact Sub.hole0 j hob hy
def closeL (es : Nat) : List (Nat × Nat) → V → Sg → Option (V × Sg)
  | [], y, σ => some (y, σ)
  | (off, k) :: l, y, σ =>
    match σ.ob k with
    | .arr e' es' zs => match putEl es off [.own e' es' zs] y with
      | some y' => closeL es l y' (σ.put (.o k .dead))
      | none => none
    | _ => none
def FlatObs (ob : Nat → Ob) (hs : List (Nat × Nat)) : Prop := ∀ p ∈ hs, ∀ e es zs, ob p.2 = .arr e es zs → ∀ x ∈ zs, (cl x).all gS = true
theorem closeL_sub {N : Cx} {σ0 : Sg} {i e es j : Nat} {xs : List V} (hj : j < xs.length) : ∀ (hs : List (Nat × Nat)) (y : V) (σ : Sg) (y' : V) (σ' : Sg), closeL es hs y σ = some (y', σ') → FlatObs σ.ob hs → (∀ p ∈ hs, p.2 ≠ i) →
    Sub N σ0 (σ.put (.o i (.holes e es (xs.set j y) j hs))) → Sub N σ0 (σ'.put (.o i (.holes e es (xs.set j y') j [])))
  | [], y, σ, y', σ', h, _, _, q => by
    simp only [closeL, Option.some.injEq, Prod.mk.injEq] at h
    obtain ⟨rfl, rfl⟩ := h
    exact q
  | (off, k) :: l, y, σ, y', σ', h, hf, hne, q => by
    simp only [closeL] at h
    split at h
    · rename_i e1 es1 zs hk
      split at h
      · rename_i y1 hy1
        have hki : k ≠ i := hne (off, k) List.mem_cons_self
        refine closeL_sub hj l y1 _ y' σ' h (fun p hp e2 es2 zs2 hp2 => ?_) (fun p hp => hne p (List.mem_cons_of_mem _ hp)) (Sub.trans q ?_)
        · by_cases hpk : p.2 = k
          · simp [Sg.put, hpk] at hp2
          · simp only [Sg.put, hpk, if_false] at hp2
            exact hf p (List.mem_cons_of_mem _ hp) e2 es2 zs2 hp2
        · have := Sub.closeH (N := N) (σ := σ.put (.o i (.holes e es (xs.set j y) j ((off, k) :: l)))) (i := i) (e := e) (es := es) (j := j) (off := off) (k := k) (e' := e1) (es' := es1) (xs := xs.set j y) (zs := zs) (hs := l) (y := y) (y' := y1) (by simp [Sg.put]) (by simp [Sg.put, hki, hk]) (hf (off, k) List.mem_cons_self e1 es1 zs hk) (by simp [hj]) hy1
          rw [List.set_set, Sg.put_swap _ (Ne.symm hki), Sg.put_same] at this
          exact this
      · cases h
    · cases h
theorem Sub.closeL {N : Cx} {σ : Sg} (i j e es : Nat) (xs xs' : List V) (hs : List (Nat × Nat)) (y y' : V) (fl : List (Nat × Nat × List V)) (hob : σ.ob i = .holes e es xs j hs) (hy : xs[j]? = some y) (h : (closeL es hs y σ).isSome = true) (hfl : hs.map (fun p => σ.ob p.2) = fl.map fun p => Ob.arr p.1 p.2.1 p.2.2) (hfs : ∀ p ∈ fl, ∀ x ∈ p.2.2, (cl x).all gS = true)
    (hne : hs.all (fun p => !Nat.beq p.2 i) = true) (h' : ((Sy.closeL es hs y σ).get h).1 = y') (hxs : xs.set j y' = xs') : Sub N σ (((Sy.closeL es hs y σ).get h).2.put (.o i (.arr e es xs'))) := by
  subst hxs
  subst h'
  have hj := (List.getElem?_eq_some_iff.1 hy).1
  have := closeL_sub (N := N) (σ0 := σ) (i := i) (e := e) (xs := xs) (j := j) hj hs y σ _ _ (Option.some_get h).symm (fun p hp e1 es1 zs hp1 x hx => ?_) (fun p hp => by
    have := List.all_eq_true.1 hne p hp
    simp only [Bool.not_eq_true'] at this
    exact Nat.ne_of_beq_eq_false this) (by
    rw [set_self hy]
    have : σ.put (.o i (.holes e es xs j hs)) = σ := by
      have : (σ.put (.o i (.holes e es xs j hs))).ob = σ.ob := by
        funext l
        by_cases q : l = i
        · subst q; simp [Sg.put, hob]
        · simp [Sg.put, q]
      cases σ
      simp only [Sg.put] at this ⊢
      simpa using this
    rw [this]
    exact Sub.refl N σ)
  · refine Sub.trans this ?_
    have h2 := Sub.noHole (N := N) (σ := ((Sy.closeL es hs y σ).get h).2.put (.o i (.holes e es (xs.set j ((Sy.closeL es hs y σ).get h).1) j []))) (i := i) (e := e) (es := es) (j := j) (xs := xs.set j ((Sy.closeL es hs y σ).get h).1) (hs := []) (by simp [Sg.put])
    rw [Sg.put_same] at h2
    exact h2
  · obtain ⟨m, hm⟩ := List.getElem?_of_mem hp
    have h1 : (hs.map (fun p => σ.ob p.2))[m]? = some (σ.ob p.2) := by rw [List.getElem?_map, hm]; rfl
    rw [hfl, List.getElem?_map] at h1
    obtain ⟨q, hq, h2⟩ := Option.map_eq_some_iff.1 h1
    rw [hp1] at h2
    injection h2 with _ _ h3
    subst h3
    exact hfs q (List.mem_of_getElem? hq) x hx
def pl (x : V) : V := if plain x = true then x else .un
def fillH : List (Nat × Nat) → List V → List V
  | [], cs => cs
  | (off, k) :: l, cs => (fillH l cs).set off (.ref k)
theorem fillH_get : ∀ (hs : List (Nat × Nat)) (cs : List V) (o : Nat) (x : V), (fillH hs cs)[o]? = some x → cs[o]? = some x ∨ (∃ k, (o, k) ∈ hs ∧ x = .ref k ∧ o < cs.length)
  | [], cs, o, x, h => .inl h
  | (off, k) :: l, cs, o, x, h => by
    simp only [fillH] at h
    rw [List.getElem?_set] at h
    split at h
    · rename_i e
      split at h
      · rename_i hlt
        obtain rfl := Option.some.inj h
        refine .inr ⟨k, by rw [e]; exact List.mem_cons_self, rfl, ?_⟩
        have : ∀ l : List (Nat × Nat), (fillH l cs).length = cs.length := by
          intro l
          induction l with
          | nil => rfl
          | cons a l ih => obtain ⟨a, b⟩ := a; simp [fillH, ih]
        rw [this] at hlt
        omega
      · cases h
    · rcases fillH_get l cs o x h with h | ⟨k', h1, h2⟩
      · exact .inl h
      · exact .inr ⟨k', List.mem_cons_of_mem _ h1, h2⟩
section
variable {P : Program} {N : Cx} {ops : Array Oper}
theorem pl_rep {w : World} {I J : Nat → Prop} {M : Nat → Prop} {ρ : Nat → Option RI} {v : Value} {x : V} (h : RepN w I J M v x) : Rep ρ w I J v (pl x) := by
  unfold pl
  split
  · rename_i hp
    exact .g (RepN.plain h hp).1
  · exact .g (.un _)
theorem ok_indexH {o : Oper} {x y : Operand} {t e es d i j : Nat} {σ : Sg} {xs : List V} {hs : List (Nat × Nat)} {k : IntKind} {n : Int} (ho : o.op = .indexAddr t x y) (hd : o.dst = some d) (hn : d < N.n) (hu : P.underlying t = some (.slice e)) (hsz : szOf P e = some es)
    (hx : σ.ev x = .ref i) (hob : σ.ob i = .holes e es xs j hs) (hy : σ.ev y = .int k n) (h0 : 0 ≤ n) (h1 : n.toNat < xs.length) : CoreOk P N o (opw x (.ref i) ++ opw y (.int k n) ++ [.o i (.holes e es xs j hs)]) [.t d (.ptr i n.toNat 0)] :=
  val_ok hd hn fun G w σ' a H he hp => by
    obtain ⟨hp12, hp3⟩ := has_append.1 hp
    obtain ⟨hp1, hp2⟩ := has_append.1 hp12
    have g1 := he x
    rw [opw_ev hx hp1] at g1
    have g2 := he y
    rw [opw_ev hy hp2] at g2
    obtain ⟨r, e1, e2⟩ := Rep.inv_ref g1
    obtain ⟨r', g, cur, M, f1, f2, f3, f4, f5, _⟩ := holes_of H (show σ'.ob i = .holes e es xs j hs from hp3.1)
    rw [e1] at f1
    obtain rfl := Option.some.inj f1
    unfold RI.sl at e2
    rw [f4] at e2
    simp only at e2
    refine ⟨_, ?_, .ptr i n.toNat 0 r g e1 f4⟩
    rw [f2]
    simp only [execOp, ho, e2, Rep.inv_int g2, Sem.run_bind, elemTy hu hsz h0 (show n < r.len by omega), Result.andThen_ok, Sem.run_pure, add_lit, Nat.zero_add, Nat.add_zero]
theorem ok_loadH {o : Oper} {x : Operand} {t : TypeId} {d i e es j k off n : Nat} {b : Bool} {σ : Sg} {xs : List V} {hs : List (Nat × Nat)} {y v : V} (q : Bool) (ho : o.op = .load t x) (hd : o.dst = some d) (hn : d < N.n) (hx : σ.ev x = .ptr i k off) (hob : σ.ob i = .holes e es xs j hs) (hy : xs[k]? = some y)
    (hA : isA P t = some b) (hs' : szOf P t = some n) (hkj : q = true → k = j) (hv : loadV b n off (if q = true then fillH hs ((cl y).map pl) else (cl y).map pl) = some v) : CoreOk P N o (opw x (.ptr i k off) ++ [.o i (.holes e es xs j hs)]) [.t d v] :=
  val_ok hd hn fun G w σ' a H he hp => by
    obtain ⟨hp1, hp2⟩ := has_append.1 hp
    have h1 := he x
    rw [opw_ev hx hp1] at h1
    obtain ⟨r, g, e1, e2, e3⟩ := Rep.inv_ptr h1
    obtain ⟨r', g', cur, M, f1, f2, f3, f4, f5, f6⟩ := holes_of H (show σ'.ob i = .holes e es xs j hs from hp2.1)
    rw [e1] at f1
    obtain rfl := Option.some.inj f1
    rw [e2] at f4
    obtain rfl := Option.some.inj f4
    rw [f2] at e3
    have hk : k < xs.length := (List.getElem?_eq_some_iff.1 hy).1
    have hcell : ∀ (m : Nat), m < es → w.cell? ((⟨g, k * es, none⟩ : Addr).add m) = some (cur.getD (k * es + m) undef) := by
      intro m hm
      rw [add_lit, cell_of_row w g _ cur e (0, 0) f5.heap]
      have : k * es + m < cur.size := by rw [f5.size]; exact idx_lt hk f5.le hm
      simp [Array.getD, this]
    have hpl : ∀ (m : Nat) (z : V), ((cl y).map pl)[m]? = some z → m < es ∧ G.Rep w (cur.getD (k * es + m) undef) z := by
      intro m z hz
      rw [List.getElem?_map] at hz
      obtain ⟨z', hz', rfl⟩ := Option.map_eq_some_iff.1 hz
      exact ⟨by rw [← f5.hl k y hy]; exact (List.getElem?_eq_some_iff.1 hz').1, pl_rep (f5.rep k y hy m z' hz')⟩
    obtain ⟨z, h3, h4⟩ := load_of hA hs' (G := G) (w := w) (ad := ⟨g, k * es, none⟩) (off := off) (cs := if q = true then fillH hs ((cl y).map pl) else (cl y).map pl) (fun m => cur.getD (k * es + m) undef) (fun m z hz => by
      cases q with
      | false =>
        simp only [Bool.false_eq_true, if_false] at hz
        obtain ⟨q1, q2⟩ := hpl m z hz
        exact ⟨hcell m q1, q2⟩
      | true =>
        simp only [if_true] at hz
        obtain rfl := hkj rfl
        rcases fillH_get _ _ _ _ hz with hz | ⟨k', q1, rfl, q2⟩
        · obtain ⟨q1, q2⟩ := hpl m z hz
          exact ⟨hcell m q1, q2⟩
        · rw [List.length_map, f5.hl _ y hy] at q2
          exact ⟨hcell m q2, f6 _ q1⟩) hv
    rw [add_lit] at h3
    refine ⟨z, ?_, h4⟩
    simp only [execOp, ho, e3, Sem.run_bind, h3, Result.andThen_ok, Sem.run_pure]
theorem ok_loadP {o : Oper} {x : Operand} {t : TypeId} {d i e es k off n : Nat} {b : Bool} {σ : Sg} {xs : List V} {y v : V} (ho : o.op = .load t x) (hd : o.dst = some d) (hn : d < N.n) (hx : σ.ev x = .ptr i k off) (hob : σ.ob i = .arr e es xs) (hy : xs[k]? = some y)
    (hA : isA P t = some b) (hs' : szOf P t = some n) (hv : loadV b n off ((cl y).map pl) = some v) : CoreOk P N o (opw x (.ptr i k off) ++ [.o i (.arr e es xs)]) [.t d v] :=
  val_ok hd hn fun G w σ' a H he hp => by
    obtain ⟨hp1, hp2⟩ := has_append.1 hp
    have h1 := he x
    rw [opw_ev hx hp1] at h1
    obtain ⟨r, g, e1, e2, e3⟩ := Rep.inv_ptr h1
    obtain ⟨r', f1, f2, f3, f4⟩ := arr_of H (show σ'.ob i = .arr e es xs from hp2.1)
    rw [e1] at f1
    obtain rfl := Option.some.inj f1
    rcases f4 with ⟨f4, f5, _⟩ | ⟨g', cur, M, f4, f5⟩
    · subst f5; simp at hy
    rw [e2] at f4
    obtain rfl := Option.some.inj f4
    rw [f2] at e3
    have hk : k < xs.length := (List.getElem?_eq_some_iff.1 hy).1
    obtain ⟨z, h3, h4⟩ := load_of hA hs' (G := G) (w := w) (ad := ⟨g, k * es, none⟩) (off := off) (cs := (cl y).map pl) (fun m => cur.getD (k * es + m) undef) (fun m z hz => by
      rw [List.getElem?_map] at hz
      obtain ⟨z', hz', rfl⟩ := Option.map_eq_some_iff.1 hz
      have hm : m < es := by rw [← f5.hl k y hy]; exact (List.getElem?_eq_some_iff.1 hz').1
      refine ⟨?_, pl_rep (f5.rep k y hy m z' hz')⟩
      rw [add_lit, cell_of_row w g _ cur e (0, 0) f5.heap]
      have : k * es + m < cur.size := by rw [f5.size]; exact idx_lt hk f5.le hm
      simp [Array.getD, this]) hv
    rw [add_lit] at h3
    refine ⟨z, ?_, h4⟩
    simp only [execOp, ho, e3, Sem.run_bind, h3, Result.andThen_ok, Sem.run_pure]
def unref : V → V
  | .ref _ => .un
  | x => x
def refOffs : Nat → List V → List (Nat × Nat)
  | _, [] => []
  | o, .ref k :: l => (o, k) :: refOffs (o + 1) l
  | o, _ :: l => refOffs (o + 1) l
theorem refOffs_mem : ∀ (l : List V) (o : Nat) (p : Nat × Nat), p ∈ refOffs o l → o ≤ p.1 ∧ l[p.1 - o]? = some (.ref p.2)
  | [], o, p, h => by cases h
  | x :: l, o, p, h => by
    by_cases hx : ∃ k, x = .ref k
    · obtain ⟨k, rfl⟩ := hx
      simp only [refOffs] at h
      rcases List.mem_cons.1 h with rfl | h
      · exact ⟨Nat.le_refl _, by simp⟩
      · obtain ⟨h1, h2⟩ := refOffs_mem l (o + 1) p h
        exact ⟨by omega, by rw [show p.1 - o = (p.1 - (o + 1)) + 1 by omega, List.getElem?_cons_succ]; exact h2⟩
    · have e : refOffs o (x :: l) = refOffs (o + 1) l := by
        cases x <;> first | rfl | (exact (hx ⟨_, rfl⟩).elim)
      rw [e] at h
      obtain ⟨h1, h2⟩ := refOffs_mem l (o + 1) p h
      exact ⟨by omega, by rw [show p.1 - o = (p.1 - (o + 1)) + 1 by omega, List.getElem?_cons_succ]; exact h2⟩
def gU : V → Bool
  | .un => true
  | x => gV x
theorem gO_of_gU {x : V} (h : gU x = true) : gO x = true := by
  cases x <;> first | rfl | exact h
theorem repN_of_gU {w : World} {I J M : Nat → Prop} {v : Value} {x : V} (h : gU x = true) (h1 : RepG w I J v x) (h2 : ∀ b, ¬ M b) : RepN w I J M v x := by
  cases x <;> first | exact ⟨h1, h2⟩ | (cases h)
theorem ground_of_gU {ρ : Nat → Option RI} {w : World} {I J : Nat → Prop} {v : Value} {x : V} (h : gU x = true) (h1 : Rep ρ w I J v x) : RepG w I J v x := by
  by_cases hx : x = .un
  · subst hx; exact .un _
  · exact Rep.ground h1 (by cases x <;> first | exact h | exact (hx rfl).elim)
theorem ok_storeH {o : Oper} {x y : Operand} {t : TypeId} {i e es k : Nat} {σ : Sg} {xs cs qs : List V} {hs : List (Nat × Nat)} (ho : o.op = .store t x y) (hd : o.dst = none) (hx : σ.ev x = .ptr i k 0) (hy : σ.ev y = .agg cs) (hob : σ.ob i = .holes e es xs k hs)
    (hs' : szOf P t = some es) (hc : cs.all oneV = true) (hg : (cs.map unref).all gU = true) (hn : cs.length = es) (hq : xs[k]? = some (.agg qs)) (hpl : qs.all plain = true) :
    CoreOk P N o (opw x (.ptr i k 0) ++ opw y (.agg cs) ++ [.o i (.holes e es xs k hs)]) [.o i (.holes e es (xs.set k (.agg (cs.map unref))) k (refOffs 0 cs))] :=
  sto_ok hd (fun z hz => by simp at hz; exact ⟨_, _, hz⟩) fun G w σ' a H he hp => by
    obtain ⟨hp12, hp3⟩ := has_append.1 hp
    obtain ⟨hp1, hp2⟩ := has_append.1 hp12
    have h1 := he x
    rw [opw_ev hx hp1] at h1
    have h2 := he y
    rw [opw_ev hy hp2] at h2
    obtain ⟨r, g, e1, e2, e3⟩ := Rep.inv_ptr h1
    obtain ⟨r', g', cur, M, f1, f2, f3, f4, f5, f6⟩ := holes_of H (show σ'.ob i = .holes e es xs k hs from hp3.1)
    rw [e1] at f1
    obtain rfl := Option.some.inj f1
    rw [e2] at f4
    obtain rfl := Option.some.inj f4
    rw [f2] at e3
    have hk : k < xs.length := (List.getElem?_eq_some_iff.1 hq).1
    have hql : qs.length = es := f5.hl k _ hq
    obtain ⟨c1, c2, c3⟩ := Rep.cells h2 (show cellsV (.agg cs) = some cs by simp [cellsV, hc])
    have hcap := Nat.mul_le_mul_right es f5.le
    have hkk : (k + 1) * es ≤ xs.length * es := Nat.mul_le_mul_right _ (by omega)
    rw [Nat.add_mul] at hkk
    have hst := run_storeAt (P := P) hs' (w := w) (v := a.eval y) (by omega) f5.heap (off := k * es) (by rw [f5.size]; omega) c3
    have hlen : (a.eval y).cells.toList.length = es := by simp; omega
    have hgd := fun j => getD_splice (off := k * es) (vs := (a.eval y).cells.toList) (cur := cur) (by rw [f5.size, hlen]; omega) j
    rw [hlen] at hgd
    generalize hcur' : (cur.toList.take (k * es) ++ (a.eval y).cells.toList ++ cur.toList.drop (k * es + es)).toArray = cur' at hst hgd
    refine ⟨w.setRow g cur', G, by rw [Nat.add_zero] at e3; simp only [execOp, ho, e3, Sem.run_bind, hst, Result.andThen_ok, Sem.run_pure], ?_⟩
    have hsz' : cur'.size = cur.size := by
      rw [← hcur']
      simp only [List.size_toArray, List.length_append, List.length_take, List.length_drop, hlen, Array.length_toList]
      rw [f5.size]
      omega
    refine Hold.step H rfl rfl rfl rfl rfl (by simp) (fun _ _ h => h) (fun l => l = i) (fun l (hl : ¬ l = i) => ⟨by simp [Sg.puts, Sg.put, hl], rfl, rfl⟩) (fun b hb hf => setRow_other w g b cur' (fun e => hf i rfl ((f5.fo b).2 (.inl e)))) (fun LG L l hl => ?_) (fun l b hl h => .inl ⟨l, hl, h⟩) (fun l b hl h => by simpa using H.flt l b h) (fun l l' b hl hl' _ _ => by rw [hl, hl'])
    subst hl
    have hob' : (σ'.puts [W.o l (Ob.holes e es (xs.set k (.agg (cs.map unref))) k (refOffs 0 cs))]).ob l = .holes e es (xs.set k (.agg (cs.map unref))) k (refOffs 0 cs) := by simp [Sg.puts, Sg.put]
    rw [hob', e1]
    have hno : ∀ j, j < es → ∀ b, ¬ M k j b := by
      intro j hj b hb
      obtain ⟨x1, y1, hx1, hy1⟩ := f5.nb k j b hb
      rw [hq] at hx1
      obtain rfl := Option.some.inj hx1
      exact (RepN.plain (f5.rep k _ hq j y1 hy1) ((List.all_eq_true.1 hpl) _ (List.mem_of_getElem? hy1))).2 b hb
    have hidx : ∀ k' j, k' < xs.length → j < es → k' ≠ k → ¬ (k * es ≤ k' * es + j ∧ k' * es + j < k * es + es) := by
      intro k' j h1 h2 h3
      rcases Nat.lt_or_gt_of_ne h3 with h4 | h4
      · have : (k' + 1) * es ≤ k * es := Nat.mul_le_mul_right _ (by omega)
        rw [Nat.add_mul] at this
        omega
      · have : (k + 1) * es ≤ k' * es := Nat.mul_le_mul_right _ (by omega)
        rw [Nat.add_mul] at this
        omega
    have hnew : ∀ j, j < es → cur'.getD (k * es + j) undef = (a.eval y).cells.getD j undef := by
      intro j hj
      rw [hgd, if_neg (by omega), if_pos (by omega), show k * es + j - k * es = j by omega]
    have hcl : ∀ (j : Nat) (z : V), (cs.map unref)[j]? = some z → j < es ∧ gU z = true ∧ RepG (w.setRow g cur') G.I G.J (cur'.getD (k * es + j) undef) z := by
      intro j z hz
      have hgz := (List.all_eq_true.1 hg) _ (List.mem_of_getElem? hz)
      rw [List.getElem?_map] at hz
      obtain ⟨c, hc1, rfl⟩ := Option.map_eq_some_iff.1 hz
      have hj : j < es := by rw [← hn]; exact (List.getElem?_eq_some_iff.1 hc1).1
      refine ⟨hj, hgz, ?_⟩
      rw [hnew j hj]
      by_cases hr : ∃ m, c = .ref m
      · obtain ⟨m, rfl⟩ := hr
        exact .un _
      · have hu : unref c = c := by cases c <;> first | rfl | (exact (hr ⟨_, rfl⟩).elim)
        rw [hu] at hgz ⊢
        exact LG _ _ (ground_of_gU hgz (c2 j c hc1))
    refine ⟨r, g, cur', M, rfl, f2, by simpa using f3, e2, ⟨setRow_heap w g cur cur' e (0, 0) f5.heap, by rw [hsz']; exact f5.size, by simpa using f5.le, f5.max, fun k' x' hx' => ?_, fun j hj => ?_, fun x' hx' => ?_, fun k' x' hx' j y' hy' => ?_, f5.fo, f5.ng, f5.nd, fun k' j b h => ?_⟩, fun p hp => ?_⟩
    · rw [List.getElem?_set] at hx'
      by_cases hkk' : k = k'
      · rw [if_pos hkk', if_pos (by omega)] at hx'
        obtain rfl := Option.some.inj hx'
        simp only [cl, List.length_map]; exact hn
      · rw [if_neg hkk'] at hx'
        exact f5.hl k' x' hx'
    · rw [List.length_set] at hj
      rw [hgd]
      split
      · exact f5.one j hj
      · split
        · rename_i hj1 hj2
          have hm : (a.eval y).cells.toList[j - k * es]? = some ((a.eval y).cells.toList.toArray.getD (j - k * es) undef) := by
            have : j - k * es < (a.eval y).cells.size := by omega
            simp [Array.getD, this]
          exact c3 _ (List.mem_of_getElem? hm)
        · exact f5.one j hj
    · rcases List.mem_or_eq_of_mem_set hx' with hx' | rfl
      · exact f5.gr x' hx'
      · rw [List.all_eq_true]
        intro z hz
        exact gO_of_gU ((List.all_eq_true.1 hg) z hz)
    · rw [List.getElem?_set] at hx'
      by_cases hkk' : k = k'
      · subst hkk'
        rw [if_pos rfl, if_pos hk] at hx'
        obtain rfl := Option.some.inj hx'
        obtain ⟨q1, q2, q3⟩ := hcl j y' hy'
        exact repN_of_gU q2 q3 (hno j q1)
      · rw [if_neg hkk'] at hx'
        have hk' : k' < xs.length := (List.getElem?_eq_some_iff.1 hx').1
        have hjes : j < es := by rw [← f5.hl k' x' hx']; exact (List.getElem?_eq_some_iff.1 hy').1
        have h5 := (f5.rep k' x' hx' j y' hy').lift LG (fun b hb => setRow_other w g b cur' (fun e => by subst e; exact f5.ng _ _ hb))
        have h6 := hidx k' j hk' hjes (Ne.symm hkk')
        rw [hgd]
        by_cases h7 : k' * es + j < k * es
        · rw [if_pos h7]; exact h5
        · rw [if_neg h7, if_neg (by omega)]; exact h5
    · obtain ⟨x1, y1, hx1, hy1⟩ := f5.nb k' j b h
      by_cases hkk' : k = k'
      · subst hkk'
        rw [hq] at hx1
        obtain rfl := Option.some.inj hx1
        have hj : j < es := by rw [← hql]; exact (List.getElem?_eq_some_iff.1 hy1).1
        exact (hno j hj b h).elim
      · exact ⟨x1, y1, by rw [List.getElem?_set, if_neg hkk']; exact hx1, hy1⟩
    · obtain ⟨_, q2⟩ := refOffs_mem cs 0 p hp
      rw [Nat.sub_zero] at q2
      have hj : p.1 < es := by rw [← hn]; exact (List.getElem?_eq_some_iff.1 q2).1
      rw [hnew _ hj]
      exact L _ _ (c2 _ _ q2)
variable {K : List Tr → Sg → Prop} {k : Nat} {σ : Sg}
theorem At.idxH (t d : Nat) (x y : Operand) (i : Nat) (xs : List V) (j : Nat) (hs : List (Nat × Nat)) (kd : IntKind) (n : Int) (e es : Nat) (h0 : 0 ≤ n) (h1 : n.toNat < xs.length)
    (r : At P N ops (k + 1) (σ.puts [.t d (.ptr i n.toNat 0)]) (fun t s => K (⟨(gpOf ops σ (opAt ops k)).getD [] ++ (opw x (.ref i) ++ opw y (.int kd n) ++ [.o i (.holes e es xs j hs)]), [.t d (.ptr i n.toNat 0)]⟩ :: t) s)) (hg : goes ops σ k = true := by kernel_rfl) (ho : opd (opAt ops k) = (.indexAddr t x y, some d) := by kernel_rfl) (ht : slE P t N.n d = some (e, es) := by kernel_rfl) (hv : [σ.ev x, σ.ev y] = [.ref i, .int kd n] := by kernel_rfl) (hob : σ.ob i = .holes e es xs j hs := by kernel_rfl) : At P N ops k σ K := by
  obtain ⟨a1, a2, a3⟩ := slE_of ht
  simp only [List.cons.injEq, and_true] at hv
  exact At.step2 hg ⟨ok_indexH (opd1 ho) (opd2 ho) a3 a1 a2 hv.1 hob hv.2 h0 h1, has2 (has2 (opw_has hv.1) (opw_has hv.2)) ⟨hob, trivial⟩⟩ r
theorem At.ldH (t d : Nat) (x : Operand) (i e es : Nat) (xs : List V) (j : Nat) (hs : List (Nat × Nat)) (off : Nat) (b : Bool) (m : Nat) (y v : V) (hy : xs[j]? = some y)
    (r : At P N ops (k + 1) (σ.puts [.t d v]) (fun t s => K (⟨(gpOf ops σ (opAt ops k)).getD [] ++ (opw x (.ptr i j off) ++ [.o i (.holes e es xs j hs)]), [.t d v]⟩ :: t) s)) (hg : goes ops σ k = true := by kernel_rfl) (ho : opd (opAt ops k) = (.load t x, some d) := by kernel_rfl) (ht : ldT P t N.n d = some (b, m) := by kernel_rfl) (hx : σ.ev x = .ptr i j off := by kernel_rfl) (hob : σ.ob i = .holes e es xs j hs := by kernel_rfl) (hv : loadV b m off (fillH hs ((cl y).map pl)) = some v := by kernel_rfl) : At P N ops k σ K := by
  obtain ⟨a1, a2, a3⟩ := ldT_of ht
  exact At.step2 hg ⟨ok_loadH true (opd1 ho) (opd2 ho) a3 hx hob hy a1 a2 (fun _ => rfl) (by simpa using hv), has2 (opw_has hx) ⟨hob, trivial⟩⟩ r
theorem At.ldP (t d : Nat) (x : Operand) (i e es : Nat) (xs : List V) (j off : Nat) (b : Bool) (m : Nat) (y v : V) (hy : xs[j]? = some y)
    (r : At P N ops (k + 1) (σ.puts [.t d v]) (fun t s => K (⟨(gpOf ops σ (opAt ops k)).getD [] ++ (opw x (.ptr i j off) ++ [.o i (.arr e es xs)]), [.t d v]⟩ :: t) s)) (hg : goes ops σ k = true := by kernel_rfl) (ho : opd (opAt ops k) = (.load t x, some d) := by kernel_rfl) (ht : ldT P t N.n d = some (b, m) := by kernel_rfl) (hx : σ.ev x = .ptr i j off := by kernel_rfl) (hob : σ.ob i = .arr e es xs := by kernel_rfl) (hv : loadV b m off ((cl y).map pl) = some v := by kernel_rfl) : At P N ops k σ K := by
  obtain ⟨a1, a2, a3⟩ := ldT_of ht
  exact At.step2 hg ⟨ok_loadP (opd1 ho) (opd2 ho) a3 hx hob hy a1 a2 hv, has2 (opw_has hx) ⟨hob, trivial⟩⟩ r
theorem At.stH (t i e es k' : Nat) (x y : Operand) (xs cs qs : List V) (hs : List (Nat × Nat)) (hq : xs[k']? = some (.agg qs))
    (r : At P N ops (k + 1) (σ.puts [.o i (.holes e es (xs.set k' (.agg (cs.map unref))) k' (refOffs 0 cs))]) (fun t s => K (⟨(gpOf ops σ (opAt ops k)).getD [] ++ (opw x (.ptr i k' 0) ++ opw y (.agg cs) ++ [.o i (.holes e es xs k' hs)]), [.o i (.holes e es (xs.set k' (.agg (cs.map unref))) k' (refOffs 0 cs))]⟩ :: t) s)) (hg : goes ops σ k = true := by kernel_rfl) (ho : opd (opAt ops k) = (.store t x y, none) := by kernel_rfl) (hx : [σ.ev x, σ.ev y] = [.ptr i k' 0, .agg cs] := by kernel_rfl) (hob : σ.ob i = .holes e es xs k' hs := by kernel_rfl)
    (hc : (szOf P t, cs.all oneV && ((cs.map unref).all gU && (qs.all plain && Nat.beq cs.length es))) = (some es, true) := by kernel_rfl) : At P N ops k σ K := by
  simp only [List.cons.injEq, and_true] at hx
  simp only [Prod.mk.injEq, Bool.and_eq_true] at hc
  obtain ⟨c0, c1, c2, c3, c4⟩ := hc
  exact At.step2 hg ⟨ok_storeH (opd1 ho) (opd2 ho) hx.1 hx.2 hob c0 c1 c2 (Nat.eq_of_beq_eq_true c4) hq c3, has2 (has2 (opw_has hx.1) (opw_has hx.2)) ⟨hob, trivial⟩⟩ r
end
end Go.Sy

