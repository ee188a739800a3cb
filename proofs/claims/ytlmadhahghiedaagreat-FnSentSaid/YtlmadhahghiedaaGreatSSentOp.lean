/- An element read as a whole, its slices opened in the same step. -/
import Derived.Test.YtlmadhahghiedaaGreatSSentZ
set_option linter.unusedVariables false
set_option linter.unusedSimpArgs false
namespace Go.Sy
theorem CoreOk.ghost {P : Program} {N : Cx} {o : Oper} {pre0 g pre post : List W} (hs : ∀ σ : Sg, σ.has pre0 → Sub N σ (σ.puts g)) (hp : ∀ σ : Sg, σ.has pre0 → (σ.puts g).has pre) (h : CoreOk P N o pre post) : CoreOk P N o pre0 (g ++ post) := by
  intro G0 w0 σ a w s hp0 Q K hK
  exact h G0 w0 (σ.puts g) a w (hs σ hp0 G0 w0 a w s) (hp σ hp0) Q K (fun a' w' s' => hK a' w' (by rw [puts_append]; exact s'))
def openW (es : Nat) : List (Nat × Nat) → V → List (Nat × Nat) → Option (V × List (Nat × Nat) × List W)
  | [], y, hs => some (y, hs, [])
  | (off, k) :: l, y, hs =>
    match (cl y)[off]? with
    | some (.own e' es' ys) => match putEl es off [.un] y with
      | some y' => match openW es l y' ((off, k) :: hs) with
        | some (y2, hs2, ws) => some (y2, hs2, .o k (.arr e' es' ys) :: ws)
        | none => none
      | none => none
    | _ => none
theorem openW_L (i es : Nat) : ∀ (l : List (Nat × Nat)) (y : V) (hs : List (Nat × Nat)) (σ : Sg) (y' : V) (hs' : List (Nat × Nat)) (ws : List W), openW es l y hs = some (y', hs', ws) → nodupB (l.map Prod.snd) = true → notIn i (l.map Prod.snd) = true → (∀ p ∈ l, σ.ob p.2 = .free) →
    openL i es l y hs σ = some (y', hs', σ.puts ws) ∧ ∀ w ∈ ws, ∃ p ∈ l, ∃ z, w = .o p.2 z
  | [], y, hs, σ, y', hs', ws, h, _, _, _ => by
    simp only [openW, Option.some.injEq, Prod.mk.injEq] at h
    obtain ⟨rfl, rfl, rfl⟩ := h
    exact ⟨rfl, fun w hw => by cases hw⟩
  | (off, k) :: l, y, hs, σ, y', hs', ws, h, hn, hi, hf => by
    simp only [openW] at h
    split at h
    · rename_i e1 es1 ys hc
      split at h
      · rename_i y1 hy1
        split at h
        · rename_i y2 hs2 ws2 hrec
          simp only [Option.some.injEq, Prod.mk.injEq] at h
          obtain ⟨rfl, rfl, rfl⟩ := h
          simp only [List.map_cons, nodupB, Bool.and_eq_true] at hn
          have hik : i ≠ k := by
            intro e
            have := notIn_iff hi
            simp [e] at this
          have hi2 : notIn i (l.map Prod.snd) = true := by
            simp only [List.map_cons, notIn, List.all_cons, Bool.and_eq_true] at hi ⊢
            exact hi.2
          have hk : σ.ob k = .free := hf _ List.mem_cons_self
          have ih := openW_L i es l y1 ((off, k) :: hs) (σ.put (.o k (.arr e1 es1 ys))) _ _ ws2 hrec hn.2 hi2 (fun p hp => by
            have hpk : p.2 ≠ k := by
              intro e
              have := notIn_iff hn.1
              exact this (by rw [← e]; exact List.mem_map_of_mem hp)
            simp [Sg.put, hpk, hf p (List.mem_cons_of_mem _ hp)])
          refine ⟨?_, fun w hw => ?_⟩
          · simp only [openL, hc, hk, hy1]
            have hb : Nat.beq i k = false := by
              cases hq : Nat.beq i k with
              | false => rfl
              | true => exact (hik (Nat.eq_of_beq_eq_true hq)).elim
            rw [hb]
            simp only
            rw [ih.1]
            rfl
          · rcases List.mem_cons.1 hw with rfl | hw
            · exact ⟨(off, k), List.mem_cons_self, _, rfl⟩
            · obtain ⟨p, hp, z, e⟩ := ih.2 w hw
              exact ⟨p, List.mem_cons_of_mem _ hp, z, e⟩
        · cases h
      · cases h
    · cases h
theorem putsO_tm : ∀ (ws : List W) (σ : Sg), (∀ w ∈ ws, ∃ k z, w = W.o k z) → (σ.puts ws).tm = σ.tm
  | [], σ, _ => rfl
  | w :: ws, σ, h => by
    obtain ⟨k, z, rfl⟩ := h w List.mem_cons_self
    exact putsO_tm ws _ (fun w hw => h w (List.mem_cons_of_mem _ hw))
section
variable {P : Program} {N : Cx} {ops : Array Oper}
theorem ok_loadO {o : Oper} {x : Operand} {t : TypeId} {d i e es j n : Nat} {b : Bool} {σ0 : Sg} {xs : List V} {l hs : List (Nat × Nat)} {y y' v : V} {ws : List W} (ho : o.op = .load t x) (hd : o.dst = some d) (hn : d < N.n) (hx : σ0.ev x = .ptr i j 0) (hy : xs[j]? = some y)
    (hA : isA P t = some b) (hs' : szOf P t = some n) (hw : openW es l y [] = some (y', hs, ws)) (hnd : nodupB (l.map Prod.snd) = true) (hni : notIn i (l.map Prod.snd) = true) (hv : loadV b n 0 (fillH hs ((cl y').map pl)) = some v) :
    CoreOk P N o (opw x (.ptr i j 0) ++ (.o i (.arr e es xs) :: l.map fun p => .o p.2 .free)) ((ws ++ [.o i (.holes e es (xs.set j y') j hs)]) ++ [.t d v]) := by
  have hfree : ∀ σ : Sg, σ.has (l.map fun p => W.o p.2 .free) → ∀ p ∈ l, σ.ob p.2 = .free := by
    intro σ
    clear hw hnd hni
    induction l with
    | nil => intro _ p hp; cases hp
    | cons a l ih =>
      intro h p hp
      simp only [List.map_cons] at h
      rcases List.mem_cons.1 hp with rfl | hp
      · exact h.1
      · exact ih h.2 p hp
  have hW : ∀ σ : Sg, σ.has (opw x (.ptr i j 0) ++ (.o i (.arr e es xs) :: l.map fun p => .o p.2 .free)) → σ.ob i = .arr e es xs ∧ openL i es l y [] σ = some (y', hs, σ.puts ws) ∧ ∀ w ∈ ws, ∃ p ∈ l, ∃ z, w = .o p.2 z := by
    intro σ h
    have h2 := (has_append.1 h).2
    exact ⟨h2.1, openW_L i es l y [] σ y' hs ws hw hnd hni (hfree σ h2.2)⟩
  refine CoreOk.ghost (pre := opw x (.ptr i j 0) ++ [.o i (.holes e es (xs.set j y') j hs)]) (fun σ h => ?_) (fun σ h => ?_) (ok_loadH true ho hd hn hx (σ := σ0.put (.o i (.holes e es (xs.set j y') j hs))) (e := e) (es := es) (j := j) (xs := xs.set j y') (hs := hs) (y := y') (by simp [Sg.put]) ?_ hA hs' (fun _ => rfl) (by simpa using hv))
  · obtain ⟨h1, h2, h3⟩ := hW σ h
    have := Sub.openL (N := N) (σ := σ) i j e es xs y l h1 hy (by rw [h2]; rfl)
    simp only [h2, Option.get_some] at this
    rw [puts_append]
    exact this
  · obtain ⟨h1, h2, h3⟩ := hW σ h
    have htm : (σ.puts (ws ++ [.o i (.holes e es (xs.set j y') j hs)])).tm = σ.tm := putsO_tm _ σ (fun w hw => by
      rcases List.mem_append.1 hw with hw | hw
      · obtain ⟨p, _, z, e⟩ := h3 w hw
        exact ⟨_, _, e⟩
      · rw [List.mem_singleton.1 hw]; exact ⟨_, _, rfl⟩)
    refine has_append.2 ⟨?_, ?_, trivial⟩
    · have h4 := (has_append.1 h).1
      unfold opw at h4 ⊢
      split
      · exact ⟨(congrFun htm _).trans h4.1, trivial⟩
      · trivial
    · rw [puts_append]
      simp [Sg.puts, Sg.put, Sg.has1]
  · obtain ⟨hj, rfl⟩ := List.getElem?_eq_some_iff.1 hy
    simp [hj]
variable {K : List Tr → Sg → Prop} {k : Nat} {σ : Sg}
theorem At.ldO (t d : Nat) (x : Operand) (i e es : Nat) (xs : List V) (j : Nat) (l : List (Nat × Nat)) (b : Bool) (m : Nat) (y v : V) (hy : xs[j]? = some y)
    (r : At P N ops (k + 1) (σ.puts ((((openW es l y []).getD (y, [], [])).2.2 ++ [.o i (.holes e es (xs.set j ((openW es l y []).getD (y, [], [])).1) j ((openW es l y []).getD (y, [], [])).2.1)]) ++ [.t d v])) (fun t s => K (⟨(gpOf ops σ (opAt ops k)).getD [] ++ (opw x (.ptr i j 0) ++ (.o i (.arr e es xs) :: l.map fun p => .o p.2 .free)), (((openW es l y []).getD (y, [], [])).2.2 ++ [.o i (.holes e es (xs.set j ((openW es l y []).getD (y, [], [])).1) j ((openW es l y []).getD (y, [], [])).2.1)]) ++ [.t d v]⟩ :: t) s))
    (hg : goes ops σ k = true := by kernel_rfl) (ho : opd (opAt ops k) = (.load t x, some d) := by kernel_rfl) (ht : ldT P t N.n d = some (b, m) := by kernel_rfl) (hx : σ.ev x = .ptr i j 0 := by kernel_rfl) (hob : σ.ob i = .arr e es xs := by kernel_rfl)
    (hw : ((openW es l y []).isSome && (nodupB (l.map Prod.snd) && (notIn i (l.map Prod.snd) && l.all (fun p => isFree (σ.ob p.2))))) = true := by kernel_rfl) (hv : loadV b m 0 (fillH ((openW es l y []).getD (y, [], [])).2.1 ((cl ((openW es l y []).getD (y, [], [])).1).map pl)) = some v := by kernel_rfl) : At P N ops k σ K := by
  obtain ⟨a1, a2, a3⟩ := ldT_of ht
  simp only [Bool.and_eq_true] at hw
  obtain ⟨w1, w2, w3, w4⟩ := hw
  have hw : openW es l y [] = some (((openW es l y []).getD (y, [], [])).1, ((openW es l y []).getD (y, [], [])).2.1, ((openW es l y []).getD (y, [], [])).2.2) := by
    obtain ⟨z, hz⟩ := Option.isSome_iff_exists.1 w1
    rw [hz]; rfl
  have hfr : σ.has (l.map fun p => W.o p.2 .free) := by
    clear w1 w2 w3 hw hv r
    induction l with
    | nil => trivial
    | cons a l ih =>
      simp only [List.all_cons, Bool.and_eq_true] at w4
      refine ⟨?_, ih w4.2⟩
      have := w4.1
      show σ.ob a.2 = .free
      cases hq : σ.ob a.2 <;> rw [hq] at this <;> first | rfl | cases this
  exact At.step2 hg ⟨ok_loadO (opd1 ho) (opd2 ho) a3 hx hy a1 a2 hw w2 w3 hv, has_append.2 ⟨opw_has hx, hob, hfr⟩⟩ r
end
theorem set_or {xs : List V} {i j : Nat} {y x : V} (h : xs[i]? = some x) (hj : j < xs.length) : (xs.set j y)[i]? = some x ∨ (i = j ∧ (xs.set j y)[i]? = some y) := by
  by_cases e : j = i
  · subst e
    exact .inr ⟨rfl, by simp [hj]⟩
  · exact .inl (by rw [List.getElem?_set, if_neg e]; exact h)
theorem cell_at {α : Type} {f : α → V} {L : List α} {i j : Nat} {a b : α} {y' v : V} {m off : Nat} (hi : L[i]? = some a) (hj : L[j]? = some b) (h1 : loadV false m off ((cl (f a)).map pl) = some v) (h2 : ∀ v', loadV false m off ((cl (f b)).map pl) = some v' → loadV false m off ((cl y').map pl) = some v') :
    ∃ y, ((L.map f).set j y')[i]? = some y ∧ loadV false m off ((cl y).map pl) = some v := by
  rcases set_or (y := y') (mapGet (f := f) hi) (show j < (L.map f).length by rw [List.length_map]; exact (List.getElem?_eq_some_iff.1 hj).1) with h | ⟨e, h⟩
  · exact ⟨_, h, h1⟩
  · subst e
    rw [hi] at hj
    obtain rfl := Option.some.inj hj
    exact ⟨_, h, h2 v h1⟩
end Go.Sy

