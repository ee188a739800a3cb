/- A slice that a cell of an array owns, taken out and put back; strings and bytes; division. -/
import Derived.Test.YtocjgmdfocaamaaGreatSRecsTellQ
import Derived.Laws.IdiomStrings
set_option linter.unusedVariables false
set_option linter.unusedSimpArgs false
namespace Go.Sy
theorem putEl_cl0 {es off : Nat} {ys : List V} {z y y' : V} (h : putEl es off ys y = some y') (hl : (cl y).length = es) (hys : ys = [z]) (hz : cl z = [z]) : (cl y').length = es ∧ off < es ∧ ∀ j : Nat, (cl y')[j]? = if j = off then some z else (cl y)[j]? := by
  unfold putEl at h
  split at h
  · split at h
    · cases h
    · rename_i z' _
      injection hys with he _
      subst he
      split at h
      · rename_i h0
        obtain rfl := Option.some.inj h
        subst h0
        have hy : ∃ q, cl y = [q] := by
          cases hq : cl y with
          | nil => rw [hq] at hl; simp at hl
          | cons q l =>
            rw [hq] at hl
            simp at hl
            exact ⟨q, by rw [hl]⟩
        obtain ⟨q, hy⟩ := hy
        rw [hz, hy]
        refine ⟨rfl, by simp, fun j => ?_⟩
        cases j with
        | zero => simp
        | succ j => simp
      · cases h
    · cases h
  · split at h
    · rename_i cs
      obtain ⟨c1, hst, rfl⟩ := Option.map_eq_some_iff.1 h
      obtain ⟨s1, s2, s3⟩ := storeV_get hst
      subst hys
      simp only [cl, List.length_cons, List.length_nil] at hl s2 s3 ⊢
      refine ⟨by omega, by omega, fun j => ?_⟩
      rw [s3]
      by_cases hj : j = off
      · subst hj; simp
      · rw [if_neg (by omega), if_neg hj]
    · cases h
theorem putEl_cl1 {es off : Nat} {z y y' : V} (h : putEl es off [z] y = some y') (hl : (cl y).length = es) (hz : cl z = [z]) : (cl y').length = es ∧ off < es ∧ ∀ j : Nat, (cl y')[j]? = if j = off then some z else (cl y)[j]? := putEl_cl0 h hl rfl hz
section
variable {w : World} {I J : Nat → Prop}
theorem Arr.turn {N : Nat → Nat → Nat → Prop} {F : Nat → Prop} {g cap : Nat} {cur : Array Value} {e es : Nat} {xs : List V} (h : Arr w I J N F g cap cur e es xs) {j off : Nat} {y y' z : V} (hy : xs[j]? = some y) (hz : cl z = [z]) (hg : gO z = true) (hp : putEl es off [z] y = some y')
    (M : Nat → Prop) (hM : RepN w I J M (cur.getD (j * es + off) undef) z) (hm1 : ∀ b, M b → ∀ k' j', N k' j' b → k' = j ∧ j' = off) (hm2 : ¬ M g) :
    Arr w I J (fun k' j' b => if k' = j ∧ j' = off then M b else N k' j' b) (fun b => b = g ∨ ∃ k' j', (if k' = j ∧ j' = off then M b else N k' j' b)) g cap cur e es (xs.set j y') := by
  obtain ⟨p1, p2, p3⟩ := putEl_cl1 hp (h.hl j y hy) hz
  have hjl := (List.getElem?_eq_some_iff.1 hy).1
  have hget : ∀ (k : Nat) (x : V), (xs.set j y')[k]? = some x → (k = j ∧ x = y') ∨ (k ≠ j ∧ xs[k]? = some x) := by
    intro k x hx
    rw [List.getElem?_set] at hx
    by_cases e : j = k
    · rw [if_pos e, if_pos (by omega)] at hx
      exact .inl ⟨e.symm, (Option.some.inj hx).symm⟩
    · rw [if_neg e] at hx
      exact .inr ⟨fun h => e h.symm, hx⟩
  refine ⟨h.heap, h.size, by simpa using h.le, h.max, fun k x hx => ?_, fun i hi => h.one i (by simpa using hi), fun x hx => ?_, fun k x hx i u hu => ?_, fun b => Iff.rfl, fun k i hb => ?_, fun k i k' i' b h1 h2 => ?_, fun k i b hb => ?_⟩
  · rcases hget k x hx with ⟨rfl, rfl⟩ | ⟨_, hx⟩
    · exact p1
    · exact h.hl k x hx
  · rcases List.mem_or_eq_of_mem_set hx with hx | rfl
    · exact h.gr x hx
    · rw [List.all_eq_true]
      intro u hu
      obtain ⟨i, hi⟩ := List.getElem?_of_mem hu
      rw [p3] at hi
      split at hi
      · obtain rfl := Option.some.inj hi; exact hg
      · exact (List.all_eq_true.1 (h.gr y (List.mem_of_getElem? hy))) u (List.mem_of_getElem? hi)
  · rcases hget k x hx with ⟨rfl, rfl⟩ | ⟨hk, hx⟩
    · rw [p3] at hu
      by_cases hi : i = off
      · subst hi
        rw [if_pos rfl] at hu
        obtain rfl := Option.some.inj hu
        simp only [and_self, if_true]
        exact hM
      · rw [if_neg hi] at hu
        have := h.rep k y hy i u hu
        simpa [hi] using this
    · have := h.rep k x hx i u hu
      simpa [hk] using this
  · split at hb
    · exact hm2 hb
    · exact h.ng k i hb
  · split at h1
    · rename_i e1
      split at h2
      · rename_i e2; exact ⟨e1.1.trans e2.1.symm, e1.2.trans e2.2.symm⟩
      · have := hm1 b h1 k' i' h2
        exact ⟨e1.1.trans this.1.symm, e1.2.trans this.2.symm⟩
    · split at h2
      · rename_i e2
        have := hm1 b h2 k i h1
        exact ⟨this.1.trans e2.1.symm, this.2.trans e2.2.symm⟩
      · exact h.nd k i k' i' b h1 h2
  · split at hb
    · rename_i e1
      refine ⟨y', z, by rw [e1.1, List.getElem?_set, if_pos rfl, if_pos hjl], by rw [e1.2, p3, if_pos rfl]⟩
    · rename_i e1
      obtain ⟨x, u, hx, hu⟩ := h.nb k i b hb
      by_cases hk : k = j
      · subst hk
        rw [hy] at hx
        obtain rfl := Option.some.inj hx
        exact ⟨y', u, by rw [List.getElem?_set, if_pos rfl, if_pos hjl], by rw [p3, if_neg (fun e => e1 ⟨rfl, e⟩)]; exact hu⟩
      · exact ⟨x, u, by rw [List.getElem?_set, if_neg (fun e => hk e.symm)]; exact hx, hu⟩
end
def Gh.out (G : Gh) (i k : Nat) (r : RI) (Fi Fk : Nat → Prop) : Gh := { G with ρ := fun l => if l = k then some r else G.ρ l, F := fun l => if l = k then Fk else if l = i then Fi else G.F l }
theorem arr_of_flat {w : World} {I J : Nat → Prop} {g cap : Nat} {cur : Array Value} {e es : Nat} {ys : List V} (h : Flat w I J g cap cur e es ys) {F : Nat → Prop} (hF : ∀ b, F b ↔ b = g) : Arr w I J (fun _ _ _ => False) F g cap cur e es ys :=
  ⟨h.heap, h.size, h.le, h.max, h.hl, h.one, fun x hx => by
    rw [List.all_eq_true]
    intro y hy
    exact gO_of_gS ((List.all_eq_true.1 (h.gr x hx)) y hy), fun k x hx j y hy => repN_of_gS (ρ := fun _ => none) ((List.all_eq_true.1 (h.gr x (List.mem_of_getElem? hx))) y (List.mem_of_getElem? hy)) (.g (h.rep k x hx j y hy)), fun b => by rw [hF b]; simp, fun _ _ h => h, fun _ _ _ _ _ h => h.elim, fun _ _ _ h => h.elim⟩
section
variable {P : Program} {N : Cx} {ops : Array Oper}
theorem ok_open {o : Oper} {x : Operand} {t : TypeId} {d i e es j off k e' es' : Nat} {σ : Sg} {xs ys : List V} {y y' : V} (ho : o.op = .load t x) (hd : o.dst = some d) (hn : d < N.n) (hx : σ.ev x = .ptr i j off) (hob : σ.ob i = .arr e es xs) (hy : xs[j]? = some y)
    (hc : (cl y)[off]? = some (.own e' es' ys)) (hA : isA P t = some false) (hy' : putEl es off [.un] y = some y') (hik : i ≠ k) :
    CoreOk P N o (opw x (.ptr i j off) ++ [.o i (.arr e es xs), .o k .free]) ([.o i (.hole e es (xs.set j y') j off k), .o k (.arr e' es' ys)] ++ [.t d (.ref k)]) :=
  eff_ok hd hn (fun z hz => by simp at hz; rcases hz with h | h <;> exact ⟨_, _, h⟩) fun G w σ' a H _ he hp => by
    obtain ⟨hp1, hp2⟩ := has_append.1 hp
    have h1 := he x
    rw [opw_ev hx hp1] at h1
    obtain ⟨r, g, e1, e2, e3⟩ := Rep.inv_ptr h1
    obtain ⟨r', f1, f2, f3, f4⟩ := arr_of H (show σ'.ob i = .arr e es xs from hp2.1)
    have hfk : σ'.ob k = .free := hp2.2.1
    obtain ⟨k1, k2⟩ := H.free hfk
    rw [e1] at f1
    obtain rfl := Option.some.inj f1
    rcases f4 with ⟨f4, f5, _⟩ | ⟨g', cur, M, f4, f5⟩
    · subst f5; simp at hy
    rw [e2] at f4
    obtain rfl := Option.some.inj f4
    rw [f2] at e3
    have hjl := (List.getElem?_eq_some_iff.1 hy).1
    have hoff : off < es := by rw [← f5.hl j y hy]; exact (List.getElem?_eq_some_iff.1 hc).1
    have hlt : j * es + off < cur.size := by rw [f5.size]; exact idx_lt hjl f5.le hoff
    have hcell : w.cell? ⟨g, j * es + off, none⟩ = some (cur.getD (j * es + off) undef) := by
      rw [cell_of_row w g _ cur e (0, 0) f5.heap]
      simp [Array.getD, hlt]
    have hr := f5.rep j y hy off _ hc
    generalize hu : cur.getD (j * es + off) undef = u at hcell hr
    have hown : (RI.of u es').sl u ∧ ∀ ρ, OwnOb ρ w G.I G.J (some (RI.of u es')) (M j off) (.arr e' es' ys) := by
      rcases hr with ⟨rfl, rfl, q3⟩ | ⟨g2, cap2, cur2, rfl, q2, q3⟩
      · exact ⟨⟨rfl, rfl⟩, fun ρ => ⟨_, rfl, rfl, rfl, .inl ⟨rfl, rfl, q3, rfl⟩⟩⟩
      · exact ⟨rfl, fun ρ => ⟨_, rfl, rfl, rfl, .inr ⟨g2, cur2, _, rfl, arr_of_flat q2 q3⟩⟩⟩
    have ht := f5.turn hy (z := .un) rfl rfl hy' (fun _ => False) ⟨.un _, fun _ h => h⟩ (fun _ h => h.elim) (fun h => h)
    generalize hFi : (fun b => b = g ∨ ∃ k' j', (if k' = j ∧ j' = off then False else M k' j' b)) = Fi at ht
    have hFi2 : ∀ b, Fi b → G.F i b := by
      intro b hb
      rw [← hFi] at hb
      rw [f5.fo]
      rcases hb with hb | ⟨k', j', hb⟩
      · exact .inl hb
      · split at hb
        · exact hb.elim
        · exact .inr ⟨k', j', hb⟩
    have hMi : ∀ b, M j off b → G.F i b := fun b hb => (f5.fo b).2 (.inr ⟨j, off, hb⟩)
    have hdis : ∀ b, Fi b → M j off b → False := by
      intro b hb hm
      rw [← hFi] at hb
      rcases hb with rfl | ⟨k', j', hb⟩
      · exact f5.ng j off hm
      · split at hb
        · exact hb
        · rename_i hne
          exact hne (f5.nd k' j' j off b hb hm)
    refine ⟨u, w, G.out i k (RI.of u es') Fi (M j off), ?_, ?_⟩
    · simp only [execOp, ho, e3, Sem.run_bind, run_load1 hA hcell, Result.andThen_ok, Sem.run_pure]
    have hobi : (σ'.puts [W.o i (Ob.hole e es (xs.set j y') j off k), W.o k (Ob.arr e' es' ys)]).ob = fun l => if l = k then .arr e' es' ys else if l = i then .hole e es (xs.set j y') j off k else σ'.ob l := by
      funext l; simp [Sg.puts, Sg.put]
    rw [hobi]
    have key : Hold (G.out i k (RI.of u es') Fi (M j off)) w (fun l => if l = k then .arr e' es' ys else if l = i then .hole e es (xs.set j y') j off k else σ'.ob l) ∧ Fr G w (G.out i k (RI.of u es') Fi (M j off)) w := by
      refine Hold.step (G' := G.out i k (RI.of u es') Fi (M j off)) (w' := w) (ob' := fun l => if l = k then .arr e' es' ys else if l = i then .hole e es (xs.set j y') j off k else σ'.ob l) H rfl rfl rfl rfl rfl (Nat.le_refl _)
        (fun l rr h => by simp only [Gh.out]; rw [if_neg (fun e => by subst e; rw [k1] at h; cases h)]; exact h)
        (fun l => l = i ∨ l = k) (fun l hl => by
          have h1 : l ≠ i := fun e => hl (.inl e)
          have h2 : l ≠ k := fun e => hl (.inr e)
          simp [Gh.out, h1, h2]) (fun _ _ _ => rfl) (fun LG L l hl => ?_) (fun l b hl hb => .inl ⟨i, .inl rfl, ?_⟩) (fun l b hl hb => ?_) (fun l l' b hl hl' hb hb' => ?_)
      · rcases hl with rfl | rfl
        · have : (G.out l k (RI.of u es') Fi (M j off)).ρ l = some r := by simp [Gh.out, hik, e1]
          rw [this]
          have h2 : (G.out l k (RI.of u es') Fi (M j off)).F l = Fi := by simp [Gh.out, hik]
          rw [h2]
          simp only [if_neg hik, if_true]
          refine ⟨r, g, cur, _, rfl, f2, by simpa using f3, e2, ht, ?_⟩
          rw [hu]
          exact Rep.ref k (RI.of u es') u (by simp [Gh.out]) hown.1
        · have : (G.out i l (RI.of u es') Fi (M j off)).ρ l = some (RI.of u es') := by simp [Gh.out]
          rw [this]
          have h2 : (G.out i l (RI.of u es') Fi (M j off)).F l = M j off := by simp [Gh.out]
          rw [h2]
          simp only [if_true]
          exact hown.2 _
      · rcases hl with rfl | rfl
        · simp only [Gh.out, if_neg hik, if_true] at hb
          exact hFi2 b hb
        · simp only [Gh.out, if_true] at hb
          exact hMi b hb
      · rcases hl with rfl | rfl
        · simp only [Gh.out, if_neg hik, if_true] at hb
          exact H.flt _ b (hFi2 b hb)
        · simp only [Gh.out, if_true] at hb
          exact H.flt _ b (hMi b hb)
      · rcases hl with rfl | rfl <;> rcases hl' with rfl | rfl
        · rfl
        · simp only [Gh.out, if_neg hik, if_true] at hb hb'
          exact (hdis b hb hb').elim
        · simp only [Gh.out, if_neg hik, if_true] at hb hb'
          exact (hdis b hb' hb).elim
        · rfl
    exact ⟨key.1, key.2, Rep.ref k (RI.of u es') u (by simp [Gh.out]) hown.1⟩
end
theorem own_cell {G : Gh} {w : World} {ob : Nat → Ob} (H : Hold G w ob) {k e es : Nat} {zs : List V} (hob : ob k = .arr e es zs) (hf : ∀ x ∈ zs, (cl x).all gS = true) {v : Value} (hv : G.Rep w v (.ref k)) : RepN w G.I G.J (G.F k) v (.own e es zs) := by
  obtain ⟨_, _, _, h⟩ := convL_of (0, 0) H [.ref k] [.own e es zs] [k] (by simp [convL, hob]) (fun i hi e' es' ys he => by
    simp at hi
    subst hi
    rw [hob] at he
    injection he with _ _ he
    subst he
    exact hf)
  have := (h 0 (.ref k) (.own e es zs) v rfl rfl hv).2
  have e : (fun b => ∃ i, refAt [V.ref k] 0 = some i ∧ G.F i b) = G.F k := by
    funext b
    simp [refAt]
  rwa [e] at this
end Go.Sy

