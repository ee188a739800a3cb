/- What a function does, said over values and objects; calls. -/
import Derived.Test.YtocjgmdfocaamaaGreatSRecsTellI
set_option linter.unusedVariables false
set_option linter.unusedSimpArgs false
namespace Go.Sy
def obs (T : List Ob) : Nat → Ob := fun i => T.getD i .free
def FnSpec (P : Program) (f : Nat) (As : List V) (T : List Ob) (R : V) (T' : List Ob) : Prop :=
  ∀ (G : Gh) (w : World) (args : Array Value), Hold G w (obs T) → args.size = As.length → (∀ (k : Nat) (x : V), As[k]? = some x → G.Rep w (args.getD k undef) x) →
    Calls P f args w (fun e w' => ∃ v G', e = .returned v ∧ Hold G' w' (obs T') ∧ G'.Rep w' v R ∧ Fr G w G' w')
def SpecAt (P : Program) (f : Nat) (As : List V) (T : List Ob) (R : V) (T' : List Ob) (G : Gh) (w : World) : Prop :=
  ∀ (args : Array Value), Hold G w (obs T) → args.size = As.length → (∀ (k : Nat) (x : V), As[k]? = some x → G.Rep w (args.getD k undef) x) →
    Calls P f args w (fun e w' => ∃ v G', e = .returned v ∧ Hold G' w' (obs T') ∧ G'.Rep w' v R ∧ Fr G w G' w')
def resV (P : Program) (σ : Sg) : List ResultVar → Option (List V)
  | [] => some []
  | .tmp t :: l => (resV P σ l).map fun r => σ.tm t :: r
  | .cell t ty :: l => match σ.tm t with
    | .ptr i 0 0 => match σ.ob i with
      | .box _ cs => if isA P ty = some true ∧ szOf P ty = some cs.length then (resV P σ l).map fun r => .agg cs :: r else none
      | _ => none
    | _ => none
def resOf : List V → V
  | [x] => x
  | l => .tup l
def KF (P : Program) (m : Nat) (rs : List ResultVar) (R : V) (T' : List Ob) : Exit → Sg → Prop := fun e σ =>
  (e = .normal ∨ e = .ret) ∧ ∃ (L : List (Nat × Nat)) (vs : List V), (okL L && fixes m L) = true ∧ resV P σ rs = some vs ∧ R = (resOf vs).ren (hOf L) ∧ (L.map Prod.snd = List.range T'.length) ∧ T' = L.map fun p => (σ.ob p.1).ren (hOf L)
section
variable {P : Program}
def resF (tmps : Array Value) : ResultVar → Sem Value
  | .tmp t => pure (tmps.getD t undef)
  | .cell a t => do loadVar t (← asAddr (tmps.getD a undef))
theorem res_of {G : Gh} {w : World} {σ : Sg} {tmps : Array Value} (H : Hold G w σ.ob) (ht : ∀ t, G.Rep w (tmps.getD t undef) (σ.tm t)) : ∀ (rs : List ResultVar) (vs : List V), resV P σ rs = some vs →
    ∃ us : List Value, (rs.mapM (resF tmps)).run P w = .ok us w ∧ us.length = vs.length ∧ ∀ (j : Nat) (x : V), vs[j]? = some x → G.Rep w (us.getD j undef) x
  | [], vs, h => by
    obtain rfl := Option.some.inj h
    exact ⟨[], by simp, rfl, fun j x h => by simp at h⟩
  | .tmp t :: l, vs, h => by
    simp only [resV] at h
    obtain ⟨r, h1, rfl⟩ := Option.map_eq_some_iff.1 h
    obtain ⟨us, u1, u2, u3⟩ := res_of H ht l r h1
    refine ⟨tmps.getD t undef :: us, by simp [List.mapM_cons, resF, u1], by simp [u2], fun j x hx => ?_⟩
    cases j with
    | zero => simp at hx; subst hx; simpa using ht t
    | succ j => simpa using u3 j x (by simpa using hx)
  | .cell t ty :: l, vs, h => by
    simp only [resV] at h
    split at h
    · rename_i i htm
      split at h
      · rename_i tb cs hob
        split at h
        · rename_i hty
          obtain ⟨r, h1, rfl⟩ := Option.map_eq_some_iff.1 h
          obtain ⟨us, u1, u2, u3⟩ := res_of H ht l r h1
          have h2 := ht t
          rw [htm] at h2
          obtain ⟨ri, g, e1, e2, e3⟩ := Rep.inv_ptr h2
          obtain ⟨r', g', cur, f1, f2, f3, f4, f5, f6⟩ := box_of H hob
          rw [e1] at f1
          obtain rfl := Option.some.inj f1
          rw [e2] at f2
          obtain rfl := Option.some.inj f2
          have hld : (loadVar ty ⟨g, 0, none⟩).run P w = .ok (.agg cur) w := by
            have := run_loadN (P := P) hty.1 hty.2 (w := w) (ad := ⟨g, 0, none⟩) cur.toList (by simpa using f4) (fun j v hv => by rw [add_lit, Nat.zero_add, cell_of_row w g j cur tb (0, 0) f3]; simpa using hv)
            simpa [Instr.loadAt, Instr.sureAddr] using this
          have e4 : tmps.getD t undef = .pointer (some ⟨g, 0, none⟩) := by rw [e3]; simp
          refine ⟨.agg cur :: us, ?_, by simp [u2], fun j x hx => ?_⟩
          · simp [List.mapM_cons, resF, e4, asAddr, hld, u1]
          · cases j with
            | zero => simp at hx; subst hx; exact .agg cur cs f4 f5
            | succ j => simpa using u3 j x (by simpa using hx)
        · cases h
      · cases h
    · cases h
theorem run_results {G : Gh} {w : World} {σ : Sg} {tmps : Array Value} (H : Hold G w σ.ob) (ht : ∀ t, G.Rep w (tmps.getD t undef) (σ.tm t)) {fn : Func} {vs : List V} (h : resV P σ fn.results.toList = some vs) : ∃ v, (results fn tmps).run P w = .ok v w ∧ G.Rep w v (resOf vs) := by
  obtain ⟨us, u1, u2, u3⟩ := res_of H ht _ vs h
  have hm : (fn.results.mapM (resF tmps)).run P w = .ok us.toArray w := by
    rw [Array.mapM_eq_mapM_toList]
    simp [u1]
  have hr : (results fn tmps).run P w = .ok (if h : us.toArray.size = 1 then us.toArray[0] else .tuple us.toArray) w := by
    have e : results fn tmps = (do let vs ← fn.results.mapM (resF tmps); pure (if h : vs.size = 1 then vs[0] else .tuple vs)) := by
      unfold results
      congr 1
    rw [e, Sem.run_bind, hm]
    rfl
  refine ⟨_, hr, ?_⟩
  by_cases hone : vs.length = 1
  · obtain ⟨x, rfl⟩ := List.length_eq_one_iff.1 hone
    have : us.toArray.size = 1 := by simpa using u2
    rw [dif_pos this]
    have := u3 0 x rfl
    cases us with
    | nil => simp at u2
    | cons u us => simpa [resOf] using this
  · have : ¬ us.toArray.size = 1 := by
      intro e
      exact hone (by rw [← u2]; simpa using e)
    rw [dif_neg this]
    have e : resOf vs = .tup vs := by
      unfold resOf
      split
      · simp at hone
      · rfl
    rw [e]
    exact .tup _ _ (by simpa using u2) (fun j x hx => by have := u3 j x hx; show Sy.Rep _ _ _ _ _ _; simpa [Gh.Rep, Array.getD_eq_getD_getElem?, List.getD_eq_getElem?_getD] using this)
theorem obRen_list {ob : Nat → Ob} : ∀ {L : List (Nat × Nat)}, okL L = true → ∀ (T : List Ob), L.map Prod.snd = List.range T.length → T = L.map (fun p => (ob p.1).ren (hOf L)) → obRen ob L = obs T := by
  intro L hL T h1 h2
  funext j
  unfold obRen obs
  cases hj : gOf L j with
  | none =>
    simp only
    have hlt : ¬ j < T.length := by
      intro h
      have : j ∈ L.map Prod.snd := by rw [h1]; simpa using h
      obtain ⟨p, hp, rfl⟩ := List.mem_map.1 this
      rw [gOf_of (i := p.1) hL hp] at hj
      cases hj
    rw [List.getD_eq_getElem?_getD, List.getElem?_eq_none (by omega)]
    rfl
  | some i =>
    simp only
    have hm := gOf_mem hj
    obtain ⟨k, hk⟩ := List.getElem?_of_mem hm
    have hk2 : (L.map Prod.snd)[k]? = some j := by rw [List.getElem?_map, hk]; rfl
    rw [h1] at hk2
    have hkj : k = j := by
      have hlt : k < T.length := by have := (List.getElem?_eq_some_iff.1 hk2).1; simpa using this
      simpa [List.getElem?_range hlt] using hk2
    subst hkj
    rw [h2, List.getD_eq_getElem?_getD, List.getElem?_map, hk]
    rfl
theorem FnSpec.of {f : Nat} {fn : Func} {c : Code} {As : List V} {T : List Ob} {R : V} {T' : List Ob} (n : Nat) (hf : P.funcs[f]? = some fn) (hb : fn.body = some c) (hn : fn.ntmps = n) (hl : As.length ≤ n)
    (h : AW P (Cx.of n T.length) c ⟨lkT As, obs T⟩ (KF P T.length fn.results.toList R T')) : FnSpec P f As T R T' := by
  intro G w args H hs hr
  refine calls_of_wp hf hb ?_
  have hst : St G w (Cx.of n T.length) ⟨lkT As, obs T⟩ { tmps := args ++ Array.replicate (fn.ntmps - args.size) undef, defers := [] } w := by
    refine ⟨G, H, fun t => ?_, by simp [Cx.of]; omega, rfl, Fr.refl G w, fun i hi => ?_, trivial⟩
    · have hlk : ∀ (l : List V) (t : Nat), lkT l t = l.getD t .un := by
        intro l
        induction l with
        | nil => intro t; simp [lkT]
        | cons x l ih => intro t; cases t <;> simp [lkT, ih]
      show G.Rep w _ (lkT As t)
      rw [hlk]
      rcases Nat.lt_or_ge t As.length with ht | ht
      · have h1 := List.getElem?_eq_getElem ht
        rw [List.getD_eq_getElem?_getD, h1]
        have h2 := hr t _ h1
        have : (args ++ Array.replicate (fn.ntmps - args.size) undef).getD t undef = args.getD t undef := by
          simp [Array.getD_eq_getD_getElem?, Array.getElem?_append, show t < args.size by omega]
        rw [this]
        exact h2
      · rw [List.getD_eq_getElem?_getD, List.getElem?_eq_none ht]
        exact .g (.un _)
    · have hfree : obs T i = .free := by
        unfold obs
        rw [List.getD_eq_getElem?_getD, List.getElem?_eq_none hi]
        rfl
      exact (H.free hfree).1
  refine wp_mono (h G w _ w hst) ?_
  rintro e a' w' ⟨σ', ⟨he, L, vs, hL, hv, hR, hL2, hT'⟩, ⟨G', H', ht', h1, h2, h3, h4⟩⟩
  simp only [Bool.and_eq_true, fixes, List.all_eq_true, List.mem_range, beq_iff_eq] at hL
  obtain ⟨v, r1, r2⟩ := run_results H' ht' hv
  have hpost : a'.defers = [] ∧ ∃ v, (results fn a'.tmps).run P w' = .ok v w' ∧ ∃ v' G', Ending.returned v = .returned v' ∧ Hold G' w' (obs T') ∧ G'.Rep w' v' R ∧ Fr G w G' w' := by
    refine ⟨h2, v, r1, v, G'.ren L, rfl, ?_, ?_, h3.ren h4.1 hL.2⟩
    · rw [← obRen_list hL.1 T' hL2 hT']
      exact H'.ren hL.1
    · rw [hR]
      exact Rep.ren (Gh.ren_rho hL.1) r2
  rcases he with rfl | rfl
  · exact hpost
  · exact hpost
def roOf : List (Nat × Nat × List V) → Nat → Option (Nat × List V)
  | [], _ => none
  | (a, p) :: l, i => if i = a then some p else roOf l i
mutual
def V.view (L : List (Nat × Nat)) (ro : List (Nat × Nat × List V)) : V → V
  | .ref i => match hOf L i with
    | some j => .ref j
    | none => match roOf ro i with
      | some (es, ys) => .sl false es ys
      | none => .un
  | .sub i a b => match hOf L i with
    | some j => .sub j a b
    | none => match roOf ro i with
      | some (es, ys) => .sl false es ((ys.drop a).take b)
      | none => .un
  | .ptr i a b => match hOf L i with
    | some j => .ptr j a b
    | none => .un
  | .agg cs => .agg (viewL L ro cs)
  | .tup cs => .tup (viewL L ro cs)
  | .un => .un
  | .int k n => .int k n
  | .bool b => .bool b
  | .str s => .str s
  | .nil => .nil
  | .sl p es xs => .sl p es xs
  | .own e es xs => .own e es xs
  | .vp p es xs k off => .vp p es xs k off
  | .np => .np
  | .fn f => .fn f
def viewL (L : List (Nat × Nat)) (ro : List (Nat × Nat × List V)) : List V → List V
  | [] => []
  | x :: l => x.view L ro :: viewL L ro l
end
mutual
/-- A value back with the caller; q: what was only lent stays so (nothing of the caller's own was lent to be read). -/
def V.bk (q : Bool) (L : List (Nat × Nat)) : V → V
  | .ref j => match gOf L j with
    | some i => .ref i
    | none => .un
  | .sub j a b => match gOf L j with
    | some i => .sub i a b
    | none => .un
  | .ptr j a b => match gOf L j with
    | some i => .ptr i a b
    | none => .un
  | .agg cs => .agg (bkL q L cs)
  | .tup cs => .tup (bkL q L cs)
  | .un => .un
  | .int k n => .int k n
  | .bool b => .bool b
  | .str s => .str s
  | .nil => .nil
  | .sl p es xs => match p || q with
    | true => .sl p es xs
    | false => .un
  | .own e es xs => .un
  | .vp p es xs k off => match p || q with
    | true => .vp p es xs k off
    | false => .un
  | .np => .np
  | .fn f => .fn f
def bkL (q : Bool) (L : List (Nat × Nat)) : List V → List V
  | [] => []
  | x :: l => x.bk q L :: bkL q L l
end
def Ob.bk (q : Bool) (L : List (Nat × Nat)) : Ob → Ob
  | .box t cs => .box t (bkL q L cs)
  | .free => .free
  | .dead => .dead
  | .arr e es xs => .arr e es xs
  | .hole e es xs j off k => match gOf L k with
    | some i => .hole e es xs j off i
    | none => .arr e es xs
  | .holes e es xs j hs => .holes e es xs j (renH (gOf L) hs)
  | .raw e l => .raw e l
theorem viewL_get (L : List (Nat × Nat)) (ro : List (Nat × Nat × List V)) : ∀ (l : List V) (j : Nat), (viewL L ro l)[j]? = (l[j]?).map (V.view L ro)
  | [], j => by simp [viewL]
  | x :: l, 0 => by simp [viewL]
  | x :: l, j + 1 => by simp [viewL, viewL_get L ro l j]
theorem viewL_length (L : List (Nat × Nat)) (ro : List (Nat × Nat × List V)) : ∀ (l : List V), (viewL L ro l).length = l.length
  | [] => rfl
  | x :: l => by simp [viewL, viewL_length L ro l]
theorem bkL_get (q : Bool) (L : List (Nat × Nat)) : ∀ (l : List V) (j : Nat), (bkL q L l)[j]? = (l[j]?).map (V.bk q L)
  | [], j => by simp [bkL]
  | x :: l, 0 => by simp [bkL]
  | x :: l, j + 1 => by simp [bkL, bkL_get q L l j]
theorem bkL_length (q : Bool) (L : List (Nat × Nat)) : ∀ (l : List V), (bkL q L l).length = l.length
  | [] => rfl
  | x :: l => by simp [bkL, bkL_length q L l]
def frzC : V → V → Prop
  | .own _ es zs, b => b = .sl false es zs
  | a, b => a = b ∧ gV a = true
def FrzIs (xs ys : List V) : Prop := xs.length = ys.length ∧ ∀ (k : Nat) (x y : V), xs[k]? = some x → ys[k]? = some y → (cl x).length = (cl y).length ∧ ∀ (j : Nat) (a b : V), (cl x)[j]? = some a → (cl y)[j]? = some b → frzC a b
theorem FrzIs.same {xs : List V} (h : AllP xs) : FrzIs xs xs :=
  ⟨rfl, fun k x y hx hy => by
    rw [hx] at hy
    obtain rfl := Option.some.inj hy
    refine ⟨rfl, fun j a b ha hb => ?_⟩
    rw [ha] at hb
    obtain rfl := Option.some.inj hb
    have := (List.all_eq_true.1 (h x (List.mem_of_getElem? hx))) a (List.mem_of_getElem? ha)
    cases a <;> simp_all [frzC, gV]⟩
def Gh.lend (G : Gh) (q : Bool) (L : List (Nat × Nat)) : Gh where
  ρ := (G.ren L).ρ
  I := G.I
  J := fun b => G.J b ∨ (q = false ∧ ∃ i, hOf L i = none ∧ G.F i b)
  F := (G.ren L).F
theorem lend_hold (q : Bool) {G : Gh} {w : World} {ob : Nat → Ob} (H : Hold G w ob) {L : List (Nat × Nat)} (hL : okL L = true) : Hold (G.lend q L) w (obRen ob L) := by
  have HR := H.ren hL
  refine ⟨fun b h => .inl (H.ij b h), fun b h => ?_, fun j => ?_, HR.flt, fun j b h hj => ?_, HR.dis⟩
  · rcases h with h | ⟨_, i, _, h⟩
    · exact H.lt b h
    · exact H.flt i b h
  · exact OwnOb.lift (fun v x h => h.mono (fun _ h => h) (fun _ h => .inl h) (fun _ _ => rfl)) (fun v x h => h.mono (fun _ _ h => h) (fun _ h => h) (fun _ h => .inl h) (fun _ _ => rfl)) (HR.own j) (fun _ _ => rfl)
  · rcases hj with hj | ⟨_, i, hi, hb⟩
    · exact HR.fj j b h hj
    · simp only [Gh.lend, Gh.ren] at h
      split at h
      · rename_i i' hg
        have := H.dis i' i b h hb
        subst this
        rw [hOf_of hL (gOf_mem hg)] at hi
        cases hi
      · exact h.elim
def RoOk (ob : Nat → Ob) (L : List (Nat × Nat)) : List (Nat × Nat × List V) → Prop
  | [] => True
  | (i, es, ys) :: l => hOf L i = none ∧ (∃ e xs, ob i = .arr e es xs ∧ FrzIs xs ys) ∧ RoOk ob L l
theorem RoOk.get {ob : Nat → Ob} {L : List (Nat × Nat)} : ∀ {ro : List (Nat × Nat × List V)}, RoOk ob L ro → ∀ {i es : Nat} {ys : List V}, roOf ro i = some (es, ys) → hOf L i = none ∧ ∃ e xs, ob i = .arr e es xs ∧ FrzIs xs ys
  | (a, es', ys') :: l, h, i, es, ys, hr => by
    simp only [roOf] at hr
    split at hr
    · rename_i e
      subst e
      simp only [Option.some.injEq, Prod.mk.injEq] at hr
      obtain ⟨rfl, rfl⟩ := hr
      exact ⟨h.1, h.2.1⟩
    · exact RoOk.get h.2.2 hr
theorem ro_of {G : Gh} {w : World} {ob : Nat → Ob} (H : Hold G w ob) {L : List (Nat × Nat)} {i e es : Nat} {xs ys : List V} (hL : hOf L i = none) (hob : ob i = .arr e es xs) (hf : FrzIs xs ys) {off n : Nat} (hn : off + n ≤ xs.length) {A : Option Addr} {c : Nat} (hc : n ≤ c) :
    (∀ g, (∃ r, G.ρ i = some r ∧ r.g = some g) → 0 < n → A = some ⟨g, off * es, none⟩) → RepG w G.I (G.lend false L).J (.slice A n c) (.sl false es ((ys.drop off).take n)) := by
  intro hA
  have hlen : ((ys.drop off).take n).length = n := by simp; have := hf.1; omega
  by_cases h0 : n = 0
  · subst h0
    have : (ys.drop off).take 0 = [] := by simp
    rw [this]
    exact .slE _ _ _ _
  obtain ⟨r, f1, f2, f3, f4⟩ := arr_of H hob
  rcases f4 with ⟨_, rfl, _⟩ | ⟨g, cur, M, f4, f5⟩
  · simp at hn; omega
  rw [hA g ⟨r, f1, f4⟩ (by omega)]
  have hget : ∀ (k : Nat) (y : V), ((ys.drop off).take n)[k]? = some y → k < n ∧ ys[off + k]? = some y := by
    intro k y hy
    rw [List.getElem?_take] at hy
    split at hy
    · rename_i hk
      rw [List.getElem?_drop] at hy
      exact ⟨hk, hy⟩
    · cases hy
  have hx : ∀ (k : Nat) (y : V), ((ys.drop off).take n)[k]? = some y → ∃ x, xs[off + k]? = some x ∧ (cl x).length = (cl y).length ∧ (cl y).length = es ∧ ∀ (j : Nat) (a b : V), (cl x)[j]? = some a → (cl y)[j]? = some b → frzC a b := by
    intro k y hy
    obtain ⟨h1, h2⟩ := hget k y hy
    have h3 := List.getElem?_eq_getElem (show off + k < xs.length by omega)
    obtain ⟨q1, q2⟩ := hf.2 _ _ _ h3 h2
    exact ⟨_, h3, q1, by rw [← q1]; exact f5.hl _ _ h3, q2⟩
  have hm := f5.max
  have hle := f5.le
  refine .sl ⟨g, off * es, none⟩ n c false es _ (fun k j => cur.getD ((off + k) * es + j) undef) hlen hc (by omega) ?_ (fun k y hy => (hx k y hy).choose_spec.2.2.1) (fun k y hy j b hb => ?_) (fun k y hy j b hb => ?_) (fun h => by cases h) (fun k y hy j b hb => ?_)
  · simp only [Bool.false_eq_true, if_false]
    exact .inr ⟨rfl, i, hL, (f5.fo g).2 (.inl rfl)⟩
  · obtain ⟨x, h1, h2, h3, h4⟩ := hx k y hy
    obtain ⟨hk, _⟩ := hget k y hy
    have hj : j < es := by rw [← h3]; exact (List.getElem?_eq_some_iff.1 hb).1
    have hlt : (off + k) * es + j < cur.size := by rw [f5.size]; exact idx_lt (by omega) hle hj
    rw [add_lit, cell_of_row w g _ cur e (0, 0) f5.heap]
    rw [← Nat.add_assoc, ← Nat.add_mul]
    simp [Array.getD, hlt]
  · obtain ⟨x, h1, h2, h3, h4⟩ := hx k y hy
    obtain ⟨hk, _⟩ := hget k y hy
    have hj : j < es := by rw [← h3]; exact (List.getElem?_eq_some_iff.1 hb).1
    exact f5.one _ (idx_lt (by omega) (Nat.le_refl _) hj)
  · obtain ⟨x, h1, h2, h3, h4⟩ := hx k y hy
    have hj : j < (cl x).length := by rw [h2]; exact (List.getElem?_eq_some_iff.1 hb).1
    have ha := List.getElem?_eq_getElem hj
    have h5 := f5.rep _ x h1 j _ ha
    have h6 := h4 j _ _ ha hb
    generalize (cl x)[j] = a at *
    cases a with
    | own e' es' zs =>
      simp only [frzC] at h6
      subst h6
      rcases h5 with ⟨h5, rfl, _⟩ | ⟨g', cap', cur', h5, h7, h8⟩
      · rw [h5]; exact .slE _ _ _ _
      · rw [h5]
        have hmem : G.F i g' := (f5.fo g').2 (.inr ⟨off + k, j, (h8 g').2 rfl⟩)
        refine .sl ⟨g', 0, none⟩ zs.length cap' false es' zs (fun k j => cur'.getD (k * es' + j) undef) rfl h7.le (Nat.le_trans h7.le h7.max) ?_ h7.hl (fun k x hx j y hy => ?_) (fun k x hx j y hy => ?_) (fun h => by cases h) (fun k x hx j y hy => (h7.rep k x hx j y hy).mono (fun _ h => h) (fun _ h => .inl h) (fun _ _ => rfl))
        · simp only [Bool.false_eq_true, if_false]
          exact .inr ⟨rfl, i, hL, hmem⟩
        · have hj : j < es' := by rw [← h7.hl k x hx]; exact (List.getElem?_eq_some_iff.1 hy).1
          have hlt : k * es' + j < cur'.size := by rw [h7.size]; exact idx_lt (List.getElem?_eq_some_iff.1 hx).1 h7.le hj
          rw [add_lit, Nat.zero_add, cell_of_row w g' _ cur' e' (0, 0) h7.heap]
          simp [Array.getD, hlt]
        · have hj : j < es' := by rw [← h7.hl k x hx]; exact (List.getElem?_eq_some_iff.1 hy).1
          exact h7.one _ (idx_lt (List.getElem?_eq_some_iff.1 hx).1 (Nat.le_refl _) hj)
    | _ =>
      simp only [frzC] at h6
      obtain ⟨rfl, h6⟩ := h6
      exact h5.1.mono (fun _ h => h) (fun _ h => .inl h) (fun _ _ => rfl)
theorem view_rep (q : Bool) {G : Gh} {w : World} {ob : Nat → Ob} (H : Hold G w ob) {L : List (Nat × Nat)} (hL : okL L = true) {ro : List (Nat × Nat × List V)} (hro : RoOk ob L ro) (hq : q = true → ro = []) {v : Value} {x : V} (h : G.Rep w v x) : (G.lend q L).Rep w v (x.view L ro) := by
  have lift : ∀ {v x}, RepG w G.I G.J v x → RepG w G.I (G.lend q L).J v x := fun h => h.mono (fun _ h => h) (fun _ h => .inl h) (fun _ _ => rfl)
  have hrho : ∀ i j r, hOf L i = some j → G.ρ i = some r → (G.lend q L).ρ j = some r := Gh.ren_rho hL
  unfold Gh.Rep at h ⊢
  induction h with
  | g h =>
    have h' := lift h
    cases h <;> simp only [V.view] <;> exact .g h'
  | agg a cs hn _ ih =>
    simp only [V.view]
    refine .agg a _ (by rw [viewL_length]; exact hn) (fun j x hx => ?_)
    rw [viewL_get] at hx
    obtain ⟨y, hy, rfl⟩ := Option.map_eq_some_iff.1 hx
    exact ih j y hy
  | tup a cs hn _ ih =>
    simp only [V.view]
    refine .tup a _ (by rw [viewL_length]; exact hn) (fun j x hx => ?_)
    rw [viewL_get] at hx
    obtain ⟨y, hy, rfl⟩ := Option.map_eq_some_iff.1 hx
    exact ih j y hy
  | ref i r v h1 h2 =>
    simp only [V.view]
    split
    · rename_i j hj
      exact .ref j r v (hrho i j r hj h1) h2
    · rename_i hnone
      split
      · rename_i es ys hr
        have hqf : q = false := by
          cases q
          · rfl
          · rw [hq rfl] at hr; cases hr
        subst hqf
        obtain ⟨_, e, xs, h3, h4⟩ := hro.get hr
        obtain ⟨r', f1, f2, f3, f4⟩ := arr_of H h3
        rw [h1] at f1
        obtain rfl := Option.some.inj f1
        have hy : ys = (ys.drop 0).take xs.length := by rw [List.drop_zero, h4.1, List.take_length]
        rw [hy]
        unfold RI.sl at h2
        split at h2
        · obtain ⟨rfl, h2⟩ := h2
          have hx0 : xs.length = 0 := by omega
          rw [hx0]
          simp only [List.take_zero]
          exact .g (.slE _ _ _ _)
        · rename_i g hg
          rw [h2, f3]
          refine .g (ro_of H hnone h3 h4 (by omega) ?_ (fun g' hg' hp => ?_))
          · rcases f4 with ⟨f4, _⟩ | ⟨g', cur, M, _, f5⟩
            · rw [hg] at f4; cases f4
            · exact f5.le
          · obtain ⟨r', e1, e2⟩ := hg'
            rw [h1] at e1
            obtain rfl := Option.some.inj e1
            rw [hg] at e2
            obtain rfl := Option.some.inj e2
            simp
      · exact .g (.un _)
  | sub i off len r v h1 h2 =>
    simp only [V.view]
    split
    · rename_i j hj
      exact .sub j off len r v (hrho i j r hj h1) h2
    · rename_i hnone
      split
      · rename_i es ys hr
        have hqf : q = false := by
          cases q
          · rfl
          · rw [hq rfl] at hr; cases hr
        subst hqf
        obtain ⟨_, e, xs, h3, h4⟩ := hro.get hr
        obtain ⟨r', f1, f2, f3, f4⟩ := arr_of H h3
        rw [h1] at f1
        obtain rfl := Option.some.inj f1
        obtain ⟨g1, A, rfl, g3⟩ := h2
        refine .g (ro_of H hnone h3 h4 (by omega) ?_ (fun g' hg' hp => ?_))
        · rcases f4 with ⟨f4, rfl, _⟩ | ⟨g', cur, M, _, f5⟩
          · simp at f3; omega
          · have := f5.le; omega
        · obtain ⟨r', e1, e2⟩ := hg'
          rw [h1] at e1
          obtain rfl := Option.some.inj e1
          have := g3 (.inl hp)
          rw [e2] at this
          rw [this, f2]
          rfl
      · exact .g (.un _)
  | ptr i k off r g h1 h2 =>
    simp only [V.view]
    split
    · rename_i j hj
      exact .ptr j k off r g (hrho i j r hj h1) h2
    · exact .g (.un _)
end
end Go.Sy

