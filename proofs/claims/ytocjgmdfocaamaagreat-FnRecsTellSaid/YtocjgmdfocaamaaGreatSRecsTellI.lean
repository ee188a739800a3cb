/- The rules of single operations, part 6: new arrays. -/
import Derived.Test.YtocjgmdfocaamaaGreatSRecsTellH
import Derived.Laws.MakeOwn
set_option linter.unusedVariables false
set_option linter.unusedSimpArgs false
namespace Go.Sy
section
variable {P : Program} {N : Cx} {ops : Array Oper}
theorem new_arr {G : Gh} {w : World} {ob ob' : Nat → Ob} (H : Hold G w ob) {k e es n : Nat} (hk : ob k = .free) (kill : Nat → Prop) (hkill : ¬ kill k) (cur : Array Value) {xs : List V} (hsz : cur.size = n * es) (hx : xs.length = n) (hm : n ≤ maxLen)
    (hl : ∀ (k : Nat) (x : V), xs[k]? = some x → (cl x).length = es) (ho : ∀ u ∈ cur.toList, u.oneCell' = true) (hg : ∀ x ∈ xs, (cl x).all gO = true) (M : Nat → Nat → Nat → Prop)
    (hr : ∀ (k : Nat) (x : V), xs[k]? = some x → ∀ (j : Nat) (y : V), (cl x)[j]? = some y → RepN w G.I G.J (M k j) (cur.getD (k * es + j) undef) y)
    (hM : ∀ k j b, M k j b → ∃ i, kill i ∧ G.F i b) (nd : ∀ k j k' j' b, M k j b → M k' j' b → k = k' ∧ j = j') (nb : ∀ k j b, M k j b → ∃ x y, xs[k]? = some x ∧ (cl x)[j]? = some y)
    (o1 : ob' k = .arr e es xs) (o2 : ∀ i, kill i → ob' i = .dead) (o3 : ∀ i, i ≠ k → ¬ kill i → ob' i = ob i) :
    ∃ G' r, Hold G' (w.alloc (.cells cur e)) ob' ∧ Fr G w G' (w.alloc (.cells cur e)) ∧ G'.ρ k = some r ∧ r.sl (.slice (some ⟨w.heap.size, 0, none⟩) n n) := by
  have hMlt : ∀ k j b, M k j b → b < w.heap.size := fun k j b h => by obtain ⟨i, _, h⟩ := hM k j b h; exact H.flt i b h
  have hrow : (∀ v x, RepG w G.I G.J v x → RepG (w.alloc (.cells cur e)) G.I G.J v x) → Row (w.alloc (.cells cur e)) G.I G.J (.slice (some ⟨w.heap.size, 0, none⟩) n n) e es xs M := by
    intro LG
    refine ⟨cur.toList, ⟨by rw [Array.length_toList, hsz, hx], .inr ⟨w.heap.size, n, cur, by rw [hx], Nat.zero_le _, heap_alloc_new w _, by omega, hm, hsz, by rw [hx, ← hsz, ← Array.length_toList, List.take_length]⟩⟩, ho, hl, hg, fun a x hx j y hy => ?_⟩
    have e1 : cur.toList.getD (a * es + j) undef = cur.getD (a * es + j) undef := by
      rw [List.getD_eq_getElem?_getD, Array.getD_eq_getD_getElem?]; simp
    rw [e1]
    exact (hr a x hx j y hy).lift LG (fun b hb => heap_alloc_old w _ b (hMlt a j b hb))
  have ng : ∀ a j b, M a j b → (Value.slice (some ⟨w.heap.size, 0, none⟩) n n).ownBlock ≠ some b := by
    intro a j b h e
    have := hMlt a j b h
    simp [Value.ownBlock] at e
    omega
  have LG : ∀ v x, RepG w G.I G.J v x → RepG (w.alloc (.cells cur e)) G.I G.J v x := fun v x h => h.mono (fun _ h => h) (fun _ h => h) (fun b hb => heap_alloc_old w _ b (H.lt b (hb.elim (H.ij b) id)))
  have := H.mv hk kill hkill (w' := w.alloc (.cells cur e)) (ob' := ob') rfl rfl rfl (by simp) (fun b hb _ => heap_alloc_old w _ b hb) (RI.of (.slice (some ⟨w.heap.size, 0, none⟩) n n) es)
    (fun b => (Value.slice (some ⟨w.heap.size, 0, none⟩) n n).ownBlock = some b ∨ ∃ a j, M a j b) (fun b hb => by
      rcases hb with hb | ⟨a, j, hb⟩
      · simp [Value.ownBlock] at hb
        exact .inr (by omega)
      · exact .inl (hM a j b hb)) (fun b hb => by
      rcases hb with hb | ⟨a, j, hb⟩
      · simp [Value.ownBlock] at hb
        simp
        omega
      · have := hMlt a j b hb
        simp
        omega) (.arr e es xs) (fun LG' => (own_of_row (hrow LG') (fun b => Iff.rfl) ng nd nb).2) o1 o2 o3
  exact ⟨_, _, this.1, this.2, by simp [Gh.mv], (own_of_row (ρ := G.ρ) (hrow LG) (F := fun b => (Value.slice (some ⟨w.heap.size, 0, none⟩) n n).ownBlock = some b ∨ ∃ a j, M a j b) (fun b => Iff.rfl) ng nd nb).1⟩
def zeroEl (zs : List V) : V :=
  match zs with
  | [y] => y
  | _ => .agg zs
theorem cl_zeroEl {zs : List V} (h : zs.all gS = true) : cl (zeroEl zs) = zs := by
  unfold zeroEl
  split
  · rename_i y
    simp only [List.all_cons, List.all_nil, Bool.and_true] at h
    cases y <;> simp [gS] at h <;> rfl
  · rfl
theorem gO_of_gS {y : V} (h : gS y = true) : gO y = true := by
  cases y <;> simp_all [gS, gO, gV]
theorem one_of_gS {ρ : Nat → Option RI} {w : World} {I J : Nat → Prop} {v : Value} {y : V} (h : gS y = true) (hr : Rep ρ w I J v y) : v.oneCell' = true := by
  refine hr.oneCell ?_
  cases y <;> simp_all [gS, oneV]
theorem repN_of_gS {ρ : Nat → Option RI} {w : World} {I J : Nat → Prop} {v : Value} {y : V} (h : gS y = true) (hr : Rep ρ w I J v y) : RepN w I J (fun _ => False) v y := by
  have hv : gV y = true := by cases y <;> simp_all [gS, gV]
  exact repN_of_G hv (Rep.ground hr hv)
theorem ok_make {o : Oper} {x : Operand} {y : Operand} {t e es bytes d k n : Nat} {σ : Sg} {ka kb : IntKind} {zs xs : List V} (ho : o.op = .makeSlice t x y) (hd : o.dst = some d) (hn : d < N.n) (hu : P.underlying t = some (.slice e)) (hi : elInfo P e = some (es, bytes))
    (hz : zeroCs P e = some zs) (hzs : zs.all gS = true) (hx : σ.ev x = .int ka (n : Int)) (hy : σ.ev y = .int kb (n : Int)) (hb : bytes * n ≤ 281474976710656) (hm : n ≤ 9223372036854775807) (hxs : List.replicate n (zeroEl zs) = xs) :
    CoreOk P N o (opw x (.int ka (n : Int)) ++ opw y (.int kb (n : Int)) ++ [.o k .free]) ([.o k (.arr e es xs)] ++ [.t d (.ref k)]) :=
  eff_ok hd hn (fun z hz => by simp at hz; exact ⟨_, _, hz⟩) fun G w σ' a H _ he hp => by
    subst hxs
    obtain ⟨hp, hp3⟩ := has_append.1 hp
    obtain ⟨hp1, hp2⟩ := has_append.1 hp
    have g1 := he x
    rw [opw_ev hx hp1] at g1
    have g2 := he y
    rw [opw_ev hy hp2] at g2
    unfold elInfo at hi
    split at hi
    · rename_i inf hinf
      split at hi
      · rename_i z hzz
        split at hi
        · rename_i hsz
          simp only [Option.some.injEq, Prod.mk.injEq] at hi
          obtain ⟨rfl, rfl⟩ := hi
          have hzz' : zs = z.cells.toList.map toV := by
            simp [zeroCs, hinf, hzz] at hz
            exact hz.symm
          have hb' : (inf.bytes : Int) * (n : Int) ≤ 281474976710656 := by
            have h : ((inf.bytes * n : Nat) : Int) ≤ 281474976710656 := by omega
            rwa [Int.natCast_mul] at h
          have hrun := run_make (P := P) w t e inf z hu hinf hzz ka kb n n (by omega) (by omega) hb' (by omega)
          simp only [Int.toNat_natCast] at hrun
          have hlen : zs.length = inf.size := by rw [hzz']; simp; exact hsz.1
          have hcell : ∀ t, t < n * inf.size → (madeCells z.cells (n * inf.size)).getD t undef = z.cells.getD (t % inf.size) undef := by
            intro t ht
            have hmod : t % inf.size < z.cells.size := by rw [hsz.1]; exact Nat.mod_lt _ hsz.2
            simp [madeCells, Array.getD, ht, hsz.1, getElem!_def, Nat.mod_lt _ hsz.2]
          have hrep := rep_toV G w z.cells
          rw [← hzz'] at hrep
          have hzrep : ∀ q, q < inf.size → ∃ y, zs[q]? = some y ∧ gS y = true ∧ G.Rep w (z.cells.getD q undef) y := by
            intro q hq
            have h1 := List.getElem?_eq_getElem (show q < zs.length by omega)
            exact ⟨_, h1, (List.all_eq_true.1 hzs) _ (List.getElem_mem _), hrep q _ h1⟩
          obtain ⟨G', r, r1, r2, r3, r4⟩ := new_arr H (k := k) (e := e) (es := inf.size) (n := n) hp3.1 (fun _ => False) (fun h => h) (madeCells z.cells (n * inf.size)) (xs := List.replicate n (zeroEl zs)) (ob' := (σ'.puts [.o k (.arr e inf.size (List.replicate n (zeroEl zs)))]).ob)
            (size_madeCells _ _) (by simp) (by simp only [maxLen]; omega) (fun k x hx => by
              have := List.mem_of_getElem? hx
              obtain rfl := List.eq_of_mem_replicate this
              rw [cl_zeroEl hzs, hlen]) (fun u hu => by
              obtain ⟨t, ht⟩ := List.getElem?_of_mem hu
              have hlt : t < n * inf.size := by have := (List.getElem?_eq_some_iff.1 ht).1; simpa [size_madeCells] using this
              have e1 : (madeCells z.cells (n * inf.size)).getD t undef = u := by
                have : (madeCells z.cells (n * inf.size))[t]? = some u := by simpa using ht
                simp [Array.getD_eq_getD_getElem?, this]
              rw [hcell t hlt] at e1
              obtain ⟨y, _, h2, h3⟩ := hzrep (t % inf.size) (Nat.mod_lt _ hsz.2)
              rw [e1] at h3
              exact one_of_gS h2 h3) (fun x hx => by
              obtain rfl := List.eq_of_mem_replicate hx
              rw [cl_zeroEl hzs, List.all_eq_true]
              exact fun y hy => gO_of_gS ((List.all_eq_true.1 hzs) y hy)) (fun _ _ _ => False) (fun a x hx j y hy => by
              have hlt : a < n := by have := (List.getElem?_eq_some_iff.1 hx).1; simpa using this
              obtain rfl := List.eq_of_mem_replicate (List.mem_of_getElem? hx)
              rw [cl_zeroEl hzs] at hy
              have hj : j < inf.size := by rw [← hlen]; exact (List.getElem?_eq_some_iff.1 hy).1
              rw [hcell _ (idx_lt hlt (Nat.le_refl _) hj), Nat.mul_comm a, Nat.mul_add_mod, Nat.mod_eq_of_lt hj]
              exact repN_of_gS ((List.all_eq_true.1 hzs) y (List.mem_of_getElem? hy)) (hrep j y hy)) (fun _ _ _ h => h.elim) (fun _ _ _ _ _ h => h.elim) (fun _ _ _ h => h.elim) (by simp [Sg.puts, Sg.put]) (fun _ h => h.elim) (fun i h1 _ => by simp [Sg.puts, Sg.put, h1])
          refine ⟨_, _, G', ?_, r1, r2, .ref k r _ r3 r4⟩
          simp only [execOp, ho, Rep.inv_int g1, Rep.inv_int g2, Sem.run_bind, hrun, Result.andThen_ok, Sem.run_pure]
        · cases hi
      · cases hi
    · cases hi
def chunk (es : Nat) : Nat → List V → List V
  | 0, _ => []
  | n + 1, cs => (match es with
    | 1 => cs.headD .un
    | _ => .agg (cs.take es)) :: chunk es n (cs.drop es)
theorem chunk_length (es : Nat) : ∀ (n : Nat) (cs : List V), (chunk es n cs).length = n
  | 0, _ => rfl
  | n + 1, cs => by simp [chunk, chunk_length es n]
theorem cl_gO {y : V} (h : gO y = true) : cl y = [y] := by
  cases y <;> simp_all [gO, gV, cl]
theorem chunk_get (es : Nat) (h0 : 0 < es) : ∀ (n : Nat) (cs : List V), cs.length = n * es → cs.all gO = true → ∀ (k : Nat) (x : V), (chunk es n cs)[k]? = some x → (cl x).length = es ∧ (∀ j, j < es → (cl x)[j]? = cs[k * es + j]?) ∧ (cl x).all gO = true
  | 0, cs, _, _, k, x, h => by simp [chunk] at h
  | n + 1, cs, hl, hg, k, x, h => by
    rw [Nat.add_mul, Nat.one_mul] at hl
    have hgd : (cs.drop es).all gO = true := by
      rw [List.all_eq_true] at hg ⊢
      exact fun y hy => hg y (List.mem_of_mem_drop hy)
    cases k with
    | succ k =>
      simp only [chunk, List.getElem?_cons_succ] at h
      obtain ⟨h1, h2, h3⟩ := chunk_get es h0 n (cs.drop es) (by simp; omega) hgd k x h
      refine ⟨h1, fun j hj => ?_, h3⟩
      rw [h2 j hj, List.getElem?_drop]
      congr 1
      rw [Nat.add_mul]
      omega
    | zero =>
      simp only [chunk, List.getElem?_cons_zero, Option.some.injEq] at h
      split at h
      · subst h
        cases cs with
        | nil => (simp at hl); (try omega)
        | cons y l =>
          simp only [List.headD_cons]
          have hy : gO y = true := (List.all_eq_true.1 hg) y List.mem_cons_self
          rw [cl_gO hy]
          refine ⟨rfl, fun j hj => ?_, by simp [hy]⟩
          obtain rfl : j = 0 := by omega
          rfl
      · subst h
        simp only [cl]
        refine ⟨by simp; omega, fun j hj => ?_, ?_⟩
        · rw [List.getElem?_take, if_pos hj, Nat.zero_mul, Nat.zero_add]
        · rw [List.all_eq_true] at hg ⊢
          exact fun y hy => hg y (List.mem_of_mem_take hy)
theorem plain_of_gS {y : V} (h : gS y = true) : plain y = true := by
  cases y <;> simp_all [gS, plain]
theorem oneV_of_gV {y : V} (h : gV y = true) : oneV y = true := by
  cases y <;> simp_all [gV, oneV]
def refs : List V → List Nat
  | [] => []
  | .ref i :: l => i :: refs l
  | _ :: l => refs l
def convL (q : Nat × Nat) (ob : Nat → Ob) : List V → Option (List V × List Nat)
  | [] => some ([], [])
  | .ref i :: l => match ob i with
    | .arr e es ys => (convL q ob l).map fun p => (.own e es ys :: p.1, i :: p.2)
    | _ => none
  | .nil :: l => (convL q ob l).map fun p => (.own q.1 q.2 [] :: p.1, p.2)
  | y :: l => if gV y = true then (convL q ob l).map fun p => (y :: p.1, p.2) else none
def refAt (cs : List V) (t : Nat) : Option Nat :=
  match cs[t]? with
  | some (.ref i) => some i
  | _ => none
theorem refs_mem : ∀ (cs : List V) (t i : Nat), refAt cs t = some i → i ∈ refs cs
  | [], t, i, h => by simp [refAt] at h
  | c :: l, 0, i, h => by
    cases c <;> simp [refAt] at h
    subst h
    simp [refs]
  | c :: l, t + 1, i, h => by
    have := refs_mem l t i (by simpa [refAt] using h)
    cases c <;> simp [refs, this]
def nodupB : List Nat → Bool
  | [] => true
  | a :: l => notIn a l && nodupB l
theorem refs_inj : ∀ (cs : List V), nodupB (refs cs) = true → ∀ (t t' i : Nat), refAt cs t = some i → refAt cs t' = some i → t = t'
  | [], _, t, t', i, h, _ => by simp [refAt] at h
  | c :: l, hn, t, t', i, h, h' => by
    have hl : nodupB (refs l) = true := by
      cases c <;> simp only [refs] at hn <;> try exact hn
      simp only [nodupB, Bool.and_eq_true] at hn
      exact hn.2
    have h0 : ∀ s, refAt (c :: l) 0 = some i → refAt (c :: l) (s + 1) = some i → False := by
      intro s a b
      cases c <;> simp [refAt] at a
      subst a
      simp only [refs, nodupB, Bool.and_eq_true] at hn
      exact notIn_iff hn.1 (refs_mem l s _ (by simpa [refAt] using b))
    cases t with
    | zero =>
      cases t' with
      | zero => rfl
      | succ t' => exact (h0 t' h h').elim
    | succ t =>
      cases t' with
      | zero => exact (h0 t h' h).elim
      | succ t' =>
        have := refs_inj l hl t t' i (by simpa [refAt] using h) (by simpa [refAt] using h')
        omega
theorem convL_refs (q : Nat × Nat) (ob : Nat → Ob) : ∀ (cs cs' : List V) (kill : List Nat), convL q ob cs = some (cs', kill) → kill = refs cs
  | [], cs', kill, h => by
    simp only [convL, Option.some.injEq, Prod.mk.injEq] at h
    exact h.2.symm
  | c :: l, cs', kill, h => by
    by_cases hc : ∃ i, c = .ref i
    · obtain ⟨i, rfl⟩ := hc
      simp only [convL] at h
      split at h
      · obtain ⟨⟨l', kl⟩, h1, h2⟩ := Option.map_eq_some_iff.1 h
        simp only [Prod.mk.injEq] at h2
        rw [← h2.2, convL_refs q ob l l' kl h1]
        rfl
      · cases h
    by_cases hz : c = .nil
    · subst hz
      simp only [convL] at h
      obtain ⟨⟨l', kl⟩, h1, h2⟩ := Option.map_eq_some_iff.1 h
      simp only [Prod.mk.injEq] at h2
      rw [← h2.2, convL_refs q ob l l' kl h1]
      rfl
    · have hcv : convL q ob (c :: l) = if gV c = true then (convL q ob l).map fun p => (c :: p.1, p.2) else none := by
        cases c <;> first | rfl | exact (hc ⟨_, rfl⟩).elim | exact (hz rfl).elim
      rw [hcv] at h
      split at h
      · obtain ⟨⟨l', kl⟩, h1, h2⟩ := Option.map_eq_some_iff.1 h
        simp only [Prod.mk.injEq] at h2
        rw [← h2.2, convL_refs q ob l l' kl h1]
        cases c <;> first | rfl | exact (hc ⟨_, rfl⟩).elim | exact (hz rfl).elim
      · cases h
theorem convL_of (q : Nat × Nat) {G : Gh} {w : World} {ob : Nat → Ob} (H : Hold G w ob) : ∀ (cs cs' : List V) (kill : List Nat), convL q ob cs = some (cs', kill) → (∀ i ∈ kill, ∀ e es ys, ob i = .arr e es ys → ∀ x ∈ ys, (cl x).all gS = true) →
    cs'.length = cs.length ∧ cs'.all gO = true ∧ (∀ t i, refAt cs t = some i → i ∈ kill) ∧ ∀ (t : Nat) (y y' : V) (v : Value), cs[t]? = some y → cs'[t]? = some y' → G.Rep w v y → v.oneCell' = true ∧ RepN w G.I G.J (fun b => ∃ i, refAt cs t = some i ∧ G.F i b) v y'
  | [], cs', kill, h, _ => by
    simp only [convL, Option.some.injEq, Prod.mk.injEq] at h
    obtain ⟨rfl, rfl⟩ := h
    exact ⟨rfl, rfl, fun t i h => by simp [refAt] at h, fun t y y' v h => by simp at h⟩
  | c :: l, cs', kill, h, hf => by
    have step : ∀ (y0 : V) (ks : List Nat) (l' : List V) (kl : List Nat), convL q ob l = some (l', kl) → cs' = y0 :: l' → kill = ks ++ kl → gO y0 = true → (∀ i, c = .ref i → i ∈ ks) →
        (∀ v, G.Rep w v c → v.oneCell' = true ∧ RepN w G.I G.J (fun b => ∃ i, c = .ref i ∧ G.F i b) v y0) →
        cs'.length = (c :: l).length ∧ cs'.all gO = true ∧ (∀ t i, refAt (c :: l) t = some i → i ∈ kill) ∧ ∀ (t : Nat) (y y' : V) (v : Value), (c :: l)[t]? = some y → cs'[t]? = some y' → G.Rep w v y → v.oneCell' = true ∧ RepN w G.I G.J (fun b => ∃ i, refAt (c :: l) t = some i ∧ G.F i b) v y' := by
      intro y0 ks l' kl e1 e2 e3 e4 e5 e6
      obtain ⟨i1, i2, i3, i4⟩ := convL_of q H l l' kl e1 (fun i hi => hf i (by rw [e3]; exact List.mem_append_right _ hi))
      subst e2
      subst e3
      refine ⟨by simp [i1], by simp [e4, i2], fun t i h => ?_, fun t y y' v h1 h2 h3 => ?_⟩
      · cases t with
        | zero =>
          simp only [refAt, List.getElem?_cons_zero] at h
          split at h
          · rename_i hc
            injection hc with hc
            obtain rfl := Option.some.inj h
            exact List.mem_append_left _ (e5 _ hc)
          · cases h
        | succ t => exact List.mem_append_right _ (i3 t i (by simpa [refAt] using h))
      · cases t with
        | zero =>
          simp only [List.getElem?_cons_zero, Option.some.injEq] at h1 h2
          subst h1
          subst h2
          obtain ⟨q1, q2⟩ := e6 v h3
          refine ⟨q1, ?_⟩
          have : (fun b => ∃ i, refAt (c :: l) 0 = some i ∧ G.F i b) = (fun b => ∃ i, c = .ref i ∧ G.F i b) := by
            funext b
            cases c <;> simp [refAt]
          rw [this]
          exact q2
        | succ t =>
          have := i4 t y y' v (by simpa using h1) (by simpa using h2) h3
          simpa [refAt] using this
    by_cases hc : ∃ i, c = .ref i
    · obtain ⟨i, rfl⟩ := hc
      simp only [convL] at h
      split at h
      · rename_i e es ys hob
        obtain ⟨⟨l', kl⟩, h1, h2⟩ := Option.map_eq_some_iff.1 h
        simp only [Prod.mk.injEq] at h2
        obtain ⟨rfl, rfl⟩ := h2
        refine step (.own e es ys) [i] l' kl h1 rfl rfl rfl (fun j hj => by injection hj with hj; simp [hj]) (fun v hv => ?_)
        have hflat := hf i (by simp) e es ys hob
        obtain ⟨r, e1, e2⟩ := Rep.inv_ref hv
        obtain ⟨r', f1, f2, f3, f4⟩ := arr_of H hob
        rw [e1] at f1
        obtain rfl := Option.some.inj f1
        have hFi : (fun b => ∃ j, V.ref i = .ref j ∧ G.F j b) = fun b => G.F i b := by
          funext b
          simp
        rw [hFi]
        rcases f4 with ⟨f4, f5, f6, _⟩ | ⟨g, cur, M, f4, f5⟩
        · unfold RI.sl at e2
          rw [f4] at e2
          obtain ⟨rfl, _⟩ := e2
          exact ⟨rfl, .inl ⟨rfl, f5, f6⟩⟩
        · unfold RI.sl at e2
          rw [f4] at e2
          simp only at e2
          subst e2
          have hno : ∀ k j b, ¬ M k j b := by
            intro k j b hb
            obtain ⟨x, y, hx, hy⟩ := f5.nb k j b hb
            have hgs := (List.all_eq_true.1 (hflat x (List.mem_of_getElem? hx))) y (List.mem_of_getElem? hy)
            exact (RepN.plain (f5.rep k x hx j y hy) (plain_of_gS hgs)).2 b hb
          refine ⟨rfl, .inr ⟨g, r.cap, cur, by rw [f3], ⟨f5.heap, f5.size, f5.le, f5.max, f5.hl, f5.one, hflat, fun k x hx j y hy => ?_⟩, fun b => ?_⟩⟩
          · have hgs := (List.all_eq_true.1 (hflat x (List.mem_of_getElem? hx))) y (List.mem_of_getElem? hy)
            exact (RepN.plain (f5.rep k x hx j y hy) (plain_of_gS hgs)).1
          · show G.F i b ↔ b = g
            rw [f5.fo b]
            constructor
            · rintro (h | ⟨k, j, h⟩)
              · exact h
              · exact (hno k j b h).elim
            · exact .inl
      · cases h
    by_cases hz : c = .nil
    · subst hz
      simp only [convL] at h
      obtain ⟨⟨l', kl⟩, h1, h2⟩ := Option.map_eq_some_iff.1 h
      simp only [Prod.mk.injEq] at h2
      obtain ⟨rfl, rfl⟩ := h2
      refine step (.own q.1 q.2 []) [] l' kl h1 rfl rfl rfl (fun j hj => by cases hj) (fun v hv => ?_)
      obtain rfl := Rep.inv_nil hv
      exact ⟨rfl, .inl ⟨rfl, rfl, fun b hb => by obtain ⟨i, hi, _⟩ := hb; cases hi⟩⟩
    · have hcv : convL q ob (c :: l) = if gV c = true then (convL q ob l).map fun p => (c :: p.1, p.2) else none := by
        cases c <;> first | rfl | exact (hc ⟨_, rfl⟩).elim | exact (hz rfl).elim
      rw [hcv] at h
      split at h
      · rename_i hg
        obtain ⟨⟨l', kl⟩, h1, h2⟩ := Option.map_eq_some_iff.1 h
        simp only [Prod.mk.injEq] at h2
        obtain ⟨rfl, rfl⟩ := h2
        refine step c [] l' kl h1 rfl rfl (gO_of_gV hg) (fun i hi => (hc ⟨i, hi⟩).elim) (fun v hv => ⟨hv.oneCell (oneV_of_gV hg), ?_⟩)
        have : (fun b => ∃ i, c = .ref i ∧ G.F i b) = fun _ => False := by
          funext b
          simp
          exact fun i hi => (hc ⟨i, hi⟩).elim
        rw [this]
        exact repN_of_G hg (Rep.ground hv hg)
      · cases h
def zerosV (n : Nat) (zs : List V) : List V := (List.range (n * zs.length)).map fun t => zs.getD (t % zs.length) .un
theorem convL_congr {q : Nat × Nat} {ob ob' : Nat → Ob} : ∀ (cs : List V), (∀ i ∈ refs cs, ob' i = ob i) → convL q ob' cs = convL q ob cs
  | [], _ => rfl
  | c :: l, h => by
    cases c <;> simp only [convL] <;> simp only [refs] at h <;> try rw [convL_congr l h]
    rw [h _ (by simp), convL_congr l (fun i hi => h i (by simp [hi]))]
theorem ok_lit (q : Nat × Nat) {o : Oper} {parts : Array (Nat × Operand)} {t e es bytes d k n : Nat} {σ : Sg} {zs cs cs' xs : List V} {vs : List (Nat × V)} {kill : List Nat} (ho : o.op = .buildSlice t n parts) (hd : o.dst = some d) (hn : d < N.n) (hu : P.underlying t = some (.slice e)) (hi : elInfo P e = some (es, bytes))
    (hz : zeroCs P e = some zs) (hsm : (decide (0 < n) && decide (n * es ≤ 16777216)) = true) (hvs : vs = partsEv σ parts.toList) (hf : fillV (fun i => some (i * es, es)) (zerosV n zs) vs = some cs) (hc : convL q σ.ob cs = some (cs', kill)) (hk : (notIn k kill && nodupB kill) = true)
    (hfl : ∀ i ∈ kill, ∀ e es ys, σ.ob i = .arr e es ys → ∀ x ∈ ys, (cl x).all gS = true) (hxs : chunk es n cs' = xs) :
    CoreOk P N o (partsW parts.toList vs ++ obW σ.ob kill ++ [.o k .free]) ((killW kill ++ [.o k (.arr e es xs)]) ++ [.t d (.ref k)]) :=
  eff_ok hd hn (fun z hz => by
    simp only [killW, List.mem_append, List.mem_map, List.mem_singleton] at hz
    rcases hz with ⟨i, _, rfl⟩ | rfl
    · exact ⟨_, _, rfl⟩
    · exact ⟨_, _, rfl⟩) fun G w σ' a H _ he hp => by
    subst hxs
    subst hvs
    simp only [Bool.and_eq_true, decide_eq_true_eq] at hk hsm
    obtain ⟨hk1, hk2⟩ := hk
    have hk1 := notIn_iff hk1
    obtain ⟨hpos, hsm⟩ := hsm
    obtain ⟨hp, hp3⟩ := has_append.1 hp
    obtain ⟨hp1, hp2⟩ := has_append.1 hp
    have hpr := partsW_rep he parts.toList hp1
    have hkr := convL_refs q σ.ob cs cs' kill hc
    have hob : ∀ i ∈ kill, σ'.ob i = σ.ob i := obW_has hp2
    have hc' : convL q σ'.ob cs = some (cs', kill) := by
      rw [convL_congr cs (fun i hi => hob i (by rw [hkr]; exact hi))]
      exact hc
    unfold elInfo at hi
    split at hi
    · rename_i inf hinf
      split at hi
      · rename_i z hzz
        split at hi
        · rename_i hsz
          simp only [Option.some.injEq, Prod.mk.injEq] at hi
          obtain ⟨rfl, rfl⟩ := hi
          have hzz' : zs = z.cells.toList.map toV := by
            simp [zeroCs, hinf, hzz] at hz
            exact hz.symm
          have hlen : zs.length = inf.size := by rw [hzz']; simp; exact hsz.1
          have hrep := rep_toV G w z.cells
          rw [← hzz'] at hrep
          have hcell : ∀ t, t < n * inf.size → (((Array.range (n * inf.size)).map (z.cells[· % z.cells.size]!)) : Array Value).getD t undef = z.cells.getD (t % inf.size) undef := by
            intro t ht
            simp [Array.getD, ht, hsz.1, getElem!_def, Nat.mod_lt _ hsz.2]
          obtain ⟨cur, q1, q2, q3⟩ := fill_of (G := G) (w := w) (place := fun i => some (i * inf.size, inf.size)) _ _ ((Array.range (n * inf.size)).map (z.cells[· % z.cells.size]!)) (zerosV n zs) cs hpr (by simp [zerosV, hlen]) (fun j y hy => by
            simp only [zerosV, List.getElem?_map, hlen] at hy
            obtain ⟨t, ht, rfl⟩ := Option.map_eq_some_iff.1 hy
            have hlt : j < n * inf.size := by have := (List.getElem?_eq_some_iff.1 ht).1; simpa using this
            obtain rfl : j = t := by simpa [List.getElem?_range hlt] using ht
            rw [hcell j hlt]
            have hm := Nat.mod_lt j hsz.2
            rw [List.getD_eq_getElem?_getD, List.getElem?_eq_getElem (by omega)]
            exact hrep _ _ (List.getElem?_eq_getElem (by omega))) hf
          have hcs : cs.length = n * inf.size := by
            have : ∀ (vs : List (Nat × V)) (c c' : List V), fillV (fun i => some (i * inf.size, inf.size)) c vs = some c' → c'.length = c.length := by
              intro vs
              induction vs with
              | nil => intro c c' h; simp only [fillV, Option.some.injEq] at h; rw [h]
              | cons p vs ih =>
                intro c c' h
                obtain ⟨i, x⟩ := p
                simp only [fillV] at h
                split at h
                · split at h
                  · obtain ⟨c1, h1, h2⟩ := Option.bind_eq_some_iff.1 h
                    rw [ih c1 c' h2, (storeV_get h1).1]
                  · cases h
                · cases h
            rw [this _ _ _ hf]
            simp [zerosV, hlen]
          obtain ⟨v1, v2, v3, v4⟩ := convL_of q H cs cs' kill hc' (fun i hi e es ys h => hfl i hi e es ys (by rw [← hob i hi]; exact h))
          have hcg := chunk_get inf.size hsz.2 n cs' (by omega) v2
          have hrun := run_buildSlice (P := P) w t e n (parts.map fun (i, x) => (i, a.eval x)) cur inf z hu hinf hzz (by omega) (by have := Nat.mul_pos hpos hsz.2; omega) (by rw [Array.toList_map]; exact q1)
          have hat : ∀ (a : Nat) (x : V), (chunk inf.size n cs')[a]? = some x → ∀ (j : Nat) (y : V), (cl x)[j]? = some y → a < n ∧ j < inf.size ∧ cs'[a * inf.size + j]? = some y := by
            intro a x hx j y hy
            have h1 := hcg a x hx
            have hj : j < inf.size := by rw [← h1.1]; exact (List.getElem?_eq_some_iff.1 hy).1
            have ha : a < n := by have := (List.getElem?_eq_some_iff.1 hx).1; rwa [chunk_length] at this
            exact ⟨ha, hj, by rw [← h1.2.1 j hj]; exact hy⟩
          have hcell2 : ∀ t, t < n * inf.size → ∃ y y', cs[t]? = some y ∧ cs'[t]? = some y' ∧ G.Rep w (cur.getD t undef) y := by
            intro t ht
            have h1 := List.getElem?_eq_getElem (show t < cs.length by omega)
            exact ⟨_, _, h1, List.getElem?_eq_getElem (show t < cs'.length by omega), q3 t _ h1⟩
          obtain ⟨G', r, r1, r2, r3, r4⟩ := new_arr H (k := k) (e := e) (es := inf.size) (n := n) hp3.1 (fun i => i ∈ kill) hk1 cur (xs := chunk inf.size n cs') (ob' := (σ'.puts (killW kill ++ [.o k (.arr e inf.size (chunk inf.size n cs'))])).ob)
            (by omega) (chunk_length _ _ _) (by have := Nat.le_mul_of_pos_right n hsz.2; simp only [maxLen]; omega) (fun a x hx => (hcg a x hx).1) (fun u hu => by
              obtain ⟨t, ht⟩ := List.getElem?_of_mem hu
              have hlt : t < n * inf.size := by have := (List.getElem?_eq_some_iff.1 ht).1; simp at this; omega
              have e1 : cur.getD t undef = u := by
                have : cur[t]? = some u := by simpa using ht
                simp [Array.getD_eq_getD_getElem?, this]
              obtain ⟨y, y', h1, h2, h3⟩ := hcell2 t hlt
              rw [e1] at h3
              exact (v4 t y y' u h1 h2 h3).1) (fun x hx => by
              obtain ⟨a, ha⟩ := List.getElem?_of_mem hx
              exact (hcg a x ha).2.2) (fun a j b => a < n ∧ j < inf.size ∧ ∃ i, refAt cs (a * inf.size + j) = some i ∧ G.F i b) (fun a x hx j y hy => by
              obtain ⟨h1, h2, h3⟩ := hat a x hx j y hy
              obtain ⟨y0, y', g1, g2, g3⟩ := hcell2 _ (idx_lt h1 (Nat.le_refl _) h2)
              rw [h3] at g2
              obtain rfl := Option.some.inj g2
              have := (v4 _ y0 y _ g1 h3 g3).2
              have e1 : (fun b => a < n ∧ j < inf.size ∧ ∃ i, refAt cs (a * inf.size + j) = some i ∧ G.F i b) = (fun b => ∃ i, refAt cs (a * inf.size + j) = some i ∧ G.F i b) := by
                funext b
                simp [h1, h2]
              show RepN w G.I G.J (fun b => a < n ∧ j < inf.size ∧ ∃ i, refAt cs (a * inf.size + j) = some i ∧ G.F i b) _ _
              rw [e1]
              exact this) (fun a j b h => by
              obtain ⟨_, _, i, h1, h2⟩ := h
              exact ⟨i, v3 _ i h1, h2⟩) (fun a j a' j' b h h' => by
              obtain ⟨h1, h2, i, h3, h4⟩ := h
              obtain ⟨h1', h2', i', h3', h4'⟩ := h'
              have := H.dis i i' b h4 h4'
              subst this
              have := refs_inj cs (by rw [← hkr]; exact hk2) _ _ i h3 h3'
              have ea : a = a' := by
                have e1 : (a * inf.size + j) / inf.size = a := by rw [Nat.mul_comm, Nat.mul_add_div hsz.2, Nat.div_eq_of_lt h2, Nat.add_zero]
                have e2 : (a' * inf.size + j') / inf.size = a' := by rw [Nat.mul_comm, Nat.mul_add_div hsz.2, Nat.div_eq_of_lt h2', Nat.add_zero]
                rw [← e1, ← e2, this]
              subst ea
              exact ⟨rfl, by omega⟩) (fun a j b h => by
              obtain ⟨h1, h2, i, h3, h4⟩ := h
              have hx := List.getElem?_eq_getElem (show a < (chunk inf.size n cs').length by rw [chunk_length]; exact h1)
              have hl := (hcg a _ hx).1
              exact ⟨_, _, hx, List.getElem?_eq_getElem (by omega)⟩) (by rw [kill_ob]; simp) (fun i hi => by rw [kill_ob]; have : i ≠ k := fun e => hk1 (e ▸ hi); simp only; rw [if_neg this, if_pos hi]) (fun i h1 h2 => by rw [kill_ob]; simp only; rw [if_neg h1, if_neg h2])
          refine ⟨_, _, G', ?_, r1, r2, .ref k r _ r3 r4⟩
          simp only [execOp, ho, Sem.run_bind, hrun, Result.andThen_ok, Sem.run_pure]
        · cases hi
      · cases hi
    · cases hi
theorem ok_lit0 {o : Oper} {t e es bytes d k : Nat} {parts : Array (Nat × Operand)} (ho : o.op = .buildSlice t 0 parts) (hp0 : parts.toList = []) (hd : o.dst = some d) (hn : d < N.n) (hu : P.underlying t = some (.slice e)) (hi : elInfo P e = some (es, bytes)) :
    CoreOk P N o [.o k .free] ([.o k (.arr e es [])] ++ [.t d (.ref k)]) :=
  eff_ok hd hn (fun z hz => by simp at hz; exact ⟨_, _, hz⟩) fun G w σ' a H _ he hp => by
    have hs : szOf P e = some es := by
      unfold elInfo at hi
      split at hi
      · rename_i inf hinf
        split at hi
        · split at hi
          · simp only [Option.some.injEq, Prod.mk.injEq] at hi
            simp [szOf, hinf, hi.1]
          · cases hi
        · cases hi
      · cases hi
    obtain ⟨G', r, r1, r2, r3, r4⟩ := new_arr H (k := k) (e := e) (es := es) (n := 0) hp.1 (fun _ => False) (fun h => h) #[] (xs := []) (ob' := (σ'.puts [.o k (.arr e es [])]).ob) (by simp) rfl (by simp) (by simp) (by simp) (by simp) (fun _ _ _ => False) (by simp) (fun _ _ _ h => h.elim) (fun _ _ _ _ _ h => h.elim) (fun _ _ _ h => h.elim)
      (by simp [Sg.puts, Sg.put]) (fun _ h => h.elim) (fun i h1 _ => by simp [Sg.puts, Sg.put, h1])
    have hparts : parts = #[] := by rw [← Array.toList_inj]; exact hp0
    refine ⟨_, _, G', ?_, r1, r2, .ref k r _ r3 r4⟩
    simp [execOp, ho, Instr.buildSlice, run_underlying hu, run_sz hs, hparts, Instr.fill, newRow, Array.range_zero']
end
end Go.Sy

