/- Symbolic states, what one operation does to one, and a region in whatever order. -/
import Derived.Test.YtocjgmdfocaamaaGreatSRecsTellA
set_option linter.unusedVariables false
set_option linter.unusedSimpArgs false
namespace Go.Sy
structure Sg where
  tm : Nat → V
  ob : Nat → Ob
inductive W where
  | t (k : Nat) (v : V)
  | o (k : Nat) (x : Ob)
def W.key : W → Nat
  | .t k _ => 2 * k
  | .o k _ => 2 * k + 1
def Sg.put (σ : Sg) : W → Sg
  | .t k v => { σ with tm := fun i => if i = k then v else σ.tm i }
  | .o k x => { σ with ob := fun i => if i = k then x else σ.ob i }
def Sg.puts (σ : Sg) : List W → Sg
  | [] => σ
  | x :: l => (σ.put x).puts l
def Sg.has1 (σ : Sg) : W → Prop
  | .t k v => σ.tm k = v
  | .o k x => σ.ob k = x
def Sg.has (σ : Sg) : List W → Prop
  | [] => True
  | x :: l => σ.has1 x ∧ σ.has l
structure Tr where
  pre : List W
  post : List W
structure Cx where
  n : Nat
  m : Nat
  q : Gh → World → Prop
def Cx.of (n m : Nat) : Cx := ⟨n, m, fun _ _ => True⟩
def St (G0 : Gh) (w0 : World) (N : Cx) (σ : Sg) (a : Act) (w : World) : Prop :=
  ∃ G, Hold G w σ.ob ∧ (∀ t, G.Rep w (a.tmps.getD t undef) (σ.tm t)) ∧ a.tmps.size = N.n ∧ a.defers = [] ∧ Fr G0 w0 G w ∧ (∀ i, N.m ≤ i → G0.ρ i = none) ∧ N.q G0 w0
section
variable (P : Program) (N : Cx) (ops : Array Oper)
def wpOne (Q : Exit → Act → World → Prop) (o : Oper) (K : Act → World → Prop) (a : Act) (w : World) : Prop :=
  if Region.wanted o (yielded ops a.tmps) = true then o.wp P a w K Q else K (a.put o.dst undef) w
def TrOk (o : Oper) (tr : Tr) : Prop :=
  ∀ G0 w0 σ a w, St G0 w0 N σ a w → σ.has tr.pre → ∀ Q K, (∀ a' w', St G0 w0 N (σ.puts tr.post) a' w' → K a' w') → wpOne P ops Q o K a w
end
def chain : Sg → List Tr → Sg → Prop
  | σ, [], σ' => σ = σ'
  | σ, tr :: l, σ' => σ.has tr.pre ∧ chain (σ.puts tr.post) l σ'
def disj (a b : List W) : Bool := a.all fun x => b.all fun y => x.key != y.key
def indep (x y : Tr) : Bool := disj x.post y.pre && disj x.pre y.post && disj x.post y.post
theorem put_comm (σ : Sg) (x y : W) (h : x.key ≠ y.key) : (σ.put x).put y = (σ.put y).put x := by
  cases x <;> cases y <;> simp only [W.key] at h <;> simp only [Sg.put]
  · rename_i k v k' v'
    have hk : k ≠ k' := by omega
    congr 1
    funext i
    by_cases h1 : i = k' <;> by_cases h2 : i = k <;> simp [h1, h2] <;> omega
  · rename_i k v k' v'
    have hk : k ≠ k' := by omega
    congr 1
    funext i
    by_cases h1 : i = k' <;> by_cases h2 : i = k <;> simp [h1, h2] <;> omega
theorem puts_put (σ : Sg) (x : W) (l : List W) (h : ∀ y ∈ l, x.key ≠ y.key) : (σ.put x).puts l = (σ.puts l).put x := by
  induction l generalizing σ with
  | nil => rfl
  | cons y l ih =>
    simp only [Sg.puts]
    rw [put_comm σ x y (h y List.mem_cons_self)]
    exact ih (σ.put y) (fun z hz => h z (List.mem_cons_of_mem _ hz))
theorem disj_iff {a b : List W} (h : disj a b = true) : ∀ x ∈ a, ∀ y ∈ b, x.key ≠ y.key := by
  intro x hx y hy
  simp only [disj, List.all_eq_true] at h
  simpa using h x hx y hy
theorem puts_comm (σ : Sg) (a b : List W) (h : disj a b = true) : (σ.puts a).puts b = (σ.puts b).puts a := by
  induction a generalizing σ with
  | nil => rfl
  | cons x a ih =>
    simp only [Sg.puts]
    have h' := disj_iff h
    rw [ih (σ.put x) (by simp only [disj, List.all_cons, Bool.and_eq_true] at h; exact h.2)]
    rw [puts_put σ x b (h' x List.mem_cons_self)]
theorem has1_put (σ : Sg) (x y : W) (h : x.key ≠ y.key) : (σ.put x).has1 y ↔ σ.has1 y := by
  cases x <;> cases y <;> simp only [W.key] at h <;> simp only [Sg.put, Sg.has1]
  · rename_i k v k' v'
    rw [if_neg (by omega)]
  · rename_i k v k' v'
    rw [if_neg (by omega)]
theorem has1_puts (σ : Sg) (l : List W) (y : W) (h : ∀ x ∈ l, x.key ≠ y.key) : (σ.puts l).has1 y ↔ σ.has1 y := by
  induction l generalizing σ with
  | nil => exact Iff.rfl
  | cons x l ih =>
    simp only [Sg.puts]
    rw [ih (σ.put x) (fun z hz => h z (List.mem_cons_of_mem _ hz))]
    exact has1_put σ x y (h x List.mem_cons_self)
theorem has_puts (σ : Sg) (l p : List W) (h : disj l p = true) : (σ.puts l).has p ↔ σ.has p := by
  induction p with
  | nil => exact Iff.rfl
  | cons y p ih =>
    have h' := disj_iff h
    have hp : disj l p = true := by
      simp only [disj, List.all_eq_true]
      intro x hx y' hy'
      simpa using h' x hx y' (List.mem_cons_of_mem _ hy')
    simp only [Sg.has]
    rw [has1_puts σ l y (fun x hx => h' x hx y List.mem_cons_self), ih hp]
theorem indep_iff {x y : Tr} (h : indep x y = true) : disj x.post y.pre = true ∧ disj x.pre y.post = true ∧ disj x.post y.post = true := by
  simp only [indep, Bool.and_eq_true] at h
  exact ⟨h.1.1, h.1.2, h.2⟩
theorem disj_symm {a b : List W} (h : disj a b = true) : disj b a = true := by
  simp only [disj, List.all_eq_true]
  intro x hx y hy
  simpa using (disj_iff h y hy x hx).symm
theorem bring_front {tr : Tr} {L2 : List Tr} {σ' : Sg} : ∀ (L1 : List Tr) (σ : Sg), chain σ (L1 ++ tr :: L2) σ' → (∀ x ∈ L1, indep x tr = true) → σ.has tr.pre ∧ chain (σ.puts tr.post) (L1 ++ L2) σ'
  | [], σ, h, _ => h
  | x :: L1, σ, h, hi => by
    obtain ⟨h1, h2⟩ := h
    obtain ⟨h3, h4⟩ := bring_front L1 _ h2 (fun y hy => hi y (List.mem_cons_of_mem _ hy))
    obtain ⟨i1, i2, i3⟩ := indep_iff (hi x List.mem_cons_self)
    refine ⟨(has_puts σ x.post tr.pre i1).1 h3, (has_puts σ tr.post x.pre (disj_symm i2)).2 h1, ?_⟩
    rw [puts_comm σ tr.post x.post (disj_symm i3)]
    exact h4
def maskOf (acc : Array Nat) (o : Oper) : Nat := o.after.foldl (fun s e => if Region.binds .any e then s ||| 2 ^ e.on ||| acc.getD e.on 0 else s) 0
theorem mask_fold (acc : Array Nat) (j : Nat) : ∀ (l : List Edge) (s : Nat), (l.foldl (fun s e => if Region.binds .any e then s ||| 2 ^ e.on ||| acc.getD e.on 0 else s) s).testBit j = true →
    s.testBit j = true ∨ ∃ e ∈ l, Region.binds .any e = true ∧ (e.on = j ∨ (acc.getD e.on 0).testBit j = true)
  | [], s, h => .inl h
  | e :: l, s, h => by
    rcases mask_fold acc j l _ h with h1 | ⟨e', he', h1⟩
    · by_cases hb : Region.binds .any e = true
      · simp only [hb, if_true, Nat.testBit_or, Bool.or_eq_true] at h1
        rcases h1 with (h1 | h1) | h1
        · exact .inl h1
        · refine .inr ⟨e, List.mem_cons_self, hb, .inl ?_⟩
          rw [Nat.testBit_two_pow] at h1
          simpa using h1
        · exact .inr ⟨e, List.mem_cons_self, hb, .inr h1⟩
      · simp only [hb] at h1
        exact .inl (by simpa using h1)
    · exact .inr ⟨e', List.mem_cons_of_mem _ he', h1⟩
theorem mask_of (acc : Array Nat) (o : Oper) (j : Nat) (h : (maskOf acc o).testBit j = true) : ∃ e ∈ o.after.toList, Region.binds .any e = true ∧ (e.on = j ∨ (acc.getD e.on 0).testBit j = true) := by
  unfold maskOf at h
  rw [← Array.foldl_toList] at h
  rcases mask_fold acc j o.after.toList 0 h with h | h
  · simp at h
  · exact h
def befores (acc : Array Nat) : List Oper → Array Nat
  | [] => acc
  | o :: l => befores (acc.push (maskOf acc o)) l
def Tab (ops : List Oper) (acc : Array Nat) : Prop := ∀ i j, (acc.getD i 0).testBit j = true → ∃ o, ops[i]? = some o ∧ ∃ e ∈ o.after.toList, Region.binds .any e = true ∧ e.on < ops.length ∧ (e.on = j ∨ (e.on < i ∧ (acc.getD e.on 0).testBit j = true))
def edgesIn (n : Nat) (o : Oper) : Bool := o.after.all fun e => !Region.binds .any e || e.on < n
theorem tab_befores (ops : List Oper) (hin : ∀ o ∈ ops, edgesIn ops.length o = true) : ∀ (l : List Oper) (pre : List Oper) (acc : Array Nat), pre ++ l = ops → acc.size = pre.length → Tab ops acc → Tab ops (befores acc l)
  | [], pre, acc, _, _, h => h
  | o :: l, pre, acc, he, hs, h => by
    refine tab_befores ops hin l (pre ++ [o]) _ (by simpa using he) (by simp [hs]) ?_
    intro i j hb
    have hget : ∀ k, ((acc.push (maskOf acc o)).getD k 0) = if k = acc.size then maskOf acc o else acc.getD k 0 := by
      intro k
      rw [Array.getD_eq_getD_getElem?, Array.getElem?_push, Array.getD_eq_getD_getElem?]
      split <;> simp_all
    rw [hget] at hb
    by_cases hk : i = acc.size
    · rw [if_pos hk] at hb
      obtain ⟨e, he1, he2, he3⟩ := mask_of acc o j hb
      have ho : ops[i]? = some o := by rw [← he, hk, hs]; simp
      have hmem : o ∈ ops := by rw [← he]; simp
      have hlt : e.on < ops.length := by
        have h1 := hin o hmem
        simp only [edgesIn, ← Array.all_toList, List.all_eq_true] at h1
        have h2 := h1 e he1
        simp only [he2, Bool.not_true, Bool.false_or, decide_eq_true_eq] at h2
        exact h2
      refine ⟨o, ho, e, he1, he2, hlt, ?_⟩
      rcases he3 with he3 | he3
      · exact .inl he3
      · refine .inr ⟨?_, ?_⟩
        · rcases Nat.lt_or_ge e.on acc.size with h1 | h1
          · omega
          · rw [Array.getD_eq_getD_getElem?, Array.getElem?_eq_none h1] at he3
            simp at he3
        · rw [hget]
          by_cases h1 : e.on = acc.size
          · rw [Array.getD_eq_getD_getElem?, Array.getElem?_eq_none (by omega)] at he3
            simp at he3
          · rw [if_neg h1]
            exact he3
    · rw [if_neg hk] at hb
      obtain ⟨o', ho', e, he1, he2, hlt, he3⟩ := h i j hb
      refine ⟨o', ho', e, he1, he2, hlt, ?_⟩
      rcases he3 with he3 | ⟨he3, he4⟩
      · exact .inl he3
      · refine .inr ⟨he3, ?_⟩
        rw [hget]
        by_cases h1 : e.on = acc.size
        · rw [Array.getD_eq_getD_getElem?, Array.getElem?_eq_none (by omega)] at he4
          simp at he4
        · rw [if_neg h1]
          exact he4
def chkTo (mask : Nat) (tr : Tr) : List (Nat × Tr) → Bool
  | [] => true
  | (j, x) :: l => (mask.testBit j || indep x tr) && chkTo mask tr l
def chkGo : List Nat → List (Nat × Tr) → List (Nat × Tr) → Bool
  | _, _, [] => true
  | [], _, _ :: _ => false
  | m :: ms, done, (i, tr) :: l => chkTo m tr done && chkGo ms ((i, tr) :: done) l
def number : Nat → List Tr → List (Nat × Tr)
  | _, [] => []
  | i, x :: l => (i, x) :: number (i + 1) l
def edgesOk : Nat → List Oper → Bool
  | _, [] => true
  | i, o :: l => edgesIn i o && edgesOk (i + 1) l
def chk (ops : List Oper) (trs : List Tr) : Bool := edgesOk 0 ops && chkGo (befores #[] ops).toList [] (number 0 trs)
theorem edgesOk_at : ∀ (ops : List Oper) (k : Nat), edgesOk k ops = true → ∀ i o, ops[i]? = some o → edgesIn (k + i) o = true
  | [], k, _, i, o, h => by simp at h
  | x :: l, k, h, 0, o, ho => by
    simp only [edgesOk, Bool.and_eq_true] at h
    simp only [List.getElem?_cons_zero, Option.some.injEq] at ho
    subst ho
    exact h.1
  | x :: l, k, h, i + 1, o, ho => by
    simp only [edgesOk, Bool.and_eq_true] at h
    simp only [List.getElem?_cons_succ] at ho
    have := edgesOk_at l (k + 1) h.2 i o ho
    rwa [Nat.add_assoc, Nat.add_comm 1 i] at this
theorem edgesIn_mono {n m : Nat} (h : n ≤ m) {o : Oper} (ho : edgesIn n o = true) : edgesIn m o = true := by
  simp only [edgesIn, ← Array.all_toList, List.all_eq_true] at ho ⊢
  intro e he
  have h1 := ho e he
  simp only [Bool.or_eq_true, Bool.not_eq_true', decide_eq_true_eq] at h1 ⊢
  rcases h1 with h1 | h1
  · exact .inl h1
  · exact .inr (by omega)
theorem number_get : ∀ (trs : List Tr) (k i : Nat), (number k trs)[i]? = (trs[i]?).map (fun t => (k + i, t))
  | [], k, i => by simp [number]
  | x :: l, k, 0 => by simp [number]
  | x :: l, k, i + 1 => by
    simp only [number, List.getElem?_cons_succ]
    rw [number_get l (k + 1) i]
    cases l[i]? <;> simp; omega
theorem number_snd : ∀ (trs : List Tr) (k : Nat), (number k trs).map Prod.snd = trs
  | [], k => rfl
  | x :: l, k => by simp [number, number_snd l (k + 1)]
theorem number_fst_ge : ∀ (trs : List Tr) (k : Nat), ∀ x ∈ number k trs, k ≤ x.1
  | [], k, x, h => by simp [number] at h
  | y :: l, k, x, h => by
    simp only [number, List.mem_cons] at h
    rcases h with rfl | h
    · exact Nat.le_refl _
    · have := number_fst_ge l (k + 1) x h
      omega
theorem number_asc : ∀ (trs : List Tr) (k : Nat), (number k trs).Pairwise (fun x y => x.1 < y.1)
  | [], k => List.Pairwise.nil
  | y :: l, k => by
    simp only [number]
    refine List.Pairwise.cons (fun x hx => ?_) (number_asc l (k + 1))
    have := number_fst_ge l (k + 1) x hx
    simp only
    omega
theorem chkTo_mem (m : Nat) (tr : Tr) : ∀ (l : List (Nat × Tr)), chkTo m tr l = true → ∀ x ∈ l, m.testBit x.1 = true ∨ indep x.2 tr = true
  | [], _, x, h => by simp at h
  | (j, y) :: l, hc, x, h => by
    simp only [chkTo, Bool.and_eq_true, Bool.or_eq_true] at hc
    rcases List.mem_cons.1 h with rfl | h
    · exact hc.1
    · exact chkTo_mem m tr l hc.2 x h
theorem chkGo_pw (T : List Nat) : ∀ (l : List (Nat × Tr)) (ms : List Nat) (done : List (Nat × Tr)) (k : Nat), (∀ i, ms[i]? = T[k + i]?) → (∀ i x, l[i]? = some x → x.1 = k + i) → chkGo ms done l = true →
    l.Pairwise (fun x y => (T.getD y.1 0).testBit x.1 = true ∨ indep x.2 y.2 = true) ∧ ∀ x ∈ done, ∀ y ∈ l, (T.getD y.1 0).testBit x.1 = true ∨ indep x.2 y.2 = true
  | [], ms, done, k, _, _, _ => ⟨List.Pairwise.nil, fun x _ y hy => by simp at hy⟩
  | (i, tr) :: l, [], done, k, _, _, h => by simp [chkGo] at h
  | (i, tr) :: l, m :: ms, done, k, hm, hl, h => by
    simp only [chkGo, Bool.and_eq_true] at h
    have hi : i = k := by have := hl 0 (i, tr) rfl; simpa using this
    have hmk : T.getD i 0 = m := by
      have := hm 0
      simp only [List.getElem?_cons_zero, Nat.add_zero] at this
      rw [hi, List.getD_eq_getElem?_getD, ← this]
      rfl
    obtain ⟨h1, h2⟩ := chkGo_pw T l ms ((i, tr) :: done) (k + 1) (fun j => by
      have := hm (j + 1)
      simp only [List.getElem?_cons_succ] at this
      rw [this]; congr 1; omega) (fun j x hx => by
      have := hl (j + 1) x (by simpa using hx)
      rw [this]; omega) h.2
    refine ⟨List.Pairwise.cons (fun y hy => h2 (i, tr) List.mem_cons_self y hy) h1, fun x hx y hy => ?_⟩
    rcases List.mem_cons.1 hy with rfl | hy
    · simp only
      rw [hmk]
      exact chkTo_mem m tr done h.1 x hx
    · exact h2 x (List.mem_cons_of_mem _ hx) y hy
section
variable {P : Program} {N : Cx} {ops : Array Oper}
theorem getD_true_false {l : Array Bool} {j : Nat} (h : j < l.size) : l.getD j true = l.getD j false := by
  simp [Array.getD, h]
theorem ready_tab {T : Array Nat} (hT : Tab ops.toList T) {listed : Array Bool}
    (dc : ∀ i o, ops[i]? = some o → listed.getD i false = true → ∀ e ∈ o.after, Region.binds .any e = true → listed.getD e.on false = true) (j : Nat) :
    ∀ i, (∀ o, ops[i]? = some o → ∀ e ∈ o.after, Region.binds .any e = true → listed.getD e.on false = true) → (T.getD i 0).testBit j = true → listed.getD j false = true := by
  intro i
  induction i using Nat.strongRecOn with
  | _ i ih =>
    intro he hb
    obtain ⟨o, ho, e, h1, h2, h3, h4⟩ := hT i j hb
    have ho' : ops[i]? = some o := by simpa using ho
    have hl := he o ho' e (by simpa using h1) h2
    rcases h4 with rfl | ⟨h4, h5⟩
    · exact hl
    · exact ih e.on h4 (fun o' ho'' e' he' hb' => dc e.on o' ho'' hl e' he' hb') h5
theorem wpAny_of {G0 : Gh} {w0 : World} {T : Array Nat} (hT : Tab ops.toList T) (hE : ∀ i o, ops[i]? = some o → edgesIn i o = true) {σ' : Sg} {Q : Exit → Act → World → Prop} (hQ : ∀ a w, St G0 w0 N σ' a w → Q .normal a w) :
    ∀ (fuel : Nat) (listed : Array Bool) (rem : List (Nat × Tr)) (σ : Sg) (a : Act) (w : World), listed.size = ops.size →
    (∀ j, j < ops.size → (listed.getD j true = false ↔ ∃ tr, (j, tr) ∈ rem)) →
    (∀ x ∈ rem, ∃ o, ops[x.1]? = some o ∧ TrOk P N ops o x.2) →
    rem.Pairwise (fun x y => x.1 < y.1) →
    rem.Pairwise (fun x y => (T.getD y.1 0).testBit x.1 = true ∨ indep x.2 y.2 = true) →
    (∀ i o, ops[i]? = some o → listed.getD i false = true → ∀ e ∈ o.after, Region.binds .any e = true → listed.getD e.on false = true) →
    rem.length ≤ fuel → chain σ (rem.map Prod.snd) σ' → St G0 w0 N σ a w → wpAny P .any ops Q fuel listed a w := by
  intro fuel
  induction fuel with
  | zero =>
    intro listed rem σ a w hs h1 h2 h3 h4 h5 h6 h7 h8
    obtain rfl : rem = [] := List.eq_nil_of_length_eq_zero (by omega)
    have : σ = σ' := h7
    subst this
    refine ⟨?_, hQ a w h8⟩
    rw [List.eq_nil_iff_forall_not_mem]
    intro j hj
    rw [mem_ready] at hj
    have hlt : j < ops.size := by
      obtain ⟨_, o, ho, _⟩ := hj
      exact (Array.getElem?_eq_some_iff.1 ho).1
    obtain ⟨tr, ht⟩ := (h1 j hlt).1 hj.1
    simp at ht
  | succ fuel ih =>
    intro listed rem σ a w hs h1 h2 h3 h4 h5 h6 h7 h8
    constructor
    · intro hr
      cases rem with
      | nil =>
        have : σ = σ' := h7
        subst this
        exact hQ a w h8
      | cons x l =>
        exfalso
        obtain ⟨o, ho, _⟩ := h2 x List.mem_cons_self
        have hlt : x.1 < ops.size := (Array.getElem?_eq_some_iff.1 ho).1
        have : x.1 ∈ Region.ready .any ops listed := by
          rw [mem_ready]
          refine ⟨(h1 x.1 hlt).2 ⟨x.2, List.mem_cons_self⟩, o, ho, fun e he hb => ?_⟩
          have h9 := hE x.1 o ho
          simp only [edgesIn, ← Array.all_toList, List.all_eq_true] at h9
          have h10 := h9 e (by simpa using he)
          simp only [hb, Bool.not_true, Bool.false_or, decide_eq_true_eq] at h10
          have hlt' : e.on < ops.size := by omega
          rw [← getD_true_false (by omega)]
          rcases Bool.eq_false_or_eq_true (listed.getD e.on true) with h | h
          · exact h
          · obtain ⟨tr, ht⟩ := (h1 e.on hlt').1 h
            rcases List.mem_cons.1 ht with ht | ht
            · have : e.on = x.1 := by rw [← ht]
              omega
            · have := (List.pairwise_cons.1 h3).1 _ ht
              simp only at this
              omega
        rw [hr] at this
        simp at this
    · intro i hi
      have hi' := hi
      rw [mem_ready] at hi'
      obtain ⟨hl0, o, ho, hall⟩ := hi'
      have hlt : i < ops.size := (Array.getElem?_eq_some_iff.1 ho).1
      obtain ⟨tr, ht⟩ := (h1 i hlt).1 hl0
      obtain ⟨L1, L2, rfl⟩ := List.append_of_mem ht
      have hin : ∀ x ∈ L1, indep x.2 tr = true := by
        intro x hx
        have hp := (List.pairwise_append.1 h4).2.2 x hx (i, tr) List.mem_cons_self
        rcases hp with hp | hp
        · exfalso
          have hj : listed.getD x.1 false = true := ready_tab hT h5 x.1 i (fun o' ho' e he hb => by
            have : o = o' := by rw [ho] at ho'; exact Option.some.inj ho'
            subst this
            exact hall e he hb) hp
          obtain ⟨o', ho', _⟩ := h2 x (by simp [hx])
          have hlt' : x.1 < ops.size := (Array.getElem?_eq_some_iff.1 ho').1
          have := (h1 x.1 hlt').2 ⟨x.2, by simp [hx]⟩
          rw [getD_true_false (by omega)] at this
          rw [this] at hj
          cases hj
        · exact hp
      rw [List.map_append, List.map_cons] at h7
      obtain ⟨c1, c2⟩ := bring_front (L1.map Prod.snd) σ h7 (by
        intro y hy
        obtain ⟨x, hx, rfl⟩ := List.mem_map.1 hy
        exact hin x hx)
      rw [← List.map_append] at c2
      obtain ⟨o', ho', hok⟩ := h2 (i, tr) (by simp)
      have : o = o' := by
        have h9 : ops[i]? = some o' := ho'
        rw [ho] at h9
        exact Option.some.inj h9
      subst this
      have hasc := List.pairwise_append.1 h3
      have hone := hok G0 w0 σ a w h8 c1 Q (wpAny P .any ops Q fuel (listed.setIfInBounds i true)) (fun a' w' hst => by
        refine ih (listed.setIfInBounds i true) (L1 ++ L2) (σ.puts tr.post) a' w' (by simpa using hs) ?_ ?_ ?_ ?_ ?_ (by simp only [List.length_append, List.length_cons] at h6 ⊢; omega) c2 hst
        · intro j hj
          by_cases hji : j = i
          · subst hji
            constructor
            · intro h
              exfalso
              simp [Array.getD, hs, hj] at h
            · rintro ⟨t', ht'⟩
              exfalso
              rcases List.mem_append.1 ht' with ht' | ht'
              · have := hasc.2.2 _ ht' (j, tr) List.mem_cons_self
                simp only at this
                omega
              · have := (List.pairwise_cons.1 hasc.2.1).1 _ ht'
                simp only at this
                omega
          · rw [getD_set_ne true (Ne.symm hji), h1 j hj]
            constructor
            · rintro ⟨t', ht'⟩
              refine ⟨t', ?_⟩
              simp only [List.mem_append, List.mem_cons, Prod.mk.injEq] at ht' ⊢
              rcases ht' with ht' | ⟨ht', _⟩ | ht'
              · exact .inl ht'
              · exact (hji ht').elim
              · exact .inr ht'
            · rintro ⟨t', ht'⟩
              refine ⟨t', ?_⟩
              simp only [List.mem_append, List.mem_cons] at ht' ⊢
              rcases ht' with ht' | ht'
              · exact .inl ht'
              · exact .inr (.inr ht')
        · intro x hx
          refine h2 x ?_
          simp only [List.mem_append, List.mem_cons] at hx ⊢
          rcases hx with hx | hx
          · exact .inl hx
          · exact .inr (.inr hx)
        · exact List.Pairwise.sublist (List.Sublist.append (List.Sublist.refl _) (List.sublist_cons_self _ _)) h3
        · exact List.Pairwise.sublist (List.Sublist.append (List.Sublist.refl _) (List.sublist_cons_self _ _)) h4
        · intro k o' ho' hk e he hb
          by_cases hki : k = i
          · have h9 : o = o' := Option.some.inj (ho.symm.trans (hki ▸ ho'))
            rw [← h9] at he
            exact getD_set_true (hall e he hb)
          · rw [getD_set_ne false (Ne.symm hki)] at hk
            exact getD_set_true (h5 k o' ho' hk e he hb))
      unfold wpOp
      simp only [ho]
      unfold wpOne at hone
      split
      · rename_i hw
        rw [if_pos hw] at hone
        exact .inl hone
      · rename_i hw
        rw [if_neg hw] at hone
        exact hone
end
end Go.Sy

