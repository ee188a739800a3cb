/- Nil slices as rows of one's own that hold nothing; equality of structs; min and max. -/
import Derived.Test.YtdpcdcogbmkffaaSParcelM
import Derived.DeepKeys
import Derived.Laws.StructEq
import Derived.BigFrame
set_option linter.unusedVariables false
set_option linter.unusedSimpArgs false
namespace Go.Sy
structure Np where
  b : Bool
  id : Nat
  cell : Option Nat
  i : Nat
  e : Nat
  es : Nat
def setRef (i : Nat) : Nat → List V → Option (List V)
  | 0, .nil :: l => some (.ref i :: l)
  | j + 1, x :: l => (setRef i j l).map (x :: ·)
  | _, _ => none
def nilV (i : Nat) : Option Nat → V → Option V
  | none, .nil => some (.ref i)
  | some j, .agg cs => (setRef i j cs).map .agg
  | _, _ => none
def nil1 (σ : Sg) (p : Np) : Option Sg :=
  match σ.ob p.i with
  | .free => match p.b with
    | false => (nilV p.i p.cell (σ.tm p.id)).map fun v => (σ.put (.o p.i (.arr p.e p.es []))).put (.t p.id v)
    | true => match p.cell, σ.ob p.id with
      | some j, .box t cs => (setRef p.i j cs).map fun cs' => (σ.put (.o p.i (.arr p.e p.es []))).put (.o p.id (.box t cs'))
      | _, _ => none
  | _ => none
def nils : Sg → List Np → Option Sg
  | σ, [] => some σ
  | σ, p :: l => (nil1 σ p).bind fun σ' => nils σ' l
theorem setRef_get {i : Nat} : ∀ {j : Nat} {cs cs' : List V}, setRef i j cs = some cs' → cs'.length = cs.length ∧ ∀ (k : Nat) (x : V), cs'[k]? = some x → cs[k]? = some x ∨ (cs[k]? = some .nil ∧ x = .ref i)
  | 0, cs, cs', h => by
    cases cs with
    | nil => cases h
    | cons c l =>
      cases c <;> simp only [setRef, Option.some.injEq] at h <;> first | (cases h; done) | skip
      subst h
      refine ⟨by simp, fun k x hx => ?_⟩
      cases k with
      | zero => simp at hx; exact .inr ⟨rfl, hx.symm⟩
      | succ k => exact .inl (by simpa using hx)
  | j + 1, cs, cs', h => by
    cases cs with
    | nil => cases h
    | cons c l =>
      have h : (setRef i j l).map (c :: ·) = some cs' := by cases c <;> exact h
      obtain ⟨l', h1, rfl⟩ := Option.map_eq_some_iff.1 h
      obtain ⟨q1, q2⟩ := setRef_get h1
      refine ⟨by simp [q1], fun k x hx => ?_⟩
      cases k with
      | zero => exact .inl (by simpa using hx)
      | succ k => simpa using q2 k x (by simpa using hx)
def Gh.nil (G : Gh) (i es : Nat) : Gh := { G with ρ := fun k => if k = i then some ⟨none, 0, es, 0⟩ else G.ρ k }
section
variable {N : Cx}
theorem nil_ref {G : Gh} {w : World} {ob : Nat → Ob} (H : Hold G w ob) {i es : Nat} (hf : ob i = .free) {v : Value} {x : V} (h : G.Rep w v x) : (G.nil i es).Rep w v x := by
  refine Sy.Rep.mono (fun k r hk => ?_) (fun _ h => h) (fun _ h => h) (fun _ _ => rfl) h
  have := H.own i
  rw [hf] at this
  show (if k = i then _ else _) = _
  rw [if_neg (fun e => by subst e; rw [this.1] at hk; cases hk)]
  exact hk
theorem nil_sl (G : Gh) (w : World) (i es : Nat) : (G.nil i es).Rep w (.slice none 0 0) (.ref i) :=
  .ref i ⟨none, 0, es, 0⟩ _ (by simp [Gh.nil]) ⟨rfl, rfl⟩
theorem setRef_rep {G : Gh} {w : World} {ob : Nat → Ob} (H : Hold G w ob) {i es j : Nat} (hf : ob i = .free) {cs cs' : List V} (hs : setRef i j cs = some cs') {a : Array Value} (h : ∀ (j : Nat) (x : V), cs[j]? = some x → G.Rep w (a.getD j undef) x) (k : Nat) (x : V) (hx : cs'[k]? = some x) : (G.nil i es).Rep w (a.getD k undef) x := by
  rcases (setRef_get hs).2 k x hx with h1 | ⟨h1, rfl⟩
  · exact nil_ref H hf (h k x h1)
  · rw [Rep.inv_nil (h k _ h1)]
    exact nil_sl G w i es
theorem nil_sub {σ σ' : Sg} {p : Np} (h : nil1 σ p = some σ') : Sub N σ σ' := by
  obtain ⟨b, id, cell, i, e, es⟩ := p
  intro G0 w0 a w s
  obtain ⟨G, H, ht, h1, h2, h3, h4⟩ := s
  unfold nil1 at h
  simp only at h
  split at h
  · rename_i hf
    have hfo := H.own i
    rw [hf] at hfo
    have hrho : ∀ k r, G.ρ k = some r → (G.nil i es).ρ k = some r := fun k r hk => by
      show (if k = i then _ else _) = _
      rw [if_neg (fun e => by subst e; rw [hfo.1] at hk; cases hk)]
      exact hk
    cases b with
    | false =>
      simp only at h
      obtain ⟨v, hv, rfl⟩ := Option.map_eq_some_iff.1 h
      obtain ⟨H', F'⟩ := Hold.step (G' := G.nil i es) (w' := w) (ob' := fun k => if k = i then .arr e es [] else σ.ob k) H rfl rfl rfl rfl rfl (Nat.le_refl _) hrho (fun k => k = i) (fun k hk => ⟨if_neg hk, if_neg hk, rfl⟩) (fun _ _ _ => rfl) (fun _ _ k hk => by
        subst hk
        simp only [if_true]
        exact ⟨⟨none, 0, es, 0⟩, by simp [Gh.nil], rfl, rfl, .inl ⟨rfl, rfl, hfo.2, rfl⟩⟩) (fun k b hk hb => by subst hk; exact (hfo.2 b hb).elim) (fun k b _ hb => H.flt k b hb) (fun k l b hk hl _ _ => by rw [hk, hl])
      refine ⟨G.nil i es, H', fun t => ?_, h1, h2, h3.trans F', h4⟩
      simp only [Sg.put]
      split
      · rename_i htt
        subst htt
        have hq := ht t
        cases cell with
        | none =>
          generalize σ.tm t = u at hv hq
          cases u <;> simp only [nilV, Option.some.injEq] at hv <;> first | (cases hv; done) | skip
          subst hv
          rw [Rep.inv_nil hq]
          exact nil_sl G w i es
        | some j =>
          generalize σ.tm t = u at hv hq
          cases u <;> simp only [nilV] at hv <;> first | (cases hv; done) | skip
          obtain ⟨cs', hc, rfl⟩ := Option.map_eq_some_iff.1 hv
          obtain ⟨ar, e1, e2, e3⟩ := Rep.inv_agg hq
          rw [e1]
          exact .agg ar cs' (by rw [e2, (setRef_get hc).1]) (setRef_rep H hf hc e3)
      · exact nil_ref H hf (ht t)
    | true =>
      simp only at h
      split at h
      · rename_i j t cs hbx
        obtain ⟨cs', hc, rfl⟩ := Option.map_eq_some_iff.1 h
        have hne : id ≠ i := fun e => by subst e; rw [hf] at hbx; cases hbx
        obtain ⟨H', F'⟩ := Hold.step (G' := G.nil i es) (w' := w) (ob' := fun k => if k = id then .box t cs' else if k = i then .arr e es [] else σ.ob k) H rfl rfl rfl rfl rfl (Nat.le_refl _) hrho (fun k => k = i ∨ k = id) (fun k hk => ⟨(if_neg (fun e => hk (.inr e))).trans (if_neg (fun e => hk (.inl e))), if_neg (fun e => hk (.inl e)), rfl⟩) (fun _ _ _ => rfl) (fun _ _ k hk => by
          rcases hk with rfl | rfl
          · simp only
            rw [if_neg (fun e => hne e.symm)]
            simp only [if_true]
            exact ⟨⟨none, 0, es, 0⟩, by simp [Gh.nil], rfl, rfl, .inl ⟨rfl, rfl, hfo.2, rfl⟩⟩
          · simp only [if_true]
            have hb := H.own k
            rw [hbx] at hb
            obtain ⟨r, g, cur, b1, b2, b3, b4, b5, b6⟩ := hb
            exact ⟨r, g, cur, hrho _ _ b1, b2, b3, by rw [b4, (setRef_get hc).1], setRef_rep H hf hc b5, b6⟩) (fun k b hk hb => by
          rcases hk with rfl | rfl
          · exact (hfo.2 b hb).elim
          · exact .inl ⟨k, .inr rfl, hb⟩) (fun k b _ hb => H.flt k b hb) (fun k l b _ _ hk hl => H.dis k l b hk hl)
        exact ⟨G.nil i es, H', fun t => nil_ref H hf (ht t), h1, h2, h3.trans F', h4⟩
      · cases h
  · cases h
theorem nils_sub : ∀ {l : List Np} {σ σ' : Sg}, nils σ l = some σ' → Sub N σ σ'
  | [], σ, σ', h => by
    obtain rfl := Option.some.inj h
    exact Sub.refl _ _
  | p :: l, σ, σ', h => by
    obtain ⟨σ1, h1, h2⟩ := Option.bind_eq_some_iff.1 h
    exact (nil_sub h1).trans (nils_sub h2)
theorem Sub.nils {σ : Sg} (l : List Np) (h : (nils σ l).isSome = true) : Sub N σ ((Sy.nils σ l).get h) := nils_sub (Option.some_get h).symm
variable {P : Program}
theorem AW.weakK {c : Code} {σ : Sg} {K : Exit → Sg → Prop} (h : AW P N c σ (fun e s => ∃ s1, Sub N s s1 ∧ K e s1)) : AW P N c σ K :=
  fun G0 w0 a w s => wp_mono (h G0 w0 a w s) fun e a' w' ⟨σ', ⟨s1, hs, hk⟩, st⟩ => ⟨s1, hk, hs _ _ _ _ st⟩
end
section
variable {P : Program} (w : World)
variable {N : Cx}
variable {ops : Array Oper} {K : List Tr → Sg → Prop} {k : Nat} {σ : Sg}
theorem ok_mm {o : Oper} {b : Builtin} {x y : Operand} {ats : Array TypeId} {d : Nat} {σ : Sg} {q : IntKind} {m n r : Int} (ho : o.op = .call { callee := .builtin b, args := #[x, y], argTypes := ats }) (hd : o.dst = some d) (hn : d < N.n)
    (hx : σ.ev x = .int q m) (hy : σ.ev y = .int q n) (hr : (b = .min ∧ r = if n < m then n else m) ∨ (b = .max ∧ r = if n > m then n else m)) : CoreOk P N o (opw x (.int q m) ++ opw y (.int q n)) [.t d (.int q r)] :=
  val_ok hd hn fun G w σ' ac H he hp => by
    obtain ⟨hp1, hp2⟩ := has_append.1 hp
    have h1 := he x
    rw [opw_ev hx hp1] at h1
    have h2 := he y
    rw [opw_ev hy hp2] at h2
    have e1 := Rep.inv_int h1
    have e2 := Rep.inv_int h2
    refine ⟨.int q r, ?_, .g (.int _ _)⟩
    rcases hr with ⟨rfl, rfl⟩ | ⟨rfl, rfl⟩
    · simp [execOp, ho, resolve, invoke, builtin, Builtin.min_, Builtin.min2, e1, e2]
    · simp [execOp, ho, resolve, invoke, builtin, Builtin.max_, Builtin.max2, e1, e2]
theorem At.mm {d : Nat} {b : Builtin} {x y : Operand} {ats : Array TypeId} {q : IntKind} {m n : Int} (r : Int) (hg : goes ops σ k = true) (ho : opd (opAt ops k) = (.call { callee := .builtin b, args := #[x, y], argTypes := ats }, some d)) (hn : Nat.blt d N.n = true) (hv : [σ.ev x, σ.ev y] = [.int q m, .int q n]) (hr : (b = .min ∧ r = if n < m then n else m) ∨ (b = .max ∧ r = if n > m then n else m))
    (h : At P N ops (k + 1) (σ.puts [.t d (.int q r)]) (fun t s => K (⟨(gpOf ops σ (opAt ops k)).getD [] ++ (opw x (.int q m) ++ opw y (.int q n)), [.t d (.int q r)]⟩ :: t) s)) : At P N ops k σ K := by
  simp only [List.cons.injEq, and_true] at hv
  exact At.step2 hg ⟨ok_mm (opd1 ho) (opd2 ho) (by simpa using hn) hv.1 hv.2 hr, has2 (opw_has hv.1) (opw_has hv.2)⟩ h
end
end Go.Sy

