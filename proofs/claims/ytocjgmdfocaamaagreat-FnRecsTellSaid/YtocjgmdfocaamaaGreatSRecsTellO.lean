/- Nil slices as rows of one's own that hold nothing; equality of structs; min and max. -/
import Derived.Test.YtocjgmdfocaamaaGreatSRecsTellM
import Derived.DeepKeys
import Derived.Laws.StructEq
import Derived.BigFrame
set_option linter.unusedVariables false
set_option linter.unusedSimpArgs false
namespace Go.Sy
structure Np where
  b : Bool
  id : Nat
  cell : Option Nat
  i : Nat
  e : Nat
  es : Nat
def setRef (i : Nat) : Nat → List V → Option (List V)
  | 0, .nil :: l => some (.ref i :: l)
  | j + 1, x :: l => (setRef i j l).map (x :: ·)
  | _, _ => none
def nilV (i : Nat) : Option Nat → V → Option V
  | none, .nil => some (.ref i)
  | some j, .agg cs => (setRef i j cs).map .agg
  | _, _ => none
def nil1 (σ : Sg) (p : Np) : Option Sg :=
  match σ.ob p.i with
  | .free => match p.b with
    | false => (nilV p.i p.cell (σ.tm p.id)).map fun v => (σ.put (.o p.i (.arr p.e p.es []))).put (.t p.id v)
    | true => match p.cell, σ.ob p.id with
      | some j, .box t cs => (setRef p.i j cs).map fun cs' => (σ.put (.o p.i (.arr p.e p.es []))).put (.o p.id (.box t cs'))
      | _, _ => none
  | _ => none
def nils : Sg → List Np → Option Sg
  | σ, [] => some σ
  | σ, p :: l => (nil1 σ p).bind fun σ' => nils σ' l
theorem setRef_get {i : Nat} : ∀ {j : Nat} {cs cs' : List V}, setRef i j cs = some cs' → cs'.length = cs.length ∧ ∀ (k : Nat) (x : V), cs'[k]? = some x → cs[k]? = some x ∨ (cs[k]? = some .nil ∧ x = .ref i)
  | 0, cs, cs', h => by
    cases cs with
    | nil => cases h
    | cons c l =>
      cases c <;> simp only [setRef, Option.some.injEq] at h <;> first | (cases h; done) | skip
      subst h
      refine ⟨by simp, fun k x hx => ?_⟩
      cases k with
      | zero => simp at hx; exact .inr ⟨rfl, hx.symm⟩
      | succ k => exact .inl (by simpa using hx)
  | j + 1, cs, cs', h => by
    cases cs with
    | nil => cases h
    | cons c l =>
      have h : (setRef i j l).map (c :: ·) = some cs' := by cases c <;> exact h
      obtain ⟨l', h1, rfl⟩ := Option.map_eq_some_iff.1 h
      obtain ⟨q1, q2⟩ := setRef_get h1
      refine ⟨by simp [q1], fun k x hx => ?_⟩
      cases k with
      | zero => exact .inl (by simpa using hx)
      | succ k => simpa using q2 k x (by simpa using hx)
def Gh.nil (G : Gh) (i es : Nat) : Gh := { G with ρ := fun k => if k = i then some ⟨none, 0, es, 0⟩ else G.ρ k }
section
variable {N : Cx}
theorem nil_ref {G : Gh} {w : World} {ob : Nat → Ob} (H : Hold G w ob) {i es : Nat} (hf : ob i = .free) {v : Value} {x : V} (h : G.Rep w v x) : (G.nil i es).Rep w v x := by
  refine Sy.Rep.mono (fun k r hk => ?_) (fun _ h => h) (fun _ h => h) (fun _ _ => rfl) h
  have := H.own i
  rw [hf] at this
  show (if k = i then _ else _) = _
  rw [if_neg (fun e => by subst e; rw [this.1] at hk; cases hk)]
  exact hk
theorem nil_sl (G : Gh) (w : World) (i es : Nat) : (G.nil i es).Rep w (.slice none 0 0) (.ref i) :=
  .ref i ⟨none, 0, es, 0⟩ _ (by simp [Gh.nil]) ⟨rfl, rfl⟩
theorem setRef_rep {G : Gh} {w : World} {ob : Nat → Ob} (H : Hold G w ob) {i es j : Nat} (hf : ob i = .free) {cs cs' : List V} (hs : setRef i j cs = some cs') {a : Array Value} (h : ∀ (j : Nat) (x : V), cs[j]? = some x → G.Rep w (a.getD j undef) x) (k : Nat) (x : V) (hx : cs'[k]? = some x) : (G.nil i es).Rep w (a.getD k undef) x := by
  rcases (setRef_get hs).2 k x hx with h1 | ⟨h1, rfl⟩
  · exact nil_ref H hf (h k x h1)
  · rw [Rep.inv_nil (h k _ h1)]
    exact nil_sl G w i es
theorem nil_sub {σ σ' : Sg} {p : Np} (h : nil1 σ p = some σ') : Sub N σ σ' := by
  obtain ⟨b, id, cell, i, e, es⟩ := p
  intro G0 w0 a w s
  obtain ⟨G, H, ht, h1, h2, h3, h4⟩ := s
  unfold nil1 at h
  simp only at h
  split at h
  · rename_i hf
    have hfo := H.own i
    rw [hf] at hfo
    have hrho : ∀ k r, G.ρ k = some r → (G.nil i es).ρ k = some r := fun k r hk => by
      show (if k = i then _ else _) = _
      rw [if_neg (fun e => by subst e; rw [hfo.1] at hk; cases hk)]
      exact hk
    cases b with
    | false =>
      simp only at h
      obtain ⟨v, hv, rfl⟩ := Option.map_eq_some_iff.1 h
      obtain ⟨H', F'⟩ := Hold.step (G' := G.nil i es) (w' := w) (ob' := fun k => if k = i then .arr e es [] else σ.ob k) H rfl rfl rfl rfl rfl (Nat.le_refl _) hrho (fun k => k = i) (fun k hk => ⟨if_neg hk, if_neg hk, rfl⟩) (fun _ _ _ => rfl) (fun _ _ k hk => by
        subst hk
        simp only [if_true]
        exact ⟨⟨none, 0, es, 0⟩, by simp [Gh.nil], rfl, rfl, .inl ⟨rfl, rfl, hfo.2, rfl⟩⟩) (fun k b hk hb => by subst hk; exact (hfo.2 b hb).elim) (fun k b _ hb => H.flt k b hb) (fun k l b hk hl _ _ => by rw [hk, hl])
      refine ⟨G.nil i es, H', fun t => ?_, h1, h2, h3.trans F', h4⟩
      simp only [Sg.put]
      split
      · rename_i htt
        subst htt
        have hq := ht t
        cases cell with
        | none =>
          generalize σ.tm t = u at hv hq
          cases u <;> simp only [nilV, Option.some.injEq] at hv <;> first | (cases hv; done) | skip
          subst hv
          rw [Rep.inv_nil hq]
          exact nil_sl G w i es
        | some j =>
          generalize σ.tm t = u at hv hq
          cases u <;> simp only [nilV] at hv <;> first | (cases hv; done) | skip
          obtain ⟨cs', hc, rfl⟩ := Option.map_eq_some_iff.1 hv
          obtain ⟨ar, e1, e2, e3⟩ := Rep.inv_agg hq
          rw [e1]
          exact .agg ar cs' (by rw [e2, (setRef_get hc).1]) (setRef_rep H hf hc e3)
      · exact nil_ref H hf (ht t)
    | true =>
      simp only at h
      split at h
      · rename_i j t cs hbx
        obtain ⟨cs', hc, rfl⟩ := Option.map_eq_some_iff.1 h
        have hne : id ≠ i := fun e => by subst e; rw [hf] at hbx; cases hbx
        obtain ⟨H', F'⟩ := Hold.step (G' := G.nil i es) (w' := w) (ob' := fun k => if k = id then .box t cs' else if k = i then .arr e es [] else σ.ob k) H rfl rfl rfl rfl rfl (Nat.le_refl _) hrho (fun k => k = i ∨ k = id) (fun k hk => ⟨(if_neg (fun e => hk (.inr e))).trans (if_neg (fun e => hk (.inl e))), if_neg (fun e => hk (.inl e)), rfl⟩) (fun _ _ _ => rfl) (fun _ _ k hk => by
          rcases hk with rfl | rfl
          · simp only
            rw [if_neg (fun e => hne e.symm)]
            simp only [if_true]
            exact ⟨⟨none, 0, es, 0⟩, by simp [Gh.nil], rfl, rfl, .inl ⟨rfl, rfl, hfo.2, rfl⟩⟩
          · simp only [if_true]
            have hb := H.own k
            rw [hbx] at hb
            obtain ⟨r, g, cur, b1, b2, b3, b4, b5, b6⟩ := hb
            exact ⟨r, g, cur, hrho _ _ b1, b2, b3, by rw [b4, (setRef_get hc).1], setRef_rep H hf hc b5, b6⟩) (fun k b hk hb => by
          rcases hk with rfl | rfl
          · exact (hfo.2 b hb).elim
          · exact .inl ⟨k, .inr rfl, hb⟩) (fun k b _ hb => H.flt k b hb) (fun k l b _ _ hk hl => H.dis k l b hk hl)
        exact ⟨G.nil i es, H', fun t => nil_ref H hf (ht t), h1, h2, h3.trans F', h4⟩
      · cases h
  · cases h
theorem nils_sub : ∀ {l : List Np} {σ σ' : Sg}, nils σ l = some σ' → Sub N σ σ'
  | [], σ, σ', h => by
    obtain rfl := Option.some.inj h
    exact Sub.refl _ _
  | p :: l, σ, σ', h => by
    obtain ⟨σ1, h1, h2⟩ := Option.bind_eq_some_iff.1 h
    exact (nil_sub h1).trans (nils_sub h2)
theorem Sub.nils {σ : Sg} (l : List Np) (h : (nils σ l).isSome = true) : Sub N σ ((Sy.nils σ l).get h) := nils_sub (Option.some_get h).symm
variable {P : Program}
theorem AW.weakK {c : Code} {σ : Sg} {K : Exit → Sg → Prop} (h : AW P N c σ (fun e s => ∃ s1, Sub N s s1 ∧ K e s1)) : AW P N c σ K :=
  fun G0 w0 a w s => wp_mono (h G0 w0 a w s) fun e a' w' ⟨σ', ⟨s1, hs, hk⟩, st⟩ => ⟨s1, hk, hs _ _ _ _ st⟩
end
def eqFs (P : Program) (ev : TypeId → List Value → List Value → Option Bool) (cs ds : List Value) : List Field → Option Bool
  | [] => some true
  | f :: fs => match f.name != "_" with
    | true => (ev f.type ((cs.drop f.offset).take (P.cellsOf f.type)) ((ds.drop f.offset).take (P.cellsOf f.type))).bind fun r => (eqFs P ev cs ds fs).map (r && ·)
    | false => none
def eqVals (P : Program) : Nat → TypeId → List Value → List Value → Option Bool
  | 0, _, _, _ => none
  | d + 1, t, cs, ds => match P.underlying t with
    | some .bool => match cs, ds with
      | [.bool a], [.bool b] => some (a == b)
      | _, _ => none
    | some (.int _) => match cs, ds with
      | [.int q a], [.int q' b] => match decide (q = q') with
        | true => some (a == b)
        | false => none
      | _, _ => none
    | some .string => match cs, ds with
      | [.string a], [.string b] => some (a.toList == b.toList)
      | _, _ => none
    | some (.struct fs) => match (decide (cs.length = P.cellsOf t) && decide (ds.length = P.cellsOf t) && !P.stoodInHeld t) with
      | true => eqFs P (eqVals P d) cs ds fs.toList
      | false => none
    | _ => none
section
variable {P : Program} (w : World)
theorem part_plain {e : TypeId} (he : P.plainKey e = true) {xs : Array Value} {off : Nat} {v : Value} (h : (xs.toList.drop off).take (P.cellsOf e) = [v]) : (part e xs off).run P w = .ok v w := by
  refine run_part_plain w he ?_
  have h0 : ((xs.toList.drop off).take (P.cellsOf e))[0]? = some v := by rw [h]; rfl
  rw [List.getElem?_take] at h0
  split at h0
  · simpa using h0
  · cases h0
theorem part_agg {e : TypeId} {fs : Array Field} (hu : P.underlying e = some (.struct fs)) (xs : Array Value) (off : Nat) : (part e xs off).run P w = .ok (.agg (xs.extract off (off + P.cellsOf e))) w := by
  obtain ⟨i, hi⟩ := info_of_underlying hu
  simp [part, isAgg, run_underlying hu, run_sizeOf w hi]
theorem extract_list (xs : Array Value) (off n : Nat) : (xs.extract off (off + n)).toList = (xs.toList.drop off).take n := by
  rw [Array.toList_extract]
  simp [List.extract]
theorem eqFs_run (dd : Nat) (ev : TypeId → List Value → List Value → Option Bool) (xs ys : Array Value)
    (h : ∀ (f : Field) (r : Bool), ev f.type ((xs.toList.drop f.offset).take (P.cellsOf f.type)) ((ys.toList.drop f.offset).take (P.cellsOf f.type)) = some r → ∃ a b, (part f.type xs f.offset).run P w = .ok a w ∧ (part f.type ys f.offset).run P w = .ok b w ∧ (Op.equalIn dd f.type a b).run P w = .ok r w) :
    ∀ (fs : List Field) (r : Bool), eqFs P ev xs.toList ys.toList fs = some r → (Op.eqFields dd xs ys fs).run P w = .ok r w
  | [], r, hr => by
    obtain rfl := Option.some.inj hr
    simp [Op.eqFields]
  | f :: fs, r, hr => by
    simp only [eqFs] at hr
    split at hr
    · rename_i hn
      obtain ⟨r1, h1, h2⟩ := Option.bind_eq_some_iff.1 hr
      obtain ⟨r2, h3, rfl⟩ := Option.map_eq_some_iff.1 h2
      obtain ⟨a, b, p1, p2, p3⟩ := h f r1 h1
      have hn : f.name ≠ "_" := by simpa using hn
      simp only [Op.eqFields, hn, ne_eq, not_false_eq_true, if_true, Sem.run_bind, p1, p2, p3, Result.andThen_ok]
      cases r1
      · simp
      · simpa using eqFs_run dd ev xs ys h fs r2 h3
    · cases hr
theorem eqVals_run (d : Nat) : ∀ (m : Nat) (t : TypeId) (xs ys : Array Value) (off : Nat) (r : Bool), eqVals P m t ((xs.toList.drop off).take (P.cellsOf t)) ((ys.toList.drop off).take (P.cellsOf t)) = some r →
    ∃ a b, (part t xs off).run P w = .ok a w ∧ (part t ys off).run P w = .ok b w ∧ (Op.equalIn (d + m) t a b).run P w = .ok r w
  | 0, t, xs, ys, off, r, h => by cases h
  | m + 1, t, xs, ys, off, r, h => by
    unfold eqVals at h
    split at h
    · rename_i hu
      split at h
      · rename_i a b h1 h2
        obtain rfl := Option.some.inj h
        exact ⟨_, _, part_plain w (by simp [Program.plainKey, hu]) h1, part_plain w (by simp [Program.plainKey, hu]) h2, run_equalIn_bool' w (d + m) t a b hu⟩
      · cases h
    · rename_i q hu
      split at h
      · rename_i q1 a q2 b h1 h2
        split at h
        · rename_i hq
          obtain rfl := of_decide_eq_true hq
          obtain rfl := Option.some.inj h
          exact ⟨_, _, part_plain w (by simp [Program.plainKey, hu]) h1, part_plain w (by simp [Program.plainKey, hu]) h2, run_equalIn_int w (d + m) t _ _ _ _ hu⟩
        · cases h
      · cases h
    · rename_i hu
      split at h
      · rename_i a b h1 h2
        obtain rfl := Option.some.inj h
        exact ⟨_, _, part_plain w (by simp [Program.plainKey, hu]) h1, part_plain w (by simp [Program.plainKey, hu]) h2, run_equalIn_string w (d + m) t a b hu⟩
      · cases h
    · rename_i fs hu
      split at h
      · rename_i hc
        simp only [Bool.and_eq_true, decide_eq_true_eq, Bool.not_eq_true'] at hc
        have hfs : P.fieldsOf t = fs := by simp [Program.fieldsOf, hu]
        refine ⟨_, _, part_agg w hu xs off, part_agg w hu ys off, ?_⟩
        rw [show d + (m + 1) = (d + m) + 1 from rfl, run_equalIn_struct w (d + m) t _ _ (by rw [hfs]; exact hu) hc.2, hfs]
        refine eqFs_run w (d + m) (eqVals P m) _ _ (fun f r hr => eqVals_run d m f.type _ _ f.offset r hr) fs.toList r ?_
        rw [extract_list, extract_list]
        exact h
      · cases h
    · cases h
def valOf : V → Option Value
  | .int k n => some (.int k n)
  | .bool b => some (.bool b)
  | .str s => some (.string s)
  | _ => none
def valsOf : List V → Option (List Value)
  | [] => some []
  | x :: l => match valOf x, valsOf l with
    | some v, some vs => some (v :: vs)
    | _, _ => none
def eqTop (P : Program) (t : TypeId) (X Y : List V) : Option Bool := match valsOf X, valsOf Y with
  | some xs, some ys => match P.underlying t, decide (xs.length = P.cellsOf t) && decide (ys.length = P.cellsOf t) && !P.eqGuardType P.depth t with
    | some (.struct _), true => eqVals P 8 t xs ys
    | _, _ => none
  | _, _ => none
variable {N : Cx}
theorem valsOf_eq {G : Gh} : ∀ (X : List V) (xs us : List Value), valsOf X = some xs → us.length = X.length → (∀ (j : Nat) (x : V), X[j]? = some x → G.Rep w (us.getD j undef) x) → us = xs
  | [], xs, us, h, hl, _ => by
    obtain rfl := Option.some.inj h
    exact List.length_eq_zero_iff.1 (by simpa using hl)
  | x :: l, xs, us, h, hl, hr => by
    cases us with
    | nil => simp at hl
    | cons u us =>
      simp only [valsOf] at h
      split at h
      · rename_i v vs h1 h2
        obtain rfl := Option.some.inj h
        have h0 := hr 0 x rfl
        rw [valsOf_eq l vs us h2 (by simpa using hl) (fun j y hy => by simpa using hr (j + 1) y (by simpa using hy))]
        congr 1
        cases x <;> simp only [valOf, Option.some.injEq, reduceCtorEq] at h1 <;> subst h1
        · exact Rep.inv_int h0
        · exact Rep.inv_bool h0
        · exact Rep.inv_str h0
      · cases h
theorem ok_eqA {o : Oper} {op : BinOp} {x y : Operand} {t u : TypeId} {d : Nat} {σ : Sg} {X Y : List V} {r : Bool} {v : V} (ho : o.op = .binOp op t x y u) (hd : o.dst = some d) (hn : d < N.n)
    (hx : σ.ev x = .agg X) (hy : σ.ev y = .agg Y) (hr : eqTop P t X Y = some r) (hop : (op = .eql ∧ v = .bool r) ∨ (op = .neq ∧ v = .bool (!r))) : CoreOk P N o (opw x (.agg X) ++ opw y (.agg Y)) [.t d v] :=
  val_ok hd hn fun G w σ' ac H he hp => by
    obtain ⟨hp1, hp2⟩ := has_append.1 hp
    have h1 := he x
    rw [opw_ev hx hp1] at h1
    have h2 := he y
    rw [opw_ev hy hp2] at h2
    obtain ⟨a, e1, l1, q1⟩ := Rep.inv_agg h1
    obtain ⟨b, e2, l2, q2⟩ := Rep.inv_agg h2
    unfold eqTop at hr
    split at hr
    · rename_i xs ys hxs hys
      have hal := valsOf_eq w X xs a.toList hxs (by simpa using l1) (fun j z hz => by have : G.Rep w (a.getD j undef) z := q1 j z hz; rw [Array.getD_eq_getD_getElem?] at this; show G.Rep w (a.toList.getD j undef) z; rw [List.getD_eq_getElem?_getD]; simpa using this)
      have hbl := valsOf_eq w Y ys b.toList hys (by simpa using l2) (fun j z hz => by have : G.Rep w (b.getD j undef) z := q2 j z hz; rw [Array.getD_eq_getD_getElem?] at this; show G.Rep w (b.toList.getD j undef) z; rw [List.getD_eq_getElem?_getD]; simpa using this)
      split at hr
      · rename_i fs hu hc
        simp only [Bool.and_eq_true, decide_eq_true_eq, Bool.not_eq_true'] at hc
        obtain ⟨⟨c1, c2⟩, c3⟩ := hc
        rw [← hal] at c1 hr
        rw [← hbl] at c2 hr
        obtain ⟨u1, u2, p1, p2, p3⟩ := eqVals_run (P := P) w 9992 8 t a b 0 r (by rw [List.drop_zero, List.drop_zero, List.take_of_length_le (by omega), List.take_of_length_le (by omega)]; exact hr)
        rw [part_agg w hu] at p1 p2
        have ea : a.extract 0 (0 + P.cellsOf t) = a := by simp at c1; simp [← c1]
        have eb : b.extract 0 (0 + P.cellsOf t) = b := by simp at c2; simp [← c2]
        rw [ea] at p1
        rw [eb] at p2
        injection p1 with p1
        injection p2 with p2
        subst p1
        subst p2
        have hg := run_eqGuard_agg (P := P) w op t x y a b c3
        rcases hop with ⟨rfl, rfl⟩ | ⟨rfl, rfl⟩
        · refine ⟨.bool r, ?_, .g (.bool _)⟩
          simp only [execOp, ho, e1, e2, Sem.run_bind, hg, Result.andThen_ok, run_eql_struct, p3, Sem.run_pure]
        · refine ⟨.bool (!r), ?_, .g (.bool _)⟩
          simp only [execOp, ho, e1, e2, Sem.run_bind, hg, Result.andThen_ok, run_neq_struct, p3, Sem.run_pure]
      · cases hr
    · cases hr
variable {ops : Array Oper} {K : List Tr → Sg → Prop} {k : Nat} {σ : Sg}
theorem At.eqA {t u d : Nat} {op : BinOp} {x y : Operand} {X Y : List V} (r : Bool) (hg : goes ops σ k = true) (ho : opd (opAt ops k) = (.binOp op t x y u, some d)) (hn : Nat.blt d N.n = true) (hv : [σ.ev x, σ.ev y] = [.agg X, .agg Y]) (hr : eqTop P t X Y = some r) (v : V) (hop : (op = .eql ∧ v = .bool r) ∨ (op = .neq ∧ v = .bool (!r)))
    (h : At P N ops (k + 1) (σ.puts [.t d v]) (fun t s => K (⟨(gpOf ops σ (opAt ops k)).getD [] ++ (opw x (.agg X) ++ opw y (.agg Y)), [.t d v]⟩ :: t) s)) : At P N ops k σ K := by
  simp only [List.cons.injEq, and_true] at hv
  exact At.step2 hg ⟨ok_eqA (opd1 ho) (opd2 ho) (by simpa using hn) hv.1 hv.2 hr hop, has2 (opw_has hv.1) (opw_has hv.2)⟩ h
theorem At.eqB {t u d : Nat} {op : BinOp} {x y : Operand} {a b : Bool} (hg : goes ops σ k = true) (ho : opd (opAt ops k) = (.binOp op t x y u, some d)) (hn : Nat.blt d N.n = true) (hu : P.underlying t = some .bool) (hv : [σ.ev x, σ.ev y] = [.bool a, .bool b]) (v : V) (hop : (op = .eql ∧ v = .bool (a == b)) ∨ (op = .neq ∧ v = .bool (!(a == b))))
    (h : At P N ops (k + 1) (σ.puts [.t d v]) (fun t s => K (⟨(gpOf ops σ (opAt ops k)).getD [] ++ (opw x (.bool a) ++ opw y (.bool b)), [.t d v]⟩ :: t) s)) : At P N ops k σ K := by
  simp only [List.cons.injEq, and_true] at hv
  exact At.step2 hg ⟨ok_binB hu (opd1 ho) (opd2 ho) (by simpa using hn) hv.1 hv.2 hop, has2 (opw_has hv.1) (opw_has hv.2)⟩ h
theorem ok_mm {o : Oper} {b : Builtin} {x y : Operand} {ats : Array TypeId} {d : Nat} {σ : Sg} {q : IntKind} {m n r : Int} (ho : o.op = .call { callee := .builtin b, args := #[x, y], argTypes := ats }) (hd : o.dst = some d) (hn : d < N.n)
    (hx : σ.ev x = .int q m) (hy : σ.ev y = .int q n) (hr : (b = .min ∧ r = if n < m then n else m) ∨ (b = .max ∧ r = if n > m then n else m)) : CoreOk P N o (opw x (.int q m) ++ opw y (.int q n)) [.t d (.int q r)] :=
  val_ok hd hn fun G w σ' ac H he hp => by
    obtain ⟨hp1, hp2⟩ := has_append.1 hp
    have h1 := he x
    rw [opw_ev hx hp1] at h1
    have h2 := he y
    rw [opw_ev hy hp2] at h2
    have e1 := Rep.inv_int h1
    have e2 := Rep.inv_int h2
    refine ⟨.int q r, ?_, .g (.int _ _)⟩
    rcases hr with ⟨rfl, rfl⟩ | ⟨rfl, rfl⟩
    · simp [execOp, ho, resolve, invoke, builtin, Builtin.min_, Builtin.min2, e1, e2]
    · simp [execOp, ho, resolve, invoke, builtin, Builtin.max_, Builtin.max2, e1, e2]
theorem At.mm {d : Nat} {b : Builtin} {x y : Operand} {ats : Array TypeId} {q : IntKind} {m n : Int} (r : Int) (hg : goes ops σ k = true) (ho : opd (opAt ops k) = (.call { callee := .builtin b, args := #[x, y], argTypes := ats }, some d)) (hn : Nat.blt d N.n = true) (hv : [σ.ev x, σ.ev y] = [.int q m, .int q n]) (hr : (b = .min ∧ r = if n < m then n else m) ∨ (b = .max ∧ r = if n > m then n else m))
    (h : At P N ops (k + 1) (σ.puts [.t d (.int q r)]) (fun t s => K (⟨(gpOf ops σ (opAt ops k)).getD [] ++ (opw x (.int q m) ++ opw y (.int q n)), [.t d (.int q r)]⟩ :: t) s)) : At P N ops k σ K := by
  simp only [List.cons.injEq, and_true] at hv
  exact At.step2 hg ⟨ok_mm (opd1 ho) (opd2 ho) (by simpa using hn) hv.1 hv.2 hr, has2 (opw_has hv.1) (opw_has hv.2)⟩ h
end
end Go.Sy

