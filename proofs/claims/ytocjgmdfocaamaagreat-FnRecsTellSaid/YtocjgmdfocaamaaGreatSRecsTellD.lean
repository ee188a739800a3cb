/- The rules of single operations, part 1: slots, numbers, boxes. -/
import Derived.Test.YtocjgmdfocaamaaGreatSRecsTellC
import Derived.Laws.Small
import Derived.Laws.StructEq
import Derived.Laws.Cover3
set_option linter.unusedVariables false
set_option linter.unusedSimpArgs false
namespace Go.Sy
section
variable (P : Program) (N : Cx) (ops : Array Oper)
def CoreOk (o : Oper) (pre post : List W) : Prop :=
  ∀ G0 w0 σ a w, St G0 w0 N σ a w → σ.has pre → ∀ Q K, (∀ a' w', St G0 w0 N (σ.puts post) a' w' → K a' w') → o.wp P a w K Q
def guardPre (o : Oper) : Option (List W) :=
  match o.guard with
  | none => some []
  | some (j, b) => match ((ops[j]?).bind (·.dst) : Option Tmp) with
    | some t => some [.t t (.bool b)]
    | none => none
end
section
variable {P : Program} {N : Cx} {ops : Array Oper}
theorem has_append {σ : Sg} : ∀ {a b : List W}, σ.has (a ++ b) ↔ σ.has a ∧ σ.has b
  | [], b => by simp [Sg.has]
  | x :: a, b => by simp [Sg.has, has_append (a := a), and_assoc]
theorem puts_append : ∀ (a b : List W) (σ : Sg), σ.puts (a ++ b) = (σ.puts a).puts b
  | [], b, σ => rfl
  | x :: a, b, σ => by simp [Sg.puts, puts_append a b]
theorem getD_set (x : Array Value) (d t : Nat) (v e : Value) (h : d < x.size) : (x.setIfInBounds d v).getD t e = if t = d then v else x.getD t e := by
  simp only [Array.getD_eq_getD_getElem?, Array.getElem?_setIfInBounds]
  by_cases ht : t = d
  · subst ht; simp [h]
  · simp [ht, Ne.symm ht]
theorem guard_wanted {o : Oper} {gp : List W} (hg : guardPre ops o = some gp) {G : Gh} {w : World} {σ : Sg} {a : Act} (ht : ∀ t, G.Rep w (a.tmps.getD t undef) (σ.tm t)) (hp : σ.has gp) : Region.wanted o (yielded ops a.tmps) = true := by
  unfold guardPre at hg
  unfold Region.wanted
  split at hg
  · rename_i h; rw [h]
  · rename_i j b h
    rw [h]
    split at hg
    · rename_i t hd
      obtain rfl := Option.some.inj hg
      have h1 : σ.tm t = .bool b := hp.1
      have h2 := ht t
      rw [h1] at h2
      have h3 := Rep.inv_bool h2
      have h4 : a.tmps[t]? = some (.bool b) := by
        rw [Array.getD_eq_getD_getElem?] at h3
        cases hq : a.tmps[t]? with
        | none => rw [hq] at h3; simp [undef] at h3
        | some u => rw [hq] at h3; simp at h3; rw [h3]
      simp [yielded, hd, h4]
    · cases hg
theorem TrOk.of {o : Oper} {gp pre post : List W} (hg : guardPre ops o = some gp) (h : CoreOk P N o pre post) : TrOk P N ops o ⟨gp ++ pre, post⟩ := by
  intro G0 w0 σ a w s hp Q K hK
  obtain ⟨hp1, hp2⟩ := has_append.1 hp
  unfold wpOne
  obtain ⟨G, H, ht, h1⟩ := id s
  rw [if_pos (guard_wanted hg ht hp1)]
  exact h G0 w0 σ a w s hp2 Q K hK
theorem TrOk.skip {o : Oper} {j : Nat} {b : Bool} {t d : Nat} (v : V) (hg : o.guard = some (j, b)) (hj : (ops[j]?).bind (·.dst) = some t) (hv : v = .bool (!b) ∨ v = .tup []) (hd : o.dst = some d) (hn : d < N.n) : TrOk P N ops o ⟨[.t t v], [.t d (.tup [])]⟩ := by
  intro G0 w0 σ a w s hp Q K hK
  obtain ⟨G, H, ht, h1, h2, h3, h4⟩ := id s
  have hw : Region.wanted o (yielded ops a.tmps) = false := by
    unfold Region.wanted
    rw [hg]
    have e1 : σ.tm t = v := hp.1
    have e2 := ht t
    rw [e1] at e2
    have e3 : a.tmps.getD t undef = .bool (!b) ∨ a.tmps.getD t undef = .tuple #[] := by
      rcases hv with rfl | rfl
      · exact .inl (Rep.inv_bool e2)
      · obtain ⟨u, e, hs, _⟩ := Rep.inv_tup e2
        obtain rfl : u = #[] := Array.eq_empty_of_size_eq_zero (by simpa using hs)
        exact .inr e
    simp only [yielded, hj, Option.bind_some]
    rw [Array.getD_eq_getD_getElem?] at e3
    cases hq : a.tmps[t]? with
    | none => simp
    | some u =>
      rw [hq] at e3
      simp only [Option.getD_some] at e3
      rcases e3 with rfl | rfl
      · cases b <;> simp
      · simp
  unfold wpOne
  rw [hw]
  refine hK _ _ ⟨G, H, fun k => ?_, ?_, ?_, h3, h4⟩
  · simp only [Act.put, hd]
    rw [getD_set _ _ _ _ _ (by rw [h1]; exact hn)]
    show G.Rep w _ (if k = d then _ else _)
    split
    · exact .tup #[] [] rfl (fun j x hx => by simp at hx)
    · exact ht k
  · simp [Act.put, hd, h1]
  · simp [Act.put, hd, h2]
theorem eff_ok {o : Oper} {pre wo : List W} {d : Nat} {x : V} (hd : o.dst = some d) (hn : d < N.n) (hwo : ∀ y ∈ wo, ∃ k z, y = W.o k z)
    (h : ∀ (G : Gh) (w : World) (σ : Sg) (a : Act), Hold G w σ.ob → (∀ t, G.Rep w (a.tmps.getD t undef) (σ.tm t)) → (∀ y, G.Rep w (a.eval y) (σ.ev y)) → σ.has pre → ∃ v w' G', (execOp a.eval o).run P w = .ok (.value v) w' ∧ Hold G' w' (σ.puts wo).ob ∧ Fr G w G' w' ∧ G'.Rep w' v x) : CoreOk P N o pre (wo ++ [.t d x]) := by
  intro G0 w0 σ a w s hp Q K hK
  obtain ⟨G, H, ht, h1, h2, h3, h4⟩ := s
  obtain ⟨v, w', G', e, H', f, hr⟩ := h G w σ a H ht (fun y => St.ev (G0 := G0) (w0 := w0) ht y) hp
  unfold Oper.wp
  rw [e]
  refine hK _ _ ?_
  have htm : (σ.puts wo).tm = σ.tm := by
    clear H' h hp H ht hK
    induction wo generalizing σ with
    | nil => rfl
    | cons y l ih =>
      obtain ⟨k, z, rfl⟩ := hwo _ List.mem_cons_self
      simp only [Sg.puts]
      rw [ih (fun y hy => hwo y (List.mem_cons_of_mem _ hy))]
      rfl
  rw [puts_append]
  refine ⟨G', H', fun k => ?_, ?_, ?_, h3.trans f, h4⟩
  · simp only [Act.put, hd]
    rw [getD_set _ _ _ _ _ (by rw [h1]; exact hn)]
    show G'.Rep w' _ (if k = d then _ else (σ.puts wo).tm k)
    split
    · exact hr
    · rw [htm]; exact (ht k).fr H f
  · simp [Act.put, hd, h1]
  · simp [Act.put, hd, h2]
theorem val_ok {o : Oper} {pre : List W} {d : Nat} {x : V} (hd : o.dst = some d) (hn : d < N.n)
    (h : ∀ (G : Gh) (w : World) (σ : Sg) (a : Act), Hold G w σ.ob → (∀ y, G.Rep w (a.eval y) (σ.ev y)) → σ.has pre → ∃ v, (execOp a.eval o).run P w = .ok (.value v) w ∧ G.Rep w v x) : CoreOk P N o pre [.t d x] :=
  eff_ok (wo := []) hd hn (fun _ h => by simp at h) fun G w σ a H _ he hp =>
    let ⟨v, e, r⟩ := h G w σ a H he hp
    ⟨v, w, G, e, H, Fr.refl G w, r⟩
theorem sto_ok {o : Oper} {pre wo : List W} (hd : o.dst = none) (hwo : ∀ y ∈ wo, ∃ k z, y = W.o k z)
    (h : ∀ (G : Gh) (w : World) (σ : Sg) (a : Act), Hold G w σ.ob → (∀ y, G.Rep w (a.eval y) (σ.ev y)) → σ.has pre → ∃ w' G', (execOp a.eval o).run P w = .ok .skip w' ∧ Hold G' w' (σ.puts wo).ob ∧ Fr G w G' w') : CoreOk P N o pre wo := by
  intro G0 w0 σ a w s hp Q K hK
  obtain ⟨G, H, ht, h1, h2, h3, h4⟩ := s
  obtain ⟨w', G', e, H', f⟩ := h G w σ a H (fun y => St.ev (G0 := G0) (w0 := w0) ht y) hp
  unfold Oper.wp
  rw [e]
  refine hK _ _ ?_
  have htm : (σ.puts wo).tm = σ.tm := by
    clear H' h hp H ht hK
    induction wo generalizing σ with
    | nil => rfl
    | cons y l ih =>
      obtain ⟨k, z, rfl⟩ := hwo _ List.mem_cons_self
      simp only [Sg.puts]
      rw [ih (fun y hy => hwo y (List.mem_cons_of_mem _ hy))]
      rfl
  refine ⟨G', H', fun k => ?_, ?_, ?_, h3.trans f, h4⟩
  · simp only [Act.put, hd]
    rw [htm]; exact (ht k).fr H f
  · simp [Act.put, hd, h1]
  · simp [Act.put, hd, h2]
def opw (x : Operand) (v : V) : List W :=
  match x with
  | .tmp t => [.t t v]
  | _ => []
theorem opw_ev {σ σ' : Sg} {x : Operand} {v : V} (hv : σ.ev x = v) (h : σ'.has (opw x v)) : σ'.ev x = v := by
  subst hv
  cases x with
  | tmp t => exact h.1
  | const v => rfl
  | func f => rfl
  | global g => rfl
theorem opw_has {σ : Sg} {x : Operand} {v : V} (hv : σ.ev x = v) : σ.has (opw x v) := by
  subst hv
  cases x <;> simp [opw, Sg.has, Sg.has1, Sg.ev]
theorem ok_move {o : Oper} {x : Operand} {d : Nat} {σ : Sg} {v : V} (ho : o.op = .move x ∨ o.op = .assign x) (hd : o.dst = some d) (hn : d < N.n) (hv : σ.ev x = v) : CoreOk P N o (opw x v) [.t d v] :=
  val_ok hd hn fun G w σ' a H he hp => ⟨a.eval x, by rcases ho with ho | ho <;> simp [execOp, ho], by have := he x; rwa [opw_ev hv hp] at this⟩
theorem ok_pick {o : Oper} {c x y : Operand} {d : Nat} {σ : Sg} {b : Bool} {v : V} (ho : o.op = .pick c x y) (hd : o.dst = some d) (hn : d < N.n) (hc : σ.ev c = .bool b) (hv : σ.ev (if b = true then x else y) = v) : CoreOk P N o (opw c (.bool b) ++ opw (if b = true then x else y) v) [.t d v] :=
  val_ok hd hn fun G w σ' a H he hp => by
    obtain ⟨hp1, hp2⟩ := has_append.1 hp
    have h1 := he c
    rw [opw_ev hc hp1] at h1
    refine ⟨a.eval (if b = true then x else y), ?_, by have := he (if b = true then x else y); rwa [opw_ev hv hp2] at this⟩
    simp only [execOp, ho, Rep.inv_bool h1, asBool]
    cases b <;> simp
theorem ok_extract {o : Oper} {x : Operand} {d i : Nat} {σ : Sg} {vs : List V} {v : V} (ho : o.op = .extract x i) (hd : o.dst = some d) (hn : d < N.n) (hx : σ.ev x = .tup vs) (hv : vs[i]? = some v) : CoreOk P N o (opw x (.tup vs)) [.t d v] :=
  val_ok hd hn fun G w σ' a H he hp => by
    have h1 := he x
    rw [opw_ev hx hp] at h1
    obtain ⟨t, e, hs, hr⟩ := Rep.inv_tup h1
    have hi : i < t.size := by rw [hs]; exact (List.getElem?_eq_some_iff.1 hv).1
    refine ⟨t.getD i undef, ?_, hr i v hv⟩
    simp [execOp, ho, e, Instr.extract, Array.getD, hi]
theorem ok_not {o : Oper} {x : Operand} {t : TypeId} {d : Nat} {σ : Sg} {b : Bool} (ho : o.op = .unOp .not t x) (hd : o.dst = some d) (hn : d < N.n) (hx : σ.ev x = .bool b) : CoreOk P N o (opw x (.bool b)) [.t d (.bool (!b))] :=
  val_ok hd hn fun G w σ' a H he hp => by
    have h1 := he x
    rw [opw_ev hx hp] at h1
    exact ⟨.bool (!b), by simp [execOp, ho, Rep.inv_bool h1, Op.unary], .g (.bool _)⟩
def isAddr : V → Bool
  | .ptr .. | .vp .. => true
  | _ => false
theorem RepG.inv_vp {w : World} {I J : Nat → Prop} {v : Value} {p : Bool} {es : Nat} {xs : List V} {k off : Nat} (h : RepG w I J v (.vp p es xs k off)) : ∃ ad : Addr, v = .pointer (some (ad.add (k * es + off))) ∧ ∀ k' off', RepG w I J (.pointer (some (ad.add (k' * es + off')))) (.vp p es xs k' off') := by
  cases h with
  | vp ad _ _ _ _ _ u hp hl hu ho hq hr => exact ⟨ad, rfl, fun k' off' => .vp ad p es xs k' off' u hp hl hu ho hq hr⟩
theorem ok_nilCheck {o : Oper} {x : Operand} {d : Nat} {σ : Sg} {v : V} (ho : o.op = .nilCheck x) (hd : o.dst = some d) (hn : d < N.n) (hx : σ.ev x = v) (hv : isAddr v = true) : CoreOk P N o (opw x v) [.t d v] :=
  val_ok hd hn fun G w σ' a H he hp => by
    have h1 := he x
    rw [opw_ev hx hp] at h1
    have : ∃ ad, a.eval x = .pointer (some ad) := by
      cases v <;> simp [isAddr] at hv
      · obtain ⟨r, g, _, _, e⟩ := Rep.inv_ptr h1
        exact ⟨_, e⟩
      · obtain ⟨ad, e, _⟩ := RepG.inv_vp (Rep.inv_vp h1)
        exact ⟨_, e⟩
    obtain ⟨ad, e⟩ := this
    exact ⟨a.eval x, by simp [execOp, ho, e], h1⟩
def szOf (P : Program) (t : TypeId) : Option Nat := (P.info? t).map (·.size)
def isA (P : Program) (t : TypeId) : Option Bool :=
  match P.underlying t with
  | some (.struct _) | some (.array _ _) => some true
  | some _ => some false
  | none => none
theorem run_sz {t : TypeId} {n : Nat} (h : szOf P t = some n) (w : World) : (sizeOf t).run P w = .ok n w := by
  unfold szOf at h
  obtain ⟨i, h1, h2⟩ := Option.map_eq_some_iff.1 h
  simp [sizeOf, typeInfo, h1, h2]
theorem run_isA {t : TypeId} {b : Bool} (h : isA P t = some b) (w : World) : (isAgg t).run P w = .ok b w := by
  unfold isA at h
  cases hu : P.underlying t with
  | none => simp [hu] at h
  | some d =>
    unfold isAgg
    rw [Sem.run_bind, run_underlying hu w]
    cases d <;> simp_all
def fieldOff (P : Program) (s f : Nat) : Option Nat :=
  match P.underlying s with
  | some (.struct fields) => match (fields[f]? : Option Field) with
    | some fl => match szOf P fl.type with
      | some (n + 1) => some fl.offset
      | _ => none
    | none => none
  | _ => none
theorem run_field {s f off : Nat} (h : fieldOff P s f = some off) (w : World) (ad : Addr) : (Instr.fieldAt s (.pointer (some ad)) f).run P w = .ok (.pointer (some (ad.add off))) w := by
  unfold fieldOff at h
  split at h
  · rename_i fields hu
    split at h
    · rename_i fl hf
      split at h
      · rename_i n hs
        obtain rfl := Option.some.inj h
        simp [Instr.fieldAt, run_underlying hu, hf, Instr.sureAddr, fieldPlace, run_sz hs]
      · cases h
    · cases h
  · cases h
theorem add_lit (g o n : Nat) : (⟨g, o, none⟩ : Addr).add n = ⟨g, o + n, none⟩ := by unfold Addr.add; split <;> simp_all
theorem add_add (ad : Addr) (a b : Nat) : (ad.add a).add b = ad.add (a + b) := by
  unfold Addr.add
  by_cases h1 : a = 0 <;> by_cases h2 : b = 0 <;> simp [h1, h2, Nat.add_assoc]
def fieldV : V → Nat → Option V
  | .ptr i k o, off => some (.ptr i k (o + off))
  | .vp p es xs k o, off => some (.vp p es xs k (o + off))
  | _, _ => none
theorem ok_field {o : Oper} {x : Operand} {s f d off : Nat} {σ : Sg} {v v' : V} (ho : o.op = .fieldAddr s x f) (hd : o.dst = some d) (hn : d < N.n) (hx : σ.ev x = v) (hf : fieldOff P s f = some off) (hv : fieldV v off = some v') : CoreOk P N o (opw x v) [.t d v'] :=
  val_ok hd hn fun G w σ' a H he hp => by
    have h1 := he x
    rw [opw_ev hx hp] at h1
    cases v <;> simp [fieldV] at hv
    · rename_i i k q
      subst hv
      obtain ⟨r, g, e1, e2, e⟩ := Rep.inv_ptr h1
      refine ⟨.pointer (some ((⟨g, k * r.es + q, none⟩ : Addr).add off)), by simp only [execOp, ho, e, Sem.run_bind, run_field hf, Result.andThen_ok, Sem.run_pure], ?_⟩
      rw [add_lit, Nat.add_assoc]
      exact .ptr _ _ _ r g e1 e2
    · rename_i p es xs k q
      subst hv
      obtain ⟨ad, e, hr⟩ := RepG.inv_vp (Rep.inv_vp h1)
      refine ⟨.pointer (some ((ad.add (k * es + q)).add off)), by simp only [execOp, ho, e, Sem.run_bind, run_field hf, Result.andThen_ok, Sem.run_pure], ?_⟩
      rw [add_add, Nat.add_assoc]
      exact .g (hr _ _)
def binI (op : BinOp) (k : IntKind) (a b : Int) : Option V :=
  match op with
  | .add => some (.int k (k.wrap (a + b)))
  | .sub => some (.int k (k.wrap (a - b)))
  | .mul => some (.int k (k.wrap (a * b)))
  | .eql => some (.bool (a == b))
  | .neq => some (.bool (a != b))
  | .lss => some (.bool (decide (a < b)))
  | .leq => some (.bool (decide (a ≤ b)))
  | .gtr => some (.bool (decide (a > b)))
  | .geq => some (.bool (decide (a ≥ b)))
  | _ => none
theorem ok_binI {o : Oper} {op : BinOp} {x y : Operand} {t u : TypeId} {d : Nat} {σ : Sg} {k k' : IntKind} {a b : Int} {v : V} (ho : o.op = .binOp op t x y u) (hd : o.dst = some d) (hn : d < N.n)
    (hx : σ.ev x = .int k a) (hy : σ.ev y = .int k' b) (hk : k = k') (hv : binI op k a b = some v) : CoreOk P N o (opw x (.int k a) ++ opw y (.int k' b)) [.t d v] :=
  val_ok hd hn fun G w σ' ac H he hp => by
    subst hk
    obtain ⟨hp1, hp2⟩ := has_append.1 hp
    have h1 := he x
    rw [opw_ev hx hp1] at h1
    have h2 := he y
    rw [opw_ev hy hp2] at h2
    have e1 := Rep.inv_int h1
    have e2 := Rep.inv_int h2
    cases op <;> simp only [binI, Option.some.injEq, reduceCtorEq] at hv <;> subst hv <;> first | refine ⟨_, ?_, .g (.int _ _)⟩ | refine ⟨_, ?_, .g (.bool _)⟩
    all_goals simp [execOp, ho, e1, e2, eqGuard, binOp, Op.intArith, Op.intCmp]
theorem ok_div {o : Oper} {op : BinOp} {x y : Operand} {t u : TypeId} {d : Nat} {σ : Sg} {k k' : IntKind} {a b : Int} (ho : o.op = .binOp op t x y u) (hd : o.dst = some d) (hn : d < N.n)
    (hx : σ.ev x = .int k a) (hy : σ.ev y = .int k' b) (hk : k = k') (hb : b ≠ 0) (hop : op = .quo ∨ op = .rem) : CoreOk P N o (opw x (.int k a) ++ opw y (.int k' b)) [.t d (.int k (match op with
      | .quo => k.wrap (a.tdiv b)
      | _ => a.tmod b))] :=
  val_ok hd hn fun G w σ' ac H he hp => by
    subst hk
    obtain ⟨hp1, hp2⟩ := has_append.1 hp
    have h1 := he x
    rw [opw_ev hx hp1] at h1
    have h2 := he y
    rw [opw_ev hy hp2] at h2
    have e1 := Rep.inv_int h1
    have e2 := Rep.inv_int h2
    rcases hop with rfl | rfl
    · exact ⟨.int k (k.wrap (a.tdiv b)), by simp [execOp, ho, e1, e2, eqGuard, binOp, Op.intDiv, if_neg hb], .g (.int _ _)⟩
    · exact ⟨.int k (a.tmod b), by simp [execOp, ho, e1, e2, eqGuard, binOp, Op.intDiv, if_neg hb], .g (.int _ _)⟩
def binS (op : BinOp) (a b : ByteArray) : Option V :=
  match op with
  | .eql => some (.bool (a.toList == b.toList))
  | .neq => some (.bool (!(a.toList == b.toList)))
  | .lss => some (.bool (Op.bytesLess a.toList b.toList))
  | .leq => some (.bool (Op.bytesLess a.toList b.toList || a.toList == b.toList))
  | .gtr => some (.bool (!(Op.bytesLess a.toList b.toList || a.toList == b.toList)))
  | .geq => some (.bool (!Op.bytesLess a.toList b.toList))
  | _ => none
theorem ok_binS {o : Oper} {op : BinOp} {x y : Operand} {t u : TypeId} {d : Nat} {σ : Sg} {a b : ByteArray} {v : V} (ho : o.op = .binOp op t x y u) (hd : o.dst = some d) (hn : d < N.n)
    (hx : σ.ev x = .str a) (hy : σ.ev y = .str b) (hv : binS op a b = some v) : CoreOk P N o (opw x (.str a) ++ opw y (.str b)) [.t d v] :=
  val_ok hd hn fun G w σ' ac H he hp => by
    obtain ⟨hp1, hp2⟩ := has_append.1 hp
    have h1 := he x
    rw [opw_ev hx hp1] at h1
    have h2 := he y
    rw [opw_ev hy hp2] at h2
    have e1 := Rep.inv_str h1
    have e2 := Rep.inv_str h2
    cases op <;> simp only [binS, Option.some.injEq, reduceCtorEq] at hv <;> subst hv <;> refine ⟨_, ?_, .g (.bool _)⟩
    all_goals simp [execOp, ho, e1, e2, eqGuard, binOp, Op.stringOp]
theorem ok_cat {o : Oper} {x y : Operand} {t u : TypeId} {d : Nat} {σ : Sg} {a b : ByteArray} (ho : o.op = .binOp .add t x y u) (hd : o.dst = some d) (hn : d < N.n)
    (hx : σ.ev x = .str a) (hy : σ.ev y = .str b) (hl : a.size + b.size ≤ 9223372036854775807) : CoreOk P N o (opw x (.str a) ++ opw y (.str b)) [.t d (.str (a ++ b))] :=
  val_ok hd hn fun G w σ' ac H he hp => by
    obtain ⟨hp1, hp2⟩ := has_append.1 hp
    have h1 := he x
    rw [opw_ev hx hp1] at h1
    have h2 := he y
    rw [opw_ev hy hp2] at h2
    have e1 := Rep.inv_str h1
    have e2 := Rep.inv_str h2
    refine ⟨.string (a ++ b), ?_, .g (.str _)⟩
    have hm : ¬ (((a.size + b.size : Nat) : Int) > IntKind.i64.max) := by
      have : IntKind.i64.max = 9223372036854775807 := rfl
      omega
    simp [execOp, ho, e1, e2, eqGuard, binOp, Op.stringOp, if_neg hm]
    omega
theorem ok_binB {o : Oper} {op : BinOp} {x y : Operand} {t u : TypeId} {d : Nat} {σ : Sg} {a b : Bool} {v : V} (hu : P.underlying t = some .bool) (ho : o.op = .binOp op t x y u) (hd : o.dst = some d) (hn : d < N.n)
    (hx : σ.ev x = .bool a) (hy : σ.ev y = .bool b) (hop : (op = .eql ∧ v = .bool (a == b)) ∨ (op = .neq ∧ v = .bool (!(a == b)))) : CoreOk P N o (opw x (.bool a) ++ opw y (.bool b)) [.t d v] :=
  val_ok hd hn fun G w σ' ac H he hp => by
    obtain ⟨hp1, hp2⟩ := has_append.1 hp
    have h1 := he x
    rw [opw_ev hx hp1] at h1
    have h2 := he y
    rw [opw_ev hy hp2] at h2
    have e1 := Rep.inv_bool h1
    have e2 := Rep.inv_bool h2
    have he : (Op.equal t (.bool a) (.bool b)).run P w = .ok (a == b) w := by
      exact run_equal_bool w t a b hu
    rcases hop with ⟨rfl, rfl⟩ | ⟨rfl, rfl⟩ <;> refine ⟨_, ?_, .g (.bool _)⟩
    all_goals simp [execOp, ho, e1, e2, eqGuard, binOp, he]
theorem ok_conv {o : Oper} {x : Operand} {s t : TypeId} {d : Nat} {σ : Sg} {k k' : IntKind} {a : Int} (hs : (P.underlying s).isSome = true) (ht : P.underlying t = some (.int k')) (ho : o.op = .convert s t x) (hd : o.dst = some d) (hn : d < N.n) (hx : σ.ev x = .int k a) : CoreOk P N o (opw x (.int k a)) [.t d (.int k' (k'.wrap a))] :=
  val_ok hd hn fun G w σ' ac H he hp => by
    have h1 := he x
    rw [opw_ev hx hp] at h1
    have e1 := Rep.inv_int h1
    obtain ⟨u, hu⟩ := Option.isSome_iff_exists.1 hs
    refine ⟨.int k' (k'.wrap a), ?_, .g (.int _ _)⟩
    simp [execOp, ho, e1, convert, run_underlying hu, run_underlying ht, Conv.intToInt]
def lenV (σ : Sg) : V → Option Nat
  | .nil => some 0
  | .str s => some s.size
  | .sl _ _ xs => some xs.length
  | .sub _ _ n => some n
  | .ref i => match σ.ob i with
    | .arr _ _ xs => some xs.length
    | .holes _ _ xs _ _ => some xs.length
    | _ => none
  | _ => none
def obw (σ : Sg) : V → List W
  | .ref i => [.o i (σ.ob i)]
  | _ => []
def lenOk (v : V) (u : TypeDesc) : Bool := match v, u with
  | .str _, .string => true
  | .str _, _ => false
  | _, .slice _ => true
  | _, _ => false
theorem ok_len {o : Oper} {x : Operand} {t : TypeId} {d n : Nat} {σ : Sg} {v : V} {u : TypeDesc} (hu : P.underlying t = some u) (hk : lenOk v u = true) (ho : o.op = .call { callee := .builtin .len, args := #[x], argTypes := #[t] }) (hd : o.dst = some d) (hn : d < N.n) (hx : σ.ev x = v) (hv : lenV σ v = some n) : CoreOk P N o (opw x v ++ obw σ v) [.t d (.int .i64 n)] :=
  val_ok hd hn fun G w σ' a H he hp => by
    obtain ⟨hp1, hp2⟩ := has_append.1 hp
    have h1 := he x
    rw [opw_ev hx hp1] at h1
    refine ⟨.int .i64 n, ?_, .g (.int _ _)⟩
    have hlen : ∀ A c, a.eval x = .slice A n c → (∃ e, u = .slice e) → (execOp a.eval o).run P w = .ok (.value (.int .i64 n)) w := by
      rintro A c e ⟨el, rfl⟩
      simp [execOp, ho, resolve, invoke, builtin, Builtin.len_, e, run_underlying hu, goInt]
    have hsl : (∃ s, v = .str s) ∨ ∃ e, u = .slice e := by
      cases v <;> cases u <;> simp [lenOk] at hk <;> simp
    cases v <;> simp only [lenV, reduceCtorEq, Option.some.injEq] at hv
    · subst hv
      obtain rfl : u = .string := by cases u <;> simp [lenOk] at hk; rfl
      simp [execOp, ho, resolve, invoke, builtin, Builtin.len_, Rep.inv_str h1, run_underlying hu, goInt]
    all_goals (have hs : ∃ e, u = .slice e := by rcases hsl with ⟨s, h⟩ | h; (· cases h); (· exact h))
    · subst hv
      exact hlen none 0 (Rep.inv_nil h1) hs
    · subst hv
      have h1 := Rep.inv_sl h1
      have hev : ∃ z, a.eval x = z := ⟨_, rfl⟩
      obtain ⟨z, hev⟩ := hev
      rw [hev] at h1
      · cases h1 with
        | slE A c => exact hlen A c hev hs
        | sl ad m c _ _ _ u hm => subst hm; exact hlen _ c hev hs
    · rename_i i
      obtain ⟨r, e1, e2⟩ := Rep.inv_ref h1
      have hob : σ'.ob i = σ.ob i := hp2.1
      split at hv
      · rename_i e es xs hxs
        obtain rfl := Option.some.inj hv
        have hown := H.own i
        rw [hob, hxs] at hown
        obtain ⟨r', f1, f2, f3, _⟩ := hown
        rw [e1] at f1
        obtain rfl := Option.some.inj f1
        unfold RI.sl at e2
        split at e2
        · refine hlen none 0 ?_ hs
          rw [e2.1, ← f3, e2.2]
        · exact hlen _ _ (by rw [e2, f3]) hs
      · rename_i e es xs j hs' hxs
        obtain rfl := Option.some.inj hv
        have hown := H.own i
        rw [hob, hxs] at hown
        obtain ⟨r', _, _, _, f1, f2, f3, _⟩ := hown
        rw [e1] at f1
        obtain rfl := Option.some.inj f1
        unfold RI.sl at e2
        split at e2
        · refine hlen none 0 ?_ hs
          rw [e2.1, ← f3, e2.2]
        · exact hlen _ _ (by rw [e2, f3]) hs
      · cases hv
    · subst hv
      obtain ⟨r, e1, _, A, e, _⟩ := Rep.inv_sub h1
      exact hlen A _ e hs
end
end Go.Sy

