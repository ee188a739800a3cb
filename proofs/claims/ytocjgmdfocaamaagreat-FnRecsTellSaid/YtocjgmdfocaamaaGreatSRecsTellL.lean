/- Operations that need no word of ours, many at once; the others, one by one. -/
import Derived.Test.YtocjgmdfocaamaaGreatSRecsTellK
set_option linter.unusedVariables false
set_option linter.unusedSimpArgs false
namespace Go.Sy
def Step (P : Program) (N : Cx) (σ : Sg) (o : Oper) (pre post : List W) : Prop := CoreOk P N o pre post ∧ σ.has pre
def dstV (n : Nat) (o : Oper) (pre : List W) (x : V) : Option (List W × List W) :=
  match o.dst with
  | some d => match Nat.blt d n with
    | true => some (pre, [.t d x])
    | false => none
  | none => none
def binV (op : BinOp) (x y : Operand) (a b : V) : Option V :=
  match a with
  | .int k m => match b with
    | .int k' n => match decide (k = k') with
      | true => binI op k m n
      | false => none
    | _ => none
  | .str s => match b with
    | .str t => binS op s t
    | _ => none
  | _ => none
def autoLoad (P : Program) (n : Nat) (σ : Sg) (o : Oper) (t : TypeId) (x : Operand) : Option (List W × List W) :=
  match σ.ev x with
  | .ptr i 0 off => match σ.ob i with
    | .box tb cs => match isA P t with
      | some b => match szOf P t with
        | some m => match loadV b m off cs with
          | some v => dstV n o (opw x (.ptr i 0 off) ++ [.o i (.box tb cs)]) v
          | none => none
        | none => none
      | none => none
    | _ => none
  | _ => none
def autoStore (P : Program) (σ : Sg) (o : Oper) (t : TypeId) (x y : Operand) : Option (List W × List W) :=
  match o.dst with
  | some _ => none
  | none => match σ.ev x with
    | .ptr i 0 off => match σ.ob i with
      | .box tb cs => match cellsV (σ.ev y) with
        | some ys => match szOf P t with
          | some m => match decide (ys.length = m) with
            | true => match storeV off ys cs with
              | some cs' => some (opw x (.ptr i 0 off) ++ opw y (σ.ev y) ++ [.o i (.box tb cs)], [.o i (.box tb cs')])
              | none => none
            | false => none
          | none => none
        | none => none
      | _ => none
    | _ => none
def autoCall (P : Program) (n : Nat) (σ : Sg) (o : Oper) (c : Call) : Option (List W × List W) :=
  match c.callee with
  | .builtin .len => match c.args.toList with
    | [x] => match c.argTypes.toList with
      | [t] => match P.underlying t with
        | some u => match lenOk (σ.ev x) u with
          | true => match lenV σ (σ.ev x) with
            | some m => dstV n o (opw x (σ.ev x) ++ obw σ (σ.ev x)) (.int .i64 m)
            | none => none
          | false => none
        | none => none
      | _ => none
    | _ => none
  | _ => none
def auto (P : Program) (n : Nat) (σ : Sg) (o : Oper) : Option (List W × List W) :=
  match o.op with
  | .move x => dstV n o (opw x (σ.ev x)) (σ.ev x)
  | .assign x => dstV n o (opw x (σ.ev x)) (σ.ev x)
  | .pick c x y => match σ.ev c with
    | .bool true => dstV n o (opw c (.bool true) ++ opw x (σ.ev x)) (σ.ev x)
    | .bool false => dstV n o (opw c (.bool false) ++ opw y (σ.ev y)) (σ.ev y)
    | _ => none
  | .extract x i => match σ.ev x with
    | .tup vs => match vs[i]? with
      | some v => dstV n o (opw x (.tup vs)) v
      | none => none
    | _ => none
  | .unOp .not t x => match σ.ev x with
    | .bool b => dstV n o (opw x (.bool b)) (.bool (!b))
    | _ => none
  | .nilCheck x => match isAddr (σ.ev x) with
    | true => dstV n o (opw x (σ.ev x)) (σ.ev x)
    | false => none
  | .fieldAddr s x f => match fieldOff P s f with
    | some off => match fieldV (σ.ev x) off with
      | some v => dstV n o (opw x (σ.ev x)) v
      | none => none
    | none => none
  | .load t x => autoLoad P n σ o t x
  | .store t x y => autoStore P σ o t x y
  | .binOp op t x y u => match binV op x y (σ.ev x) (σ.ev y) with
    | some v => dstV n o (opw x (σ.ev x) ++ opw y (σ.ev y)) v
    | none => none
  | .box t x => match cellsV (σ.ev x) with
    | some cs => match o.dst with
      | some d => match Nat.blt d n with
        | true => match σ.ob (100 + d) with
          | .free => some (opw x (σ.ev x) ++ [.o (100 + d) .free], [.o (100 + d) (.box t cs)] ++ [.t d (.ptr (100 + d) 0 0)])
          | _ => none
        | false => none
      | none => none
    | none => none
  | .alloc t => match zeroCs P t with
    | some cs => match o.dst with
      | some d => match Nat.blt d n with
        | true => match σ.ob (100 + d) with
          | .free => some ([.o (100 + d) .free], [.o (100 + d) (.box t cs)] ++ [.t d (.ptr (100 + d) 0 0)])
          | _ => none
        | false => none
      | none => none
    | none => none
  | .build t parts => match zeroCs P t with
    | some zs => match placesOf P t with
      | some places => match fillV (places[·]?) zs (partsEv σ parts.toList) with
        | some cs => dstV n o (partsW parts.toList (partsEv σ parts.toList)) (.agg cs)
        | none => none
      | none => none
    | none => none
  | .call c => autoCall P n σ o c
  | _ => none
section
variable {P : Program} {N : Cx} {ops : Array Oper}
theorem dstV_of {n : Nat} {o : Oper} {pre pre' post : List W} {x : V} (h : dstV n o pre x = some (pre', post)) : ∃ d, o.dst = some d ∧ d < n ∧ pre' = pre ∧ post = [.t d x] := by
  unfold dstV at h
  split at h
  · rename_i d hd
    split at h
    · rename_i hb
      simp only [Option.some.injEq, Prod.mk.injEq] at h
      exact ⟨d, hd, by simpa using hb, h.1.symm, h.2.symm⟩
    · cases h
  · cases h
theorem has2 {σ : Sg} {a b : List W} (h1 : σ.has a) (h2 : σ.has b) : σ.has (a ++ b) := has_append.2 ⟨h1, h2⟩
theorem auto_step {σ : Sg} {o : Oper} {pre post : List W} (h : auto P N.n σ o = some (pre, post)) : Step P N σ o pre post := by
  unfold auto at h
  split at h
  · rename_i x ho
    obtain ⟨d, hd, hn, rfl, rfl⟩ := dstV_of h
    exact ⟨ok_move (.inl ho) hd hn rfl, opw_has rfl⟩
  · rename_i x ho
    obtain ⟨d, hd, hn, rfl, rfl⟩ := dstV_of h
    exact ⟨ok_move (.inr ho) hd hn rfl, opw_has rfl⟩
  · rename_i c x y ho
    split at h
    · rename_i hc
      obtain ⟨d, hd, hn, rfl, rfl⟩ := dstV_of h
      exact ⟨ok_pick (b := true) ho hd hn hc rfl, has2 (opw_has hc) (opw_has rfl)⟩
    · rename_i hc
      obtain ⟨d, hd, hn, rfl, rfl⟩ := dstV_of h
      exact ⟨ok_pick (b := false) ho hd hn hc rfl, has2 (opw_has hc) (opw_has rfl)⟩
    · cases h
  · rename_i x i ho
    split at h
    · rename_i vs hx
      split at h
      · rename_i v hv
        obtain ⟨d, hd, hn, rfl, rfl⟩ := dstV_of h
        exact ⟨ok_extract ho hd hn hx hv, opw_has hx⟩
      · cases h
    · cases h
  · rename_i t x ho
    split at h
    · rename_i b hx
      obtain ⟨d, hd, hn, rfl, rfl⟩ := dstV_of h
      exact ⟨ok_not ho hd hn hx, opw_has hx⟩
    · cases h
  · rename_i x ho
    split at h
    · rename_i hx
      obtain ⟨d, hd, hn, rfl, rfl⟩ := dstV_of h
      exact ⟨ok_nilCheck ho hd hn rfl hx, opw_has rfl⟩
    · cases h
  · rename_i s x f ho
    split at h
    · rename_i off hf
      split at h
      · rename_i v hv
        obtain ⟨d, hd, hn, rfl, rfl⟩ := dstV_of h
        exact ⟨ok_field ho hd hn rfl hf hv, opw_has rfl⟩
      · cases h
    · cases h
  · rename_i t x ho
    unfold autoLoad at h
    split at h
    · rename_i i off hx
      split at h
      · rename_i tb cs hob
        split at h
        · rename_i b hA
          split at h
          · rename_i m hs
            split at h
            · rename_i v hv
              obtain ⟨d, hd, hn, rfl, rfl⟩ := dstV_of h
              exact ⟨ok_load ho hd hn hx hob hA hs hv, has2 (opw_has hx) ⟨hob, trivial⟩⟩
            · cases h
          · cases h
        · cases h
      · cases h
    · cases h
  · rename_i t x y ho
    unfold autoStore at h
    split at h
    · cases h
    · rename_i hd
      split at h
      · rename_i i off hx
        split at h
        · rename_i tb cs hob
          split at h
          · rename_i ys hys
            split at h
            · rename_i m hs
              split at h
              · rename_i hm
                split at h
                · rename_i cs' hv
                  simp only [Option.some.injEq, Prod.mk.injEq] at h
                  obtain ⟨rfl, rfl⟩ := h
                  exact ⟨ok_store ho hd hx rfl hob hs hys (by simpa using hm) hv, has2 (has2 (opw_has hx) (opw_has rfl)) ⟨hob, trivial⟩⟩
                · cases h
              · cases h
            · cases h
          · cases h
        · cases h
      · cases h
  · rename_i op t x y u ho
    split at h
    · rename_i v hv
      obtain ⟨d, hd, hn, rfl, rfl⟩ := dstV_of h
      refine ⟨?_, has2 (opw_has rfl) (opw_has rfl)⟩
      unfold binV at hv
      split at hv
      · rename_i k a hx
        split at hv
        · rename_i k' b hy
          split at hv
          · rename_i hk
            rw [hx, hy]
            exact ok_binI ho hd hn hx hy (by simpa using hk) hv
          · cases hv
        · cases hv
      · rename_i s hx
        split at hv
        · rename_i s' hy
          rw [hx, hy]
          exact ok_binS ho hd hn hx hy hv
        · cases hv
      · cases hv
    · cases h
  · rename_i t x ho
    split at h
    · rename_i cs hc
      split at h
      · rename_i d hd
        split at h
        · rename_i hn
          split at h
          · rename_i hf
            simp only [Option.some.injEq, Prod.mk.injEq] at h
            obtain ⟨rfl, rfl⟩ := h
            exact ⟨ok_box ho hd (by simpa using hn) rfl hc, has2 (opw_has rfl) ⟨hf, trivial⟩⟩
          · cases h
        · cases h
      · cases h
    · cases h
  · rename_i t ho
    split at h
    · rename_i cs hc
      split at h
      · rename_i d hd
        split at h
        · rename_i hn
          split at h
          · rename_i hf
            simp only [Option.some.injEq, Prod.mk.injEq] at h
            obtain ⟨rfl, rfl⟩ := h
            exact ⟨ok_alloc ho hd (by simpa using hn) hc, ⟨hf, trivial⟩⟩
          · cases h
        · cases h
      · cases h
    · cases h
  · rename_i t parts ho
    split at h
    · rename_i zs hz
      split at h
      · rename_i places hp
        split at h
        · rename_i cs hf
          obtain ⟨d, hd, hn, rfl, rfl⟩ := dstV_of h
          exact ⟨ok_build ho hd hn rfl hz hp hf, partsW_has σ _⟩
        · cases h
      · cases h
    · cases h
  · rename_i c ho
    unfold autoCall at h
    split at h
    · rename_i hcal
      split at h
      · rename_i x hx
        split at h
        · rename_i t ht
          split at h
          · rename_i u hu
            split at h
            · rename_i hk
              split at h
              · rename_i m hm
                obtain ⟨d, hd, hn, rfl, rfl⟩ := dstV_of h
                have hc : c = { callee := .builtin .len, args := #[x], argTypes := #[t] } := by
                  obtain ⟨c1, c2, c3⟩ := c
                  simp only at hcal hx ht
                  subst hcal
                  congr 1
                  · rw [← Array.toList_inj, hx]
                  · rw [← Array.toList_inj, ht]
                rw [hc] at ho
                refine ⟨ok_len hu hk ho hd hn rfl hm, has2 (opw_has rfl) ?_⟩
                unfold obw
                split
                · exact ⟨rfl, trivial⟩
                · trivial
              · cases h
            · cases h
          · cases h
        · cases h
      · cases h
    · cases h
  · cases h
def stepG (P : Program) (n : Nat) (ops : Array Oper) (σ : Sg) (o : Oper) : Option Tr :=
  match o.guard with
  | none => match auto P n σ o with
    | some (pre, post) => some ⟨pre, post⟩
    | none => none
  | some (j, b) => match ((ops[j]?).bind (·.dst) : Option Tmp) with
    | some t => match skips (σ.tm t) b with
      | some true => match o.dst with
        | some d => match Nat.blt d n with
          | true => some ⟨[.t t (σ.tm t)], [.t d (.tup [])]⟩
          | false => none
        | none => none
      | some false => match auto P n σ o with
        | some (pre, post) => some ⟨[.t t (.bool b)] ++ pre, post⟩
        | none => none
      | none => none
    | none => none
where
  skips : V → Bool → Option Bool
    | .bool true, true => some false
    | .bool false, false => some false
    | .bool true, false => some true
    | .bool false, true => some true
    | .tup [], _ => some true
    | _, _ => none
theorem skips_true {v : V} {b : Bool} (h : stepG.skips v b = some true) : v = .bool (!b) ∨ v = .tup [] := by
  unfold stepG.skips at h
  split at h <;> simp_all
theorem skips_false {v : V} {b : Bool} (h : stepG.skips v b = some false) : v = .bool b := by
  unfold stepG.skips at h
  split at h <;> simp_all
theorem stepG_ok {σ : Sg} {o : Oper} {tr : Tr} (h : stepG P N.n ops σ o = some tr) : TrOk P N ops o tr ∧ σ.has tr.pre := by
  unfold stepG at h
  split at h
  · rename_i hg
    split at h
    · rename_i pre post ha
      obtain rfl := Option.some.inj h
      obtain ⟨h1, h2⟩ := auto_step ha
      exact ⟨TrOk.of (gp := []) (by simp [guardPre, hg]) h1, h2⟩
    · cases h
  · rename_i j b hg
    split at h
    · rename_i t hj
      split at h
      · rename_i hs
        split at h
        · rename_i d hd
          split at h
          · rename_i hn
            obtain rfl := Option.some.inj h
            exact ⟨TrOk.skip (σ.tm t) hg hj (skips_true hs) hd (by simpa using hn), ⟨rfl, trivial⟩⟩
          · cases h
        · cases h
      · rename_i hs
        split at h
        · rename_i pre post ha
          obtain rfl := Option.some.inj h
          obtain ⟨h1, h2⟩ := auto_step ha
          have htm : σ.tm t = .bool b := skips_false hs
          exact ⟨TrOk.of (gp := [.t t (.bool b)]) (by simp [guardPre, hg, hj]) h1, has2 ⟨htm, trivial⟩ h2⟩
        · cases h
      · cases h
    · cases h
def goAuto (P : Program) (n : Nat) (ops : Array Oper) : Nat → Sg → List Oper → Option (List Tr × Sg)
  | 0, σ, _ => some ([], σ)
  | k + 1, σ, o :: l => match stepG P n ops σ o with
    | some tr => match goAuto P n ops k (σ.puts tr.post) l with
      | some (trs, σ') => some (tr :: trs, σ')
      | none => none
    | none => none
  | _ + 1, _, [] => none
theorem goAuto_run {K : List Tr → Sg → Prop} : ∀ (k : Nat) (σ : Sg) (l : List Oper) (trs : List Tr) (σ' : Sg), goAuto P N.n ops k σ l = some (trs, σ') → Run P N ops (l.drop k) σ' (fun t s => K (trs ++ t) s) → Run P N ops l σ K
  | 0, σ, l, trs, σ', h, r => by
    simp only [goAuto, Option.some.injEq, Prod.mk.injEq] at h
    obtain ⟨rfl, rfl⟩ := h
    simpa using r
  | k + 1, σ, [], trs, σ', h, r => by simp [goAuto] at h
  | k + 1, σ, o :: l, trs, σ', h, r => by
    simp only [goAuto] at h
    split at h
    · rename_i tr htr
      split at h
      · rename_i trs' σ'' h'
        simp only [Option.some.injEq, Prod.mk.injEq] at h
        obtain ⟨rfl, rfl⟩ := h
        obtain ⟨h1, h2⟩ := stepG_ok htr
        refine Run.cons tr h1 h2 (goAuto_run k _ l trs' σ'' h' ?_)
        simpa using r
      · cases h
    · cases h
def At (P : Program) (N : Cx) (ops : Array Oper) (k : Nat) (σ : Sg) (K : List Tr → Sg → Prop) : Prop := Run P N ops (ops.toList.drop k) σ K
theorem At.start {K : List Tr → Sg → Prop} {σ : Sg} (h : At P N ops 0 σ K) : Run P N ops ops.toList σ K := h
theorem At.done {K : List Tr → Sg → Prop} {k : Nat} {σ : Sg} (hk : ops.size = k) (h : K [] σ) : At P N ops k σ K := by
  unfold At
  rw [List.drop_of_length_le (by rw [Array.length_toList]; omega)]
  exact Run.nil h
def autoS (P : Program) (n : Nat) (ops : Array Oper) (k m : Nat) (σ : Sg) : Option (List Tr × Sg) := goAuto P n ops m σ (ops.toList.drop k)
theorem At.auto {K : List Tr → Sg → Prop} {k : Nat} {σ : Sg} (m : Nat) (h : (autoS P N.n ops k m σ).isSome = true) (r : At P N ops (k + m) ((autoS P N.n ops k m σ).get h).2 (fun t s => K (((autoS P N.n ops k m σ).get h).1 ++ t) s)) : At P N ops k σ K :=
  goAuto_run m σ _ _ _ (Option.some_get h).symm (by rw [List.drop_drop]; exact r)
theorem put_same {σ : Sg} {d : Nat} {v : V} (h : σ.tm d = v) : σ.put (.t d v) = σ := by
  obtain ⟨tm, ob⟩ := σ
  simp only [Sg.put] at h ⊢
  congr 1
  funext i
  split
  · rename_i e; rw [e, h]
  · rfl
theorem At.say {K : List Tr → Sg → Prop} {k : Nat} {σ : Sg} (d : Nat) (v v' : V) (h : σ.tm d = v) (e : v = v') (r : At P N ops k (σ.put (.t d v')) K) : At P N ops k σ K := by
  subst e
  rwa [put_same h] at r
theorem KF.conv {m : Nat} {rs : List ResultVar} {e : Exit} {σ : Sg} {α : Type} (f : α → V) (g : α → List Ob) {a b : α} (h : a = b) (r : KF P m rs (f a) (g a) e σ) : KF P m rs (f b) (g b) e σ := h ▸ r
theorem KF.mk {m : Nat} {rs : List ResultVar} {R : V} {T' : List Ob} {e : Exit} {σ : Sg} (he : e = .normal ∨ e = .ret) (L : List (Nat × Nat)) (vs : List V) (h1 : (okL L && fixes m L) = true) (h2 : resV P σ rs = some vs) (h3 : R = (resOf vs).ren (hOf L)) (h4 : L.map Prod.snd = List.range T'.length) (h5 : T' = L.map fun p => (σ.ob p.1).ren (hOf L)) : KF P m rs R T' e σ :=
  ⟨he, L, vs, h1, h2, h3, h4, h5⟩
theorem At.step {K : List Tr → Sg → Prop} {k : Nat} {σ : Sg} {o : Oper} {gp pre post : List W} (ho : ops[k]? = some o) (hg : guardPre ops o = some gp) (hgp : σ.has gp) (h : Step P N σ o pre post) (r : At P N ops (k + 1) (σ.puts post) (fun t s => K (⟨gp ++ pre, post⟩ :: t) s)) : At P N ops k σ K := by
  have hk : k < ops.toList.length := by rw [Array.length_toList]; exact (Array.getElem?_eq_some_iff.1 ho).1
  have e : ops.toList.drop k = o :: ops.toList.drop (k + 1) := by
    rw [List.drop_eq_getElem_cons hk]
    congr 1
    have := (Array.getElem?_eq_some_iff.1 ho).2
    simpa using this
  unfold At
  rw [e]
  exact Run.cons _ (TrOk.of hg h.1) (has2 hgp h.2) r
end
end Go.Sy

