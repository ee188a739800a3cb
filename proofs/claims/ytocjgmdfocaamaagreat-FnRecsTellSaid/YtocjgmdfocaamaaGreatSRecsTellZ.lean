/- Short forms of the walk's steps: several steps at once, results told by choice, results turned into the words of a contract. -/
import Derived.Test.YtocjgmdfocaamaaGreatSRecsTellRh
set_option linter.unusedVariables false
set_option linter.unusedSimpArgs false
namespace Go.Sy
theorem dv {ρ : Type} {Q A B : ρ → Prop} (h : ∀ {r}, A r → B r) : (∃ r, Q r ∧ A r) → ∃ r, Q r ∧ B r := fun ⟨r, q, a⟩ => ⟨r, q, h a⟩
theorem rf {N : Cx} {σ : Sg} {K : Sg → Prop} (h : K σ) : ∃ s1, Sub N σ s1 ∧ K s1 := ⟨σ, Sub.refl N σ, h⟩
theorem KF.n {P : Program} {σ : Sg} {m : Nat} {rs : List ResultVar} {R : V} {T' : List Ob} {e : Exit} (L : List (Nat × Nat)) (he : e = .normal ∨ e = .ret := by first | exact .inr rfl | exact .inl rfl) (h1 : (okL L && fixes m L && (resV P σ rs).isSome) = true := by kernel_rfl) (h3 : R = (resOf ((resV P σ rs).getD [])).ren (hOf L) := by kernel_rfl) (h4 : L.map Prod.snd = List.range T'.length := by kernel_rfl) (h5 : T' = L.map fun p => (σ.ob p.1).ren (hOf L) := by kernel_rfl) : KF P m rs R T' e σ := by
  have h1' := (Bool.and_eq_true _ _).mp h1
  have h2 : resV P σ rs = some ((resV P σ rs).getD []) := by
    obtain ⟨x, hx⟩ := Option.isSome_iff_exists.1 h1'.2
    rw [hx]; rfl
  exact KF.mk he L _ h1'.1 h2 h3 h4 h5
def raftA (r : Raft) : V := .agg [.int .i64 r.id, .int .i64 r.of_, .int .i64 r.role, .int .i64 r.commit, .int .i64 r.hard.term, .int .i64 r.hard.vote, .sl false 6 (r.hard.log.map encEnt), .sl false 1 (r.yes.map encI), .sl false 1 (r.next.map encI), .sl false 1 (r.match_.map encI)]
def msgA (m : Msg) : V := .agg [.int .i64 m.kind, .int .i64 m.from_, .int .i64 m.term, .int .i64 m.at_, .int .i64 m.atTerm, .int .i64 m.commit, .bool m.yes, .int .i64 m.release, .int .i64 m.part, .str m.bytes, .int .i64 m.cmd.kind, .int .i64 m.cmd.release, .int .i64 m.cmd.node, .int .i64 m.cmd.size, .str m.cmd.digest, .sl false 6 (m.entries.map encEnt)]
theorem gE {α : Type} (l : List α) (i : Nat) (h : i < l.length) : ∃ e, l[i]? = some e := ⟨_, List.getElem?_eq_getElem h⟩
section
variable {e : Exit} {σ : Sg} {α β γ δ : Type}
theorem k1 (K : α → Exit → Sg → Prop) {a a' : α} (h : a = a') (r : K a e σ) : K a' e σ := h ▸ r
theorem k2 (K : α → β → Exit → Sg → Prop) {a a' : α} {b b' : β} (h : a = a') (h2 : b = b') (r : K a b e σ) : K a' b' e σ := h ▸ h2 ▸ r
theorem k3 (K : α → β → γ → Exit → Sg → Prop) {a a' : α} {b b' : β} {c c' : γ} (h : a = a') (h2 : b = b') (h3 : c = c') (r : K a b c e σ) : K a' b' c' e σ := h ▸ h2 ▸ h3 ▸ r
theorem k4 (K : α → β → γ → δ → Exit → Sg → Prop) {a a' : α} {b b' : β} {c c' : γ} {d d' : δ} (h : a = a') (h2 : b = b') (h3 : c = c') (h4 : d = d') (r : K a b c d e σ) : K a' b' c' d' e σ := h ▸ h2 ▸ h3 ▸ h4 ▸ r
end
section
variable {P : Program} {N : Cx} {ops : Array Oper} {k : Nat} {σ : Sg}
theorem At.z {K : List Tr → Sg → Prop} (m : Nat) (r : K (((autoS P N.n ops k m σ).getD ([], σ)).1 ++ []) ((autoS P N.n ops k m σ).getD ([], σ)).2) (h : (autoS P N.n ops k m σ).isSome = true := by kernel_rfl) (hk : ops.size = k + m := by rfl) : At P N ops k σ K :=
  At.a m (At.done hk r) h
theorem At.zD {K : List Tr → Sg → Prop} {A : List Tr → Bool} (m : Nat) (r : K (((autoS P N.n ops k m σ).getD ([], σ)).1 ++ []) ((autoS P N.n ops k m σ).getD ([], σ)).2) (h : (autoS P N.n ops k m σ).isSome = true := by kernel_rfl) (hk : ops.size = k + m := by rfl) (hc : A (((autoS P N.n ops k m σ).getD ([], σ)).1 ++ []) = true := by kernel_rfl) : At P N ops k σ (fun t s => A t = true ∧ K t s) :=
  At.z m ⟨hc, r⟩ h hk
theorem AW.q {c : Code} {id : Nat} {K : Exit → Sg → Prop} (m : Nat) (r : thenK (fun s' => AW P N c s' K) K .normal ((autoS P N.n ops 0 m σ).getD ([], σ)).2) (h : (autoS P N.n ops 0 m σ).isSome = true := by kernel_rfl) (hk : ops.size = 0 + m := by rfl) : AW P N (.seq (.region id ops false) c) σ K := AW.r (At.z m r h hk)
theorem AW.g {id : Nat} {K : Exit → Sg → Prop} (h : At P N ops 0 σ (fun _ s => K .normal s)) : AW P N (.region id ops false) σ K := AW.region (At.start h)
theorem AW.gD {id : Nat} {K : Exit → Sg → Prop} (hm : P.follows .mixedOrders = true) (h : At P N ops 0 σ (fun trs s => chk ops.toList trs = true ∧ K .normal s)) : AW P N (.region id ops true) σ K := AW.regionD hm (At.start h)
theorem AW.gq {id : Nat} {K : Exit → Sg → Prop} (m : Nat) (r : K .normal ((autoS P N.n ops 0 m σ).getD ([], σ)).2) (h : (autoS P N.n ops 0 m σ).isSome = true := by kernel_rfl) (hk : ops.size = 0 + m := by rfl) : AW P N (.region id ops false) σ K := AW.region (At.start (At.z m r h hk))
def litX (P : Program) (nn : Nat) (o : Oper) (σ : Sg) (q : Nat × Nat) : Option (Nat × Nat × Nat × List Nat × List V) :=
  match o.op, o.dst with
  | .buildSlice t n parts, some d => match slE P t nn d with
    | some (e, es) => match elInfo P e with
      | some (es2, _) => match zeroCs P e with
        | some zs => match Nat.beq es es2 && (decide (0 < n) && decide (n * es ≤ 16777216)) with
          | true => match fillV (fun i => some (i * es, es)) (zerosV n zs) (partsEv σ parts.toList) with
            | some cs => match convL q σ.ob cs with
              | some (cs', kill) => match nodupB kill with
                | true => some (d, e, es, kill, chunk es n cs')
                | false => none
              | none => none
            | none => none
          | false => none
        | none => none
      | none => none
    | none => none
  | _, _ => none
def litP (o : Oper) : List (Nat × Operand) := match o.op with
  | .buildSlice _ _ p => p.toList
  | _ => []
theorem At.lk {K : List Tr → Sg → Prop} (d e es j : Nat) (q : Nat × Nat) (kill : List Nat) (xs : List V) (fl : List (Nat × Nat × List V)) (hfs : ∀ p ∈ fl, ∀ x ∈ p.2.2, (cl x).all gS = true)
    (r : At P N ops (k + 1) (σ.puts ((killW kill ++ [.o j (.arr e es xs)]) ++ [.t d (.ref j)])) (fun t s => K (⟨(gpOf ops σ (opAt ops k)).getD [] ++ (partsW (litP (opAt ops k)) (partsEv σ (litP (opAt ops k))) ++ obW σ.ob kill ++ [.o j .free]), (killW kill ++ [.o j (.arr e es xs)]) ++ [.t d (.ref j)]⟩ :: t) s)) (hg : goes ops σ k = true := by kernel_rfl)
    (hx : litX P N.n (opAt ops k) σ q = some (d, e, es, kill, xs) := by kernel_rfl) (hj : (notIn j kill, σ.ob j) = (true, .free) := by kernel_rfl) (hfl : kill.map σ.ob = fl.map (fun p => Ob.arr p.1 p.2.1 p.2.2) := by kernel_rfl) : At P N ops k σ K := by
  simp only [Prod.mk.injEq] at hj
  unfold litX at hx
  split at hx
  · rename_i t n parts d' hop hdst
    split at hx
    · rename_i e1 es1 hsl
      split at hx
      · rename_i es2 by_ hel
        split at hx
        · rename_i zs hz
          split at hx
          · rename_i hb
            split at hx
            · rename_i cs hfill
              split at hx
              · rename_i cs' kill' hconv
                split at hx
                · rename_i hnd
                  simp only [Option.some.injEq, Prod.mk.injEq] at hx
                  obtain ⟨rfl, rfl, rfl, rfl, rfl⟩ := hx
                  simp only [Bool.and_eq_true] at hb
                  obtain rfl := Nat.eq_of_beq_eq_true hb.1
                  have ho : opd (opAt ops k) = (.buildSlice t n parts, some d') := by unfold opd; rw [hop, hdst]
                  have hp : litP (opAt ops k) = parts.toList := by unfold litP; rw [hop]
                  rw [hp] at r
                  exact At.litK q j kill' cs cs' zs _ fl hg ho (by rw [hsl, hel, hz, hb.2.1, hb.2.2]; rfl) (by rw [hfill, hconv, hj.1, hnd]; rfl) hfl hfs hj.2 r
                · cases hx
              · cases hx
            · cases hx
          · cases hx
        · cases hx
      · cases hx
    · cases hx
  · cases hx
def appX (P : Program) (nn : Nat) (o : Oper) (σ : Sg) : Option (Nat × Nat × Nat × Nat × V × V) :=
  match o.op, o.dst with
  | .call c, some d => match c.callee, c.args, c.argTypes with
    | .builtin .append, ⟨[s, x]⟩, ⟨[t, t2]⟩ => match Nat.beq t t2 with
      | true => match slE P t nn d with
        | some (e, es) => match elInfo P e with
          | some (es2, by_) => match Nat.beq es es2 && Nat.blt 0 by_ with
            | true => some (d, e, es, by_, σ.ev s, σ.ev x)
            | false => none
          | none => none
        | none => none
      | false => none
    | _, _, _ => none
  | _, _ => none
def appP (o : Oper) : Operand × Operand := match o.op with
  | .call c => match c.args with
    | ⟨[s, x]⟩ => (s, x)
    | _ => (.tmp 0, .tmp 0)
  | _ => (.tmp 0, .tmp 0)
theorem At.app {K : List Tr → Sg → Prop} {α : Type} (d e es by_ j : Nat) (S T : V) (k1 k2 : List Nat) (f : α → V) (A B : List α) (hb : (A.length + B.length) * by_ ≤ 140737488355328) (hf : FirstIs σ.ob S e es (A.map f) k1) (hs : SecondIs σ.ob T e es (B.map f) k2)
    (r : At P N ops (k + 1) (σ.puts ((killW (k1 ++ k2) ++ [.o j (.arr e es ((A ++ B).map f))]) ++ [.t d (.ref j)])) (fun t s' => K (⟨(gpOf ops σ (opAt ops k)).getD [] ++ (opw (appP (opAt ops k)).1 S ++ opw (appP (opAt ops k)).2 T ++ obW σ.ob (obK S) ++ obW σ.ob (obK T) ++ [.o j .free]), (killW (k1 ++ k2) ++ [.o j (.arr e es ((A ++ B).map f))]) ++ [.t d (.ref j)]⟩ :: t) s')) (hg : goes ops σ k = true := by kernel_rfl)
    (hx : appX P N.n (opAt ops k) σ = some (d, e, es, by_, S, T) := by kernel_rfl) (hj : (notIn j (k1 ++ k2) && k1.all (notIn · k2), σ.ob j) = (true, .free) := by kernel_rfl) : At P N ops k σ K := by
  simp only [Prod.mk.injEq] at hj
  unfold appX at hx
  split at hx
  · rename_i c d' hop hdst
    split at hx
    · rename_i s x t t2 h1 h2 h3
      split at hx
      · rename_i htt
        obtain rfl := Nat.eq_of_beq_eq_true htt
        split at hx
        · rename_i e1 es1 hsl
          split at hx
          · rename_i es2 by1 hel
            split at hx
            · rename_i hb2
              simp only [Option.some.injEq, Prod.mk.injEq] at hx
              obtain ⟨rfl, rfl, rfl, rfl, rfl, rfl⟩ := hx
              simp only [Bool.and_eq_true] at hb2
              obtain rfl := Nat.eq_of_beq_eq_true hb2.1
              have hby : 0 < by1 := by simpa using hb2.2
              have ho : opd (opAt ops k) = (.call { callee := .builtin .append, args := #[s, x], argTypes := #[t, t] }, some d') := by
                unfold opd
                rw [hop, hdst]
                congr 2
                cases c
                simp only at h1 h2 h3
                subst h1 h2 h3
                rfl
              have hp : appP (opAt ops k) = (s, x) := by unfold appP; rw [hop]; simp only [h2]
              rw [hp] at r
              refine At.append j k1 k2 _ hg ho (by rw [hsl, hel]) rfl hf hs hj.1 hj.2 (by rw [← List.map_append]) (by rw [List.length_map, List.length_map]; exact hb) ?_ r
              rw [List.length_map, List.length_map]
              have := Nat.le_mul_of_pos_right (A.length + B.length) hby
              omega
            · cases hx
          · cases hx
        · cases hx
      · cases hx
    · cases hx
  · cases hx
theorem At.apK {K : List Tr → Sg → Prop} {α : Type} (d e es by_ j i1 i2 : Nat) (f : α → V) (A B : List α) (hb : (A.length + B.length) * by_ ≤ 140737488355328)
    (r : At P N ops (k + 1) (σ.puts ((killW ([i1] ++ [i2]) ++ [.o j (.arr e es ((A ++ B).map f))]) ++ [.t d (.ref j)])) (fun t s' => K (⟨(gpOf ops σ (opAt ops k)).getD [] ++ (opw (appP (opAt ops k)).1 (.ref i1) ++ opw (appP (opAt ops k)).2 (.ref i2) ++ obW σ.ob (obK (.ref i1)) ++ obW σ.ob (obK (.ref i2)) ++ [.o j .free]), (killW ([i1] ++ [i2]) ++ [.o j (.arr e es ((A ++ B).map f))]) ++ [.t d (.ref j)]⟩ :: t) s')) (hg : goes ops σ k = true := by kernel_rfl)
    (h1 : σ.ob i1 = .arr e es (A.map f) := by kernel_rfl) (h2 : σ.ob i2 = .arr e es (B.map f) := by kernel_rfl) (hx : appX P N.n (opAt ops k) σ = some (d, e, es, by_, .ref i1, .ref i2) := by kernel_rfl) (hj : (notIn j ([i1] ++ [i2]) && [i1].all (notIn · [i2]), σ.ob j) = (true, .free) := by kernel_rfl) : At P N ops k σ K :=
  At.app d e es by_ j (.ref i1) (.ref i2) [i1] [i2] f A B hb ⟨h1, rfl⟩ ⟨h2, .inr rfl⟩ r hg hx hj
theorem At.apC {K : List Tr → Sg → Prop} {α : Type} (d e es by_ j i1 i2 : Nat) (f : α → V) (A B : List α) (hb : (A.length + B.length) * by_ ≤ 140737488355328) (hp : AllP (B.map f))
    (r : At P N ops (k + 1) (σ.puts ((killW ([i1] ++ []) ++ [.o j (.arr e es ((A ++ B).map f))]) ++ [.t d (.ref j)])) (fun t s' => K (⟨(gpOf ops σ (opAt ops k)).getD [] ++ (opw (appP (opAt ops k)).1 (.ref i1) ++ opw (appP (opAt ops k)).2 (.ref i2) ++ obW σ.ob (obK (.ref i1)) ++ obW σ.ob (obK (.ref i2)) ++ [.o j .free]), (killW ([i1] ++ []) ++ [.o j (.arr e es ((A ++ B).map f))]) ++ [.t d (.ref j)]⟩ :: t) s')) (hg : goes ops σ k = true := by kernel_rfl)
    (h1 : σ.ob i1 = .arr e es (A.map f) := by kernel_rfl) (h2 : σ.ob i2 = .arr e es (B.map f) := by kernel_rfl) (hx : appX P N.n (opAt ops k) σ = some (d, e, es, by_, .ref i1, .ref i2) := by kernel_rfl) (hj : (notIn j ([i1] ++ []) && [i1].all (notIn · []), σ.ob j) = (true, .free) := by kernel_rfl) : At P N ops k σ K :=
  At.app d e es by_ j (.ref i1) (.ref i2) [i1] [] f A B hb ⟨h1, rfl⟩ ⟨h2, .inl ⟨rfl, hp⟩⟩ r hg hx hj
theorem At.ll {K : List Tr → Sg → Prop} (d e es j : Nat) (q : Nat × Nat) (xs : List V)
    (r : At P N ops (k + 1) (σ.puts ((killW [] ++ [.o j (.arr e es xs)]) ++ [.t d (.ref j)])) (fun t s => K (⟨(gpOf ops σ (opAt ops k)).getD [] ++ (partsW (litP (opAt ops k)) (partsEv σ (litP (opAt ops k))) ++ obW σ.ob [] ++ [.o j .free]), (killW [] ++ [.o j (.arr e es xs)]) ++ [.t d (.ref j)]⟩ :: t) s)) (hg : goes ops σ k = true := by kernel_rfl)
    (hx : litX P N.n (opAt ops k) σ q = some (d, e, es, [], xs) := by kernel_rfl) (hj : (notIn j [], σ.ob j) = (true, .free) := by kernel_rfl) : At P N ops k σ K :=
  At.lk d e es j q [] xs [] (fun p hp => by cases hp) r hg hx hj rfl
end
end Go.Sy

