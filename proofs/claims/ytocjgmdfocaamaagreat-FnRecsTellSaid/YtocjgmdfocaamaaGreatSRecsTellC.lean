/- The rules for code over symbolic states; what a function does, said over values and objects alone; renaming. -/
import Derived.Test.YtocjgmdfocaamaaGreatSRecsTellB
set_option linter.unusedVariables false
set_option linter.unusedSimpArgs false
namespace Go.Sy
mutual
def V.ren (h : Nat → Option Nat) : V → V
  | .ref i => match h i with
    | some j => .ref j
    | none => .un
  | .sub i a b => match h i with
    | some j => .sub j a b
    | none => .un
  | .ptr i a b => match h i with
    | some j => .ptr j a b
    | none => .un
  | .agg cs => .agg (renL h cs)
  | .tup cs => .tup (renL h cs)
  | .un => .un
  | .int k n => .int k n
  | .bool b => .bool b
  | .str s => .str s
  | .nil => .nil
  | .sl p es xs => .sl p es xs
  | .own e es xs => .own e es xs
  | .vp p es xs k off => .vp p es xs k off
  | .np => .np
  | .fn f => .fn f
def renL (h : Nat → Option Nat) : List V → List V
  | [] => []
  | x :: l => x.ren h :: renL h l
end
theorem renL_get (h : Nat → Option Nat) : ∀ (l : List V) (j : Nat), (renL h l)[j]? = (l[j]?).map (V.ren h)
  | [], j => by simp [renL]
  | x :: l, 0 => by simp [renL]
  | x :: l, j + 1 => by simp [renL, renL_get h l j]
theorem renL_length (h : Nat → Option Nat) : ∀ (l : List V), (renL h l).length = l.length
  | [] => rfl
  | x :: l => by simp [renL, renL_length h l]
theorem Rep.ren {ρ ρ' : Nat → Option RI} {w : World} {I J : Nat → Prop} {h : Nat → Option Nat} (hh : ∀ i j r, h i = some j → ρ i = some r → ρ' j = some r) {v : Value} {x : V} (a : Rep ρ w I J v x) : Rep ρ' w I J v (x.ren h) := by
  induction a with
  | g a => cases a <;> simp only [V.ren] <;> refine .g ?_
           · exact .un _
           · exact .int _ _
           · exact .bool _
           · exact .str _
           · exact .nil
           · exact .slE _ _ _ _
           · exact .sl _ _ _ _ _ _ _ ‹_› ‹_› ‹_› ‹_› ‹_› ‹_› ‹_› ‹_› ‹_›
           · exact .vp _ _ _ _ _ _ _ ‹_› ‹_› ‹_› ‹_› ‹_› ‹_›
           · exact .np
           · exact .fn _
  | agg a cs hn _ ih =>
    simp only [V.ren]
    refine .agg a _ (by rw [renL_length]; exact hn) (fun j x hx => ?_)
    rw [renL_get, Option.map_eq_some_iff] at hx
    obtain ⟨y, hy, rfl⟩ := hx
    exact ih j y hy
  | tup a cs hn _ ih =>
    simp only [V.ren]
    refine .tup a _ (by rw [renL_length]; exact hn) (fun j x hx => ?_)
    rw [renL_get, Option.map_eq_some_iff] at hx
    obtain ⟨y, hy, rfl⟩ := hx
    exact ih j y hy
  | ref i r v h1 h2 =>
    simp only [V.ren]
    split
    · rename_i j hj
      exact .ref j r v (hh i j r hj h1) h2
    · exact .g (.un _)
  | sub i off len r v h1 h2 =>
    simp only [V.ren]
    split
    · rename_i j hj
      exact .sub j off len r v (hh i j r hj h1) h2
    · exact .g (.un _)
  | ptr i k off r g h1 h2 =>
    simp only [V.ren]
    split
    · rename_i j hj
      exact .ptr j k off r g (hh i j r hj h1) h2
    · exact .g (.un _)
section
variable {ρ : Nat → Option RI} {w : World} {I J : Nat → Prop} {v : Value}
theorem Rep.inv_bool {b : Bool} (h : Rep ρ w I J v (.bool b)) : v = .bool b := by
  cases h with
  | g h => cases h; rfl
theorem Rep.inv_int {k : IntKind} {n : Int} (h : Rep ρ w I J v (.int k n)) : v = .int k n := by
  cases h with
  | g h => cases h; rfl
theorem Rep.inv_str {s : ByteArray} (h : Rep ρ w I J v (.str s)) : v = .string s := by
  cases h with
  | g h => cases h; rfl
theorem Rep.inv_nil (h : Rep ρ w I J v .nil) : v = .slice none 0 0 := by
  cases h with
  | g h => cases h; rfl
theorem Rep.inv_ptr {i k off : Nat} (h : Rep ρ w I J v (.ptr i k off)) : ∃ r g, ρ i = some r ∧ r.g = some g ∧ v = .pointer (some ⟨g, k * r.es + off, none⟩) := by
  cases h with
  | g h => cases h
  | ptr _ _ _ r g h1 h2 => exact ⟨r, g, h1, h2, rfl⟩
theorem Rep.inv_ref {i : Nat} (h : Rep ρ w I J v (.ref i)) : ∃ r, ρ i = some r ∧ r.sl v := by
  cases h with
  | g h => cases h
  | ref _ r _ h1 h2 => exact ⟨r, h1, h2⟩
theorem Rep.inv_sub {i off len : Nat} (h : Rep ρ w I J v (.sub i off len)) : ∃ r, ρ i = some r ∧ r.sub off len v := by
  cases h with
  | g h => cases h
  | sub _ _ _ r _ h1 h2 => exact ⟨r, h1, h2⟩
theorem Rep.inv_agg {cs : List V} (h : Rep ρ w I J v (.agg cs)) : ∃ a : Array Value, v = .agg a ∧ a.size = cs.length ∧ ∀ (j : Nat) (x : V), cs[j]? = some x → Rep ρ w I J (a.getD j undef) x := by
  cases h with
  | g h => cases h
  | agg a _ h1 h2 => exact ⟨a, rfl, h1, h2⟩
theorem Rep.inv_tup {cs : List V} (h : Rep ρ w I J v (.tup cs)) : ∃ a : Array Value, v = .tuple a ∧ a.size = cs.length ∧ ∀ (j : Nat) (x : V), cs[j]? = some x → Rep ρ w I J (a.getD j undef) x := by
  cases h with
  | g h => cases h
  | tup a _ h1 h2 => exact ⟨a, rfl, h1, h2⟩
theorem Rep.inv_sl {p : Bool} {es : Nat} {xs : List V} (h : Rep ρ w I J v (.sl p es xs)) : RepG w I J v (.sl p es xs) := by
  cases h with
  | g h => exact h
theorem Rep.inv_vp {p : Bool} {es : Nat} {xs : List V} {k off : Nat} (h : Rep ρ w I J v (.vp p es xs k off)) : RepG w I J v (.vp p es xs k off) := by
  cases h with
  | g h => exact h
end
def renH (h : Nat → Option Nat) : List (Nat × Nat) → List (Nat × Nat)
  | [] => []
  | (off, k) :: l => match h k with
    | some k' => (off, k') :: renH h l
    | none => renH h l
theorem renH_mem {h : Nat → Option Nat} : ∀ {l : List (Nat × Nat)} {q : Nat × Nat}, q ∈ renH h l → ∃ k, (q.1, k) ∈ l ∧ h k = some q.2
  | (off, k) :: l, q, hq => by
    simp only [renH] at hq
    split at hq
    · rename_i k' hk
      rcases List.mem_cons.1 hq with rfl | hq
      · exact ⟨k, List.mem_cons_self, hk⟩
      · obtain ⟨k2, h1, h2⟩ := renH_mem hq
        exact ⟨k2, List.mem_cons_of_mem _ h1, h2⟩
    · obtain ⟨k2, h1, h2⟩ := renH_mem hq
      exact ⟨k2, List.mem_cons_of_mem _ h1, h2⟩
def Ob.ren (h : Nat → Option Nat) : Ob → Ob
  | .box t cs => .box t (renL h cs)
  | .free => .free
  | .dead => .dead
  | .arr e es xs => .arr e es xs
  | .hole e es xs j off k => match h k with
    | some k' => .hole e es xs j off k'
    | none => .arr e es xs
  | .holes e es xs j hs => .holes e es xs j (renH h hs)
  | .raw e l => .raw e l
theorem OwnOb.ren {ρ ρ' : Nat → Option RI} {w : World} {I J : Nat → Prop} {h : Nat → Option Nat} (hh : ∀ i j r, h i = some j → ρ i = some r → ρ' j = some r) {ri : Option RI} {F : Nat → Prop} {x : Ob} (a : OwnOb ρ w I J ri F x) : OwnOb ρ' w I J ri F (x.ren h) := by
  cases x with
  | free => exact a
  | dead => exact a
  | raw e l => exact a
  | arr e es xs => exact a
  | hole e es xs j off k =>
    obtain ⟨r, g, cur, N, h1, h2, h3, h4, h5, h6⟩ := a
    simp only [Ob.ren]
    split
    · rename_i k' hk
      have := h6.ren hh
      simp only [V.ren, hk] at this
      exact ⟨r, g, cur, N, h1, h2, h3, h4, h5, this⟩
    · exact ⟨r, h1, h2, h3, .inr ⟨g, cur, N, h4, h5⟩⟩
  | holes e es xs j hs =>
    obtain ⟨r, g, cur, N, h1, h2, h3, h4, h5, h6⟩ := a
    simp only [Ob.ren]
    refine ⟨r, g, cur, N, h1, h2, h3, h4, h5, fun q hq => ?_⟩
    obtain ⟨k, q1, q2⟩ := renH_mem hq
    have := (h6 _ q1).ren hh
    simp only [V.ren, q2] at this
    exact this
  | box t cs =>
    obtain ⟨r, g, cur, h1, h2, h3, h4, h5, h6⟩ := a
    refine ⟨r, g, cur, h1, h2, h3, by rw [renL_length]; exact h4, fun j x hx => ?_, h6⟩
    rw [renL_get, Option.map_eq_some_iff] at hx
    obtain ⟨y, hy, rfl⟩ := hx
    exact (h5 j y hy).ren hh
def hOf : List (Nat × Nat) → Nat → Option Nat
  | [], _ => none
  | (a, b) :: l, i => if i = a then some b else hOf l i
def gOf : List (Nat × Nat) → Nat → Option Nat
  | [], _ => none
  | (a, b) :: l, j => if j = b then some a else gOf l j
def okL : List (Nat × Nat) → Bool
  | [] => true
  | (a, b) :: l => l.all (fun p => p.1 != a && p.2 != b) && okL l
theorem hOf_mem : ∀ {L : List (Nat × Nat)} {i j : Nat}, hOf L i = some j → (i, j) ∈ L
  | (a, b) :: l, i, j, h => by
    simp only [hOf] at h
    split at h
    · rename_i e; subst e; simp_all
    · exact List.mem_cons_of_mem _ (hOf_mem h)
theorem gOf_mem : ∀ {L : List (Nat × Nat)} {i j : Nat}, gOf L j = some i → (i, j) ∈ L
  | (a, b) :: l, i, j, h => by
    simp only [gOf] at h
    split at h
    · rename_i e; subst e; simp_all
    · exact List.mem_cons_of_mem _ (gOf_mem h)
theorem hOf_of : ∀ {L : List (Nat × Nat)} {i j : Nat}, okL L = true → (i, j) ∈ L → hOf L i = some j
  | (a, b) :: l, i, j, ho, h => by
    simp only [okL, Bool.and_eq_true, List.all_eq_true] at ho
    simp only [hOf]
    rcases List.mem_cons.1 h with h | h
    · simp only [Prod.mk.injEq] at h
      rw [if_pos h.1, h.2]
    · have := ho.1 _ h
      simp only [bne_iff_ne, ne_eq] at this
      rw [if_neg (by simpa using this.1)]
      exact hOf_of ho.2 h
theorem gOf_of : ∀ {L : List (Nat × Nat)} {i j : Nat}, okL L = true → (i, j) ∈ L → gOf L j = some i
  | (a, b) :: l, i, j, ho, h => by
    simp only [okL, Bool.and_eq_true, List.all_eq_true] at ho
    simp only [gOf]
    rcases List.mem_cons.1 h with h | h
    · simp only [Prod.mk.injEq] at h
      rw [if_pos h.2, h.1]
    · have := ho.1 _ h
      simp only [bne_iff_ne, ne_eq] at this
      rw [if_neg (by simpa using this.2)]
      exact gOf_of ho.2 h
def Gh.ren (G : Gh) (L : List (Nat × Nat)) : Gh where
  ρ := fun j => match gOf L j with
    | some i => G.ρ i
    | none => none
  I := G.I
  J := G.J
  F := fun j b => match gOf L j with
    | some i => G.F i b
    | none => False
def obRen (ob : Nat → Ob) (L : List (Nat × Nat)) (j : Nat) : Ob :=
  match gOf L j with
  | some i => (ob i).ren (hOf L)
  | none => .free
theorem Gh.ren_rho {G : Gh} {L : List (Nat × Nat)} (hL : okL L = true) : ∀ i j r, hOf L i = some j → G.ρ i = some r → (G.ren L).ρ j = some r := by
  intro i j r h1 h2
  simp only [Gh.ren, gOf_of hL (hOf_mem h1)]
  exact h2
theorem Hold.ren {G : Gh} {w : World} {ob : Nat → Ob} (H : Hold G w ob) {L : List (Nat × Nat)} (hL : okL L = true) : Hold (G.ren L) w (obRen ob L) where
  ij := H.ij
  lt := H.lt
  own := fun j => by
    show OwnOb (G.ren L).ρ w G.I G.J ((G.ren L).ρ j) ((G.ren L).F j) (obRen ob L j)
    cases hj : gOf L j with
    | none =>
      simp only [Gh.ren, obRen, hj]
      exact ⟨rfl, fun _ h => h⟩
    | some i =>
      have := OwnOb.ren (Gh.ren_rho hL) (H.own i)
      simpa only [Gh.ren, obRen, hj] using this
  flt := fun j b h => by
    simp only [Gh.ren] at h
    split at h
    · exact H.flt _ b h
    · exact h.elim
  fj := fun j b h => by
    simp only [Gh.ren] at h
    split at h
    · exact H.fj _ b h
    · exact h.elim
  dis := fun i j b h1 h2 => by
    simp only [Gh.ren] at h1 h2
    split at h1
    · rename_i a ha
      split at h2
      · rename_i c hc
        have := H.dis a c b h1 h2
        subst this
        have e1 := hOf_of hL (gOf_mem ha)
        have e2 := hOf_of hL (gOf_mem hc)
        rw [e1] at e2
        exact Option.some.inj e2
      · exact h2.elim
    · exact h1.elim
theorem Fr.ren {G0 G : Gh} {w0 w : World} (f : Fr G0 w0 G w) {L : List (Nat × Nat)} {m : Nat} (hm : ∀ i, m ≤ i → G0.ρ i = none) (hL : ∀ i, i < m → gOf L i = some i) : Fr G0 w0 (G.ren L) w where
  os := f.os
  tape := f.tape
  output := f.output
  sz := f.sz
  blk := f.blk
  rho := fun i r h => by
    have hi : i < m := by
      rcases Nat.lt_or_ge i m with h' | h'
      · exact h'
      · rw [hm i h'] at h; cases h
    simp only [Gh.ren, hL i hi]
    exact f.rho i r h
  I := f.I
  J := f.J
  In := f.In
  Jn := f.Jn
  F := fun j b h => by
    simp only [Gh.ren] at h
    split at h
    · exact f.F _ b h
    · exact h.elim
def Sub (N : Cx) (σ σ1 : Sg) : Prop := ∀ G0 w0 a w, St G0 w0 N σ a w → St G0 w0 N σ1 a w
def lkO : List (Nat × Ob) → Nat → Ob
  | [], _ => .free
  | (k, x) :: l, i => if i = k then x else lkO l i
def lkT : List V → Nat → V
  | [], _ => .un
  | x :: _, 0 => x
  | _ :: l, n + 1 => lkT l n
def mk (tl : List V) (ol : List (Nat × Ob)) : Sg := ⟨lkT tl, lkO ol⟩
def keepT (σ : Sg) (h : Nat → Option Nat) : Nat → List Bool → List V
  | _, [] => []
  | k, b :: l => (match b with
    | true => (σ.tm k).ren h
    | false => .un) :: keepT σ h (k + 1) l
def keepO (σ : Sg) (h : Nat → Option Nat) : List (Nat × Nat) → List (Nat × Ob)
  | [] => []
  | (i, j) :: l => (j, (σ.ob i).ren h) :: keepO σ h l
theorem lkT_keep (σ : Sg) (h : Nat → Option Nat) : ∀ (mask : List Bool) (k t : Nat), lkT (keepT σ h k mask) t = .un ∨ lkT (keepT σ h k mask) t = (σ.tm (k + t)).ren h
  | [], k, t => .inl rfl
  | b :: l, k, 0 => by cases b <;> simp [keepT, lkT]
  | b :: l, k, t + 1 => by
    have := lkT_keep σ h l (k + 1) t
    rwa [Nat.add_assoc, Nat.add_comm 1 t] at this
theorem lkO_keep (σ : Sg) (h : Nat → Option Nat) (ob : Nat → Ob) : ∀ (L : List (Nat × Nat)) (j : Nat), lkO (keepO σ h L) j = match gOf L j with
    | some i => (σ.ob i).ren h
    | none => .free
  | [], j => rfl
  | (a, b) :: l, j => by
    simp only [keepO, lkO, gOf]
    split
    · simp
    · exact lkO_keep σ h ob l j
def fixes (m : Nat) (L : List (Nat × Nat)) : Bool := (List.range m).all fun i => gOf L i == some i
theorem Sub.of {N : Cx} {σ : Sg} (L : List (Nat × Nat)) (mask : List Bool) (tl : List V) (ol : List (Nat × Ob)) (hL : (okL L && fixes N.m L) = true) (ht : tl = keepT σ (hOf L) 0 mask) (ho : ol = keepO σ (hOf L) L) : Sub N σ (mk tl ol) := by
  intro G0 w0 a w h
  obtain ⟨G, H, ht', h1, h2, h3, h4⟩ := h
  simp only [Bool.and_eq_true, fixes, List.all_eq_true, List.mem_range, beq_iff_eq] at hL
  refine ⟨G.ren L, ?_, fun t => ?_, h1, h2, h3.ren h4.1 hL.2, h4⟩
  · have : (mk tl ol).ob = obRen σ.ob L := by
      funext j
      simp only [mk, ho, obRen]
      exact lkO_keep σ _ σ.ob L j
    rw [this]
    exact H.ren hL.1
  · show (G.ren L).Rep w _ (lkT tl t)
    rw [ht]
    rcases lkT_keep σ (hOf L) mask 0 t with h | h
    · rw [h]; exact .g (.un _)
    · rw [h, Nat.zero_add]
      exact Rep.ren (Gh.ren_rho hL.1) (ht' t)
theorem Sub.refl (N : Cx) (σ : Sg) : Sub N σ σ := fun _ _ _ _ h => h
theorem Sub.trans {N : Cx} {σ σ1 σ2 : Sg} (a : Sub N σ σ1) (b : Sub N σ1 σ2) : Sub N σ σ2 := fun _ _ _ _ h => b _ _ _ _ (a _ _ _ _ h)
theorem St.same {G0 : Gh} {w0 : World} {N : Cx} {σ : Sg} {a : Act} {w w' : World} (s : SameW w w') (h : St G0 w0 N σ a w) : St G0 w0 N σ a w' := by
  obtain ⟨G, H, ht, h1, h2, h3, h4⟩ := h
  obtain ⟨s1, s2, s3, s4⟩ := s
  have f : Fr G w G w' := ⟨s2, s3, s4, by rw [s1]; exact Nat.le_refl _, fun b _ _ => by rw [s1], fun _ _ h => h, fun _ h => h, fun _ h => h, fun _ h => .inl h, fun _ h => .inl h, fun i b h => .inl ⟨i, h⟩⟩
  refine ⟨G, ⟨H.ij, fun b h => by rw [s1]; exact H.lt b h, fun i => OwnOb.lift (H.frG f) (fun v x h => Gh.Rep.fr H f h) (H.own i) (fun b _ => by rw [s1]), fun i b h => by rw [s1]; exact H.flt i b h, H.fj, H.dis⟩, fun t => Gh.Rep.fr H f (ht t), h1, h2, h3.trans f, h4⟩
def AW (P : Program) (N : Cx) (c : Code) (σ : Sg) (K : Exit → Sg → Prop) : Prop :=
  ∀ G0 w0 a w, St G0 w0 N σ a w → c.wp P (fun e a' w' => ∃ σ', K e σ' ∧ St G0 w0 N σ' a' w') a w
def thenK (K1 : Sg → Prop) (K : Exit → Sg → Prop) : Exit → Sg → Prop
  | .normal, σ => K1 σ
  | e, σ => K e σ
def blockK (id : Nat) (K : Exit → Sg → Prop) : Exit → Sg → Prop
  | .exit j, σ => if j = id then K .normal σ else K (.exit j) σ
  | e, σ => K e σ
def toV : Value → V
  | .int k n => .int k n
  | .bool b => .bool b
  | .string s => .str s
  | .slice none 0 0 => .nil
  | .pointer none => .np
  | .func (.func f) a b => if a.size = 0 ∧ b.size = 0 then .fn f else .un
  | _ => .un
theorem toV_rep (G : Gh) (w : World) (v : Value) : G.Rep w v (toV v) := by
  unfold toV
  split
  · exact .g (.int _ _)
  · exact .g (.bool _)
  · exact .g (.str _)
  · exact .g .nil
  · exact .g .np
  · rename_i f a b
    split
    · rename_i h
      obtain rfl : a = #[] := Array.eq_empty_of_size_eq_zero h.1
      obtain rfl : b = #[] := Array.eq_empty_of_size_eq_zero h.2
      exact .g (.fn f)
    · exact .g (.un _)
  · exact .g (.un _)
def Sg.ev (σ : Sg) : Operand → V
  | .tmp t => σ.tm t
  | .const v => toV v
  | .func f => .fn f
  | .global _ => .un
section
variable {P : Program} {N : Cx}
theorem St.ev {G0 : Gh} {w0 : World} {σ : Sg} {a : Act} {w : World} {G : Gh} (ht : ∀ t, G.Rep w (a.tmps.getD t undef) (σ.tm t)) (x : Operand) : G.Rep w (a.eval x) (σ.ev x) := by
  cases x with
  | tmp t => exact ht t
  | const v => exact toV_rep G w v
  | func f => exact .g (.fn f)
  | global g => exact .g (.un _)
theorem AW.mono {c : Code} {σ : Sg} {K K' : Exit → Sg → Prop} (h : AW P N c σ K) (hk : ∀ e σ, K e σ → K' e σ) : AW P N c σ K' :=
  fun G0 w0 a w s => wp_mono (h G0 w0 a w s) fun e a' w' ⟨σ', h1, h2⟩ => ⟨σ', hk _ _ h1, h2⟩
theorem AW.weak {c : Code} {σ σ1 : Sg} {K : Exit → Sg → Prop} (h : Sub N σ σ1) (k : AW P N c σ1 K) : AW P N c σ K :=
  fun G0 w0 a w s => k G0 w0 a w (h G0 w0 a w s)
theorem AW.skip {σ : Sg} {K : Exit → Sg → Prop} (h : K .normal σ) : AW P N .skip σ K := fun G0 w0 a w s => wp_skip ⟨σ, h, s⟩
theorem AW.ret {σ : Sg} {K : Exit → Sg → Prop} (h : K .ret σ) : AW P N .ret σ K := fun G0 w0 a w s => wp_ret ⟨σ, h, s⟩
theorem AW.exit {σ : Sg} {K : Exit → Sg → Prop} {id : Nat} (h : K (.exit id) σ) : AW P N (.exit id) σ K := fun G0 w0 a w s => wp_exit ⟨σ, h, s⟩
theorem AW.seq {x y : Code} {σ : Sg} {K : Exit → Sg → Prop} (h : AW P N x σ (thenK (fun σ' => AW P N y σ' K) K)) : AW P N (.seq x y) σ K := by
  intro G0 w0 a w s
  refine wp_seq (wp_mono (h G0 w0 a w s) ?_)
  rintro e a' w' ⟨σ', h1, h2⟩
  cases e with
  | normal => exact h1 G0 w0 a' w' h2
  | _ => exact ⟨σ', h1, h2⟩
theorem AW.cond {c : Operand} {x y : Code} {σ : Sg} {K : Exit → Sg → Prop} (b : Bool) (hc : σ.ev c = .bool b) (h1 : b = true → AW P N x σ K) (h2 : b = false → AW P N y σ K) : AW P N (.cond c x y) σ K := by
  intro G0 w0 a w s
  obtain ⟨G, H, ht, _⟩ := id s
  have he := St.ev (G0 := G0) (w0 := w0) ht c
  rw [hc] at he
  have he' : a.eval c = .bool b := Rep.inv_bool he
  exact wp_cond_split he' (fun hb => h1 hb G0 w0 a w s) (fun hb => h2 hb G0 w0 a w s)
theorem AW.block {id : Nat} {c : Code} {σ : Sg} {K : Exit → Sg → Prop} (h : AW P N c σ (blockK id K)) : AW P N (.block id c) σ K := by
  intro G0 w0 a w s
  refine wp_block (wp_mono (h G0 w0 a w s) ?_)
  rintro e a' w' ⟨σ', h1, h2⟩
  cases e with
  | exit j =>
    simp only [Exit.inBlock, blockK] at h1 ⊢
    split
    · rename_i h; rw [if_pos h] at h1; exact ⟨σ', h1, h2⟩
    · rename_i h; rw [if_neg h] at h1; exact ⟨σ', h1, h2⟩
  | _ => exact ⟨σ', h1, h2⟩
theorem wp_loop_ix {Q : Exit → Act → World → Prop} {c : Code} {β : Type} (R : β → Act → World → Prop) (m : β → Nat)
    (round : ∀ x a w, R x a w → c.wp P (Exit.then (fun a' w' => ∃ y, R y a' w' ∧ m y < m x) Q) a w) (x : β) (a : Act) (w : World) (h0 : R x a w) : (Code.loop c).wp P Q a w := by
  intro b k cs
  have key : ∀ n x a w, m x = n → R x a w → ∃ e a' w', Q e a' w' ∧ Arrives P (lone (b.at a (.code c :: .inLoop c :: k)) cs w) b k cs e a' w' := by
    intro n
    induction n using Nat.strongRecOn with
    | _ n ih =>
      intro x a w hn hI
      obtain ⟨e, a₁, w₁, hq, harr⟩ := round x a w hI b (.inLoop c :: k) cs
      cases e with
      | normal =>
        obtain ⟨y, hI₁, hlt⟩ := hq
        obtain ⟨e₂, a₂, w₂, hq₂, harr₂⟩ := ih (m y) (hn ▸ hlt) y a₁ w₁ rfl hI₁
        exact ⟨e₂, a₂, w₂, hq₂, .of_steps (Steps.trans harr (.one step_inLoop)) harr₂⟩
      | exit id => exact ⟨_, a₁, w₁, hq, .pass (x := .inLoop c) rfl (fun _ _ => .inl (by simp)) harr⟩
      | goto l => exact ⟨_, a₁, w₁, hq, .pass (x := .inLoop c) rfl (fun _ _ => .inl (by simp)) harr⟩
      | ret => exact ⟨_, a₁, w₁, hq, .pass (x := .inLoop c) rfl (fun _ _ => .inl (by simp)) harr⟩
      | panic ch => exact ⟨_, a₁, w₁, hq, .pass (x := .inLoop c) rfl (fun _ _ => .inl (by simp)) harr⟩
      | outgrown => exact ⟨_, a₁, w₁, hq, .pass (x := .inLoop c) rfl (fun _ _ => .inl (by simp)) harr⟩
  obtain ⟨e, a', w', hq, harr⟩ := key _ x a w rfl h0
  exact ⟨e, a', w', hq, .of_steps (.one step_loop) harr⟩
theorem AW.loop {c : Code} {K : Exit → Sg → Prop} {β : Type} (S : β → Sg) (R : β → Prop) (m : β → Nat) (x : β) (hx : R x)
    (round : ∀ x, R x → AW P N c (S x) (thenK (fun σ' => ∃ y, R y ∧ m y < m x ∧ Sub N σ' (S y)) K)) : AW P N (.loop c) (S x) K := by
  intro G0 w0 a w s
  refine wp_loop_ix (fun x a w => R x ∧ St G0 w0 N (S x) a w) m ?_ x a w ⟨hx, s⟩
  rintro y a1 w1 ⟨hy, sy⟩
  refine wp_mono (round y hy G0 w0 a1 w1 sy) ?_
  rintro e a' w' ⟨σ', h1, h2⟩
  cases e with
  | normal =>
    obtain ⟨z, hz, hm, hsub⟩ := h1
    exact ⟨z, ⟨hz, hsub G0 w0 a' w' h2⟩, hm⟩
  | _ => exact ⟨σ', h1, h2⟩
def All2 (P : Program) (N : Cx) (ops : Array Oper) : List Oper → List Tr → Prop
  | [], [] => True
  | o :: l, t :: k => TrOk P N ops o t ∧ All2 P N ops l k
  | _, _ => False
theorem All2.get {ops : Array Oper} : ∀ {l : List Oper} {k : List Tr}, All2 P N ops l k → ∀ (i : Nat) (o : Oper), l[i]? = some o → ∃ t, k[i]? = some t ∧ TrOk P N ops o t
  | o :: l, t :: k, h, 0, o', ho => by
    simp only [List.getElem?_cons_zero, Option.some.injEq] at ho
    subst ho
    exact ⟨t, rfl, h.1⟩
  | o :: l, t :: k, h, i + 1, o', ho => by
    simp only [List.getElem?_cons_succ] at ho ⊢
    exact All2.get h.2 i o' ho
  | [], _, _, i, o', ho => by simp at ho
  | _ :: _, [], h, i, o', ho => h.elim
theorem All2.length {ops : Array Oper} : ∀ {l : List Oper} {k : List Tr}, All2 P N ops l k → l.length = k.length
  | [], [], _ => rfl
  | o :: l, t :: k, h => by simp [All2.length h.2]
  | [], _ :: _, h => h.elim
  | _ :: _, [], h => h.elim
def Run (P : Program) (N : Cx) (ops : Array Oper) (l : List Oper) (σ : Sg) (K : List Tr → Sg → Prop) : Prop := ∃ trs σ', All2 P N ops l trs ∧ chain σ trs σ' ∧ K trs σ'
theorem Run.nil {ops : Array Oper} {σ : Sg} {K : List Tr → Sg → Prop} (h : K [] σ) : Run P N ops [] σ K := ⟨[], σ, trivial, rfl, h⟩
theorem Run.cons {ops : Array Oper} {o : Oper} {l : List Oper} {σ : Sg} {K : List Tr → Sg → Prop} (tr : Tr) (h : TrOk P N ops o tr) (hp : σ.has tr.pre) (k : Run P N ops l (σ.puts tr.post) (fun trs σ' => K (tr :: trs) σ')) : Run P N ops (o :: l) σ K := by
  obtain ⟨trs, σ', h1, h2, h3⟩ := k
  exact ⟨tr :: trs, σ', ⟨h, h1⟩, ⟨hp, h2⟩, h3⟩
theorem wpOps_of {ops : Array Oper} {G0 : Gh} {w0 : World} {σ' : Sg} {Q : Exit → Act → World → Prop} (hQ : ∀ a w, St G0 w0 N σ' a w → Q .normal a w) :
    ∀ (l : List Oper) (trs : List Tr) (k : Nat) (σ : Sg) (a : Act) (w : World), (∀ i, l[i]? = ops[k + i]?) → All2 P N ops l trs → chain σ trs σ' → St G0 w0 N σ a w → wpOps P ops Q (List.range' k l.length) a w
  | [], [], k, σ, a, w, hl, h1, h2, s => by
    have : σ = σ' := h2
    subst this
    exact hQ a w s
  | o :: l, t :: trs, k, σ, a, w, hl, h1, h2, s => by
    simp only [List.length_cons, List.range'_succ]
    have ho : ops[k]? = some o := by
      have := hl 0
      simpa using this.symm
    rw [wpOps_cons]
    have hone := h1.1 G0 w0 σ a w s h2.1 Q (wpOps P ops Q (List.range' (k + 1) l.length)) (fun a' w' s' => wpOps_of hQ l trs (k + 1) _ a' w' (fun i => by
      have := hl (i + 1)
      simp only [List.getElem?_cons_succ] at this
      rw [this]; congr 1; omega) h1.2 h2.2 s')
    unfold wpOp
    simp only [ho]
    unfold wpOne at hone
    split
    · rename_i hw
      rw [if_pos hw] at hone
      exact .inl hone
    · rename_i hw
      rw [if_neg hw] at hone
      exact hone
  | [], _ :: _, _, _, _, _, _, h, _, _ => h.elim
  | _ :: _, [], _, _, _, _, _, h, _, _ => h.elim
theorem AW.region {id : Nat} {ops : Array Oper} {σ : Sg} {K : Exit → Sg → Prop} (h : Run P N ops ops.toList σ (fun _ σ' => K .normal σ')) : AW P N (.region id ops false) σ K := by
  obtain ⟨trs, σ', h1, h2, h3⟩ := h
  intro G0 w0 a w s
  refine wp_region ?_
  have := wpOps_of (P := P) (Q := fun e a' w' => ∃ σ', K e σ' ∧ St G0 w0 N σ' a' w') (fun a w s => ⟨σ', h3, s⟩) ops.toList trs 0 σ a w (by intro i; simp) h1 h2 s
  rwa [Array.length_toList, ← List.range_eq_range'] at this
theorem tab_all {ops : List Oper} (h : edgesOk 0 ops = true) : Tab ops (befores #[] ops) := by
  refine tab_befores ops (fun o ho => ?_) ops [] #[] rfl rfl (fun i j hb => by simp at hb)
  obtain ⟨i, hi⟩ := List.getElem?_of_mem ho
  have h1 := edgesOk_at ops 0 h i o hi
  have h2 := (List.getElem?_eq_some_iff.1 hi).1
  exact edgesIn_mono (by omega) h1
theorem AW.regionD {id : Nat} {ops : Array Oper} {σ : Sg} {K : Exit → Sg → Prop} (hm : P.follows .mixedOrders = true) (h : Run P N ops ops.toList σ (fun trs σ' => chk ops.toList trs = true ∧ K .normal σ')) : AW P N (.region id ops true) σ K := by
  obtain ⟨trs, σ', h1, h2, h4, h3⟩ := h
  intro G0 w0 a w s
  refine wp_region_any hm ?_
  simp only [chk, Bool.and_eq_true] at h4
  have hT := tab_all h4.1
  have hlen : ops.size = trs.length := by rw [← Array.length_toList]; exact h1.length
  have hnum : ∀ (i : Nat) (x : Nat × Tr), (number 0 trs)[i]? = some x → x.1 = i ∧ trs[i]? = some x.2 := by
    intro i x hx
    rw [number_get] at hx
    obtain ⟨t, ht, rfl⟩ := Option.map_eq_some_iff.1 hx
    exact ⟨by simp, ht⟩
  refine wpAny_of (P := P) (T := befores #[] ops.toList) (N := N) (σ' := σ') (G0 := G0) (w0 := w0) hT (fun i o ho => ?_) (fun a w s => ⟨σ', h3, s⟩) ops.size (Array.replicate ops.size false) (number 0 trs) σ a _ (by simp) (fun j hj => ?_) (fun x hx => ?_) (number_asc trs 0) ?_ (fun i o ho hl => ?_) ?_ (by rw [number_snd]; exact h2) (St.same (w := w) ⟨rfl, rfl, rfl, rfl⟩ s)
  · have := edgesOk_at ops.toList 0 h4.1 i o (by simpa using ho)
    rwa [Nat.zero_add] at this
  · refine ⟨fun _ => ?_, fun _ => by simp [Array.getD, hj]⟩
    have hj' : j < trs.length := by omega
    refine ⟨trs[j], List.mem_of_getElem? (i := j) ?_⟩
    rw [number_get, List.getElem?_eq_getElem hj']
    simp
  · obtain ⟨i, hi⟩ := List.getElem?_of_mem hx
    obtain ⟨e1, e2⟩ := hnum i x hi
    have hi2 : i < ops.toList.length := by
      have := (List.getElem?_eq_some_iff.1 e2).1
      rw [Array.length_toList]; omega
    obtain ⟨t, ht, hok⟩ := h1.get i _ (List.getElem?_eq_getElem hi2)
    rw [e2] at ht
    have : x.2 = t := Option.some.inj ht
    rw [this]
    refine ⟨ops.toList[i], ?_, hok⟩
    rw [e1]
    simp [List.getElem?_eq_getElem, Array.getElem?_eq_getElem (show i < ops.size by rw [← Array.length_toList]; exact hi2)]
  · have := (chkGo_pw (befores #[] ops.toList).toList (number 0 trs) (befores #[] ops.toList).toList [] 0 (by intro i; simp) (fun i x hx => by rw [(hnum i x hx).1]; omega) h4.2).1
    refine this.imp (fun {x y} h => ?_)
    rcases h with h | h
    · left
      simpa [List.getD_eq_getElem?_getD, Array.getD_eq_getD_getElem?] using h
    · exact .inr h
  · exfalso
    have hlt : i < ops.size := (Array.getElem?_eq_some_iff.1 ho).1
    simp [Array.getD, hlt] at hl
  · have : (number 0 trs).length = trs.length := by
      have := congrArg List.length (number_snd trs 0)
      simpa using this
    omega
end
end Go.Sy

