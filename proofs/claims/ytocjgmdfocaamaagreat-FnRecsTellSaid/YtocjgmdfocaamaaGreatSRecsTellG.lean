/- The rules of single operations, part 4: arrays that are made and that grow. -/
import Derived.Test.YtocjgmdfocaamaaGreatSRecsTellF
set_option linter.unusedVariables false
set_option linter.unusedSimpArgs false
namespace Go.Sy
section
variable {P : Program} {N : Cx} {ops : Array Oper}
def Gh.mv (G : Gh) (k : Nat) (kill : Nat → Prop) (r : RI) (Fk : Nat → Prop) : Gh where
  ρ := fun i => if i = k then some r else G.ρ i
  I := G.I
  J := G.J
  F := fun i b => (i = k ∧ Fk b) ∨ (i ≠ k ∧ ¬ kill i ∧ G.F i b)
theorem Hold.mv {G : Gh} {w w' : World} {ob ob' : Nat → Ob} (H : Hold G w ob) {k : Nat} (hk : ob k = .free) (kill : Nat → Prop) (hkill : ¬ kill k)
    (os : w'.os = w.os) (tape : w'.tape = w.tape) (output : w'.output = w.output) (sz : w.heap.size ≤ w'.heap.size) (wr : ∀ b, b < w.heap.size → (∀ i, kill i → ¬ G.F i b) → w'.heap[b]? = w.heap[b]?)
    (r : RI) (Fk : Nat → Prop) (hF : ∀ b, Fk b → (∃ i, kill i ∧ G.F i b) ∨ w.heap.size ≤ b) (hlt : ∀ b, Fk b → b < w'.heap.size) (x : Ob)
    (hx : (∀ v x, RepG w G.I G.J v x → RepG w' G.I G.J v x) → OwnOb (G.mv k kill r Fk).ρ w' G.I G.J (some r) Fk x)
    (h1 : ob' k = x) (h2 : ∀ i, kill i → ob' i = .dead) (h3 : ∀ i, i ≠ k → ¬ kill i → ob' i = ob i) : Hold (G.mv k kill r Fk) w' ob' ∧ Fr G w (G.mv k kill r Fk) w' := by
  obtain ⟨f1, f2⟩ := H.free hk
  refine Hold.step H rfl rfl os tape output sz (fun i r' h => ?_) (fun i => i = k ∨ kill i) (fun i hi => ?_) (fun b hb hf => wr b hb (fun i hi => hf i (.inr hi))) (fun LG L i hi => ?_) (fun i b hi h => ?_) (fun i b hi h => ?_) (fun i j b hi hj h h' => ?_)
  · simp only [Gh.mv]
    by_cases hi : i = k
    · subst hi; rw [f1] at h; cases h
    · rw [if_neg hi]; exact h
  · have hi1 : i ≠ k := fun e => hi (.inl e)
    have hi2 : ¬ kill i := fun e => hi (.inr e)
    refine ⟨h3 i hi1 hi2, by simp [Gh.mv, hi1], ?_⟩
    funext b
    simp [Gh.mv, hi1, hi2]
  · by_cases hik : i = k
    · subst hik
      have e1 : (G.mv i kill r Fk).ρ i = some r := by simp [Gh.mv]
      have e2 : (G.mv i kill r Fk).F i = Fk := by funext b; simp [Gh.mv]
      rw [h1, e1, e2]
      exact hx LG
    · have hi : kill i := hi.resolve_left hik
      rw [h2 i hi]
      intro b hb
      simp only [Gh.mv] at hb
      rcases hb with ⟨hb, _⟩ | ⟨_, hb, _⟩
      · exact hik hb
      · exact hb hi
  · simp only [Gh.mv] at h
    rcases h with ⟨_, h⟩ | ⟨h, h', _⟩
    · rcases hF b h with ⟨j, hj, hb⟩ | h
      · exact .inl ⟨j, .inr hj, hb⟩
      · exact .inr h
    · exact (h' (hi.resolve_left h)).elim
  · simp only [Gh.mv] at h
    rcases h with ⟨_, h⟩ | ⟨h, h', _⟩
    · exact hlt b h
    · exact (h' (hi.resolve_left h)).elim
  · simp only [Gh.mv] at h h'
    rcases h with ⟨e1, _⟩ | ⟨e1, e2, _⟩
    · rcases h' with ⟨e3, _⟩ | ⟨e3, e4, _⟩
      · rw [e1, e3]
      · exact (e4 (hj.resolve_left e3)).elim
    · exact (e2 (hi.resolve_left e1)).elim
def Row (w : World) (I J : Nat → Prop) (v : Value) (e es : Nat) (xs : List V) (M : Nat → Nat → Nat → Prop) : Prop :=
  ∃ cells : List Value, w.ownsRow 0 e es v xs.length cells ∧ (∀ u ∈ cells, u.oneCell' = true) ∧ (∀ (k : Nat) (x : V), xs[k]? = some x → (cl x).length = es) ∧ (∀ x ∈ xs, (cl x).all gO = true) ∧
    ∀ (k : Nat) (x : V), xs[k]? = some x → ∀ (j : Nat) (y : V), (cl x)[j]? = some y → RepN w I J (M k j) (cells.getD (k * es + j) undef) y
def Src (w : World) (I J : Nat → Prop) (v : Value) (es : Nat) (ys : List V) (M : Nat → Nat → Nat → Prop) : Prop :=
  ∃ (A : Option Addr) (c : Nat) (news : List Value), v = .slice A ys.length c ∧ news.length = ys.length * es ∧ (A = none → ys = []) ∧ (∀ ad, A = some ad → ∀ (j : Nat) (u : Value), news[j]? = some u → w.cell? (ad.add j) = some u) ∧ (∀ u ∈ news, u.oneCell' = true) ∧
    (∀ (k : Nat) (x : V), ys[k]? = some x → (cl x).length = es) ∧ (∀ x ∈ ys, (cl x).all gO = true) ∧
    ∀ (k : Nat) (x : V), ys[k]? = some x → ∀ (j : Nat) (y : V), (cl x)[j]? = some y → RepN w I J (M k j) (news.getD (k * es + j) undef) y
def RI.of (v : Value) (es : Nat) : RI :=
  match v with
  | .slice (some a) n c => ⟨some a.block, c, es, n⟩
  | _ => ⟨none, 0, es, 0⟩
theorem own_of_row {ρ : Nat → Option RI} {w : World} {I J : Nat → Prop} {v : Value} {e es : Nat} {xs : List V} {M : Nat → Nat → Nat → Prop} (h : Row w I J v e es xs M) {F : Nat → Prop} (hF : ∀ b, F b ↔ v.ownBlock = some b ∨ ∃ k j, M k j b)
    (ng : ∀ k j b, M k j b → v.ownBlock ≠ some b) (nd : ∀ k j k' j' b, M k j b → M k' j' b → k = k' ∧ j = j') (nb : ∀ k j b, M k j b → ∃ x y, xs[k]? = some x ∧ (cl x)[j]? = some y) :
    (RI.of v es).sl v ∧ OwnOb ρ w I J (some (RI.of v es)) F (.arr e es xs) := by
  obtain ⟨cells, ⟨h1, h2⟩, h3, h4, h5, h6⟩ := h
  rcases h2 with ⟨rfl, h2⟩ | ⟨g, cap, cur, rfl, _, hg, hn, hm, hs, ht⟩
  · have hx : xs = [] := List.eq_nil_of_length_eq_zero h2
    subst hx
    refine ⟨⟨rfl, rfl⟩, ⟨none, 0, es, 0⟩, rfl, rfl, rfl, .inl ⟨rfl, rfl, fun b hb => ?_, rfl⟩⟩
    rcases (hF b).1 hb with hb | ⟨k, j, hb⟩
    · simp [Value.ownBlock] at hb
    · obtain ⟨x, y, hx, _⟩ := nb k j b hb
      simp at hx
  · have hget : ∀ j, j < xs.length * es → cur.getD j undef = cells.getD j undef := by
      intro j hj
      rw [← ht, List.getD_eq_getElem?_getD, List.getElem?_take, if_pos hj, Array.getD_eq_getD_getElem?]
      simp
    refine ⟨rfl, ⟨some g, cap, es, xs.length⟩, rfl, rfl, rfl, .inr ⟨g, cur, M, rfl, hg, hs, hn, hm, h4, fun j hj => ?_, h5, fun k x hx j y hy => ?_, fun b => ?_, fun k j h => ng k j g h rfl, nd, nb⟩⟩
    · rw [hget j hj]
      refine h3 _ ?_
      have hlt : j < cells.length := by omega
      rw [List.getD_eq_getElem?_getD, List.getElem?_eq_getElem hlt]
      exact List.getElem_mem hlt
    · have hj : j < es := by rw [← h4 k x hx]; exact (List.getElem?_eq_some_iff.1 hy).1
      rw [hget _ (idx_lt (List.getElem?_eq_some_iff.1 hx).1 (Nat.le_refl _) hj)]
      exact h6 k x hx j y hy
    · rw [hF b]
      simp [Value.ownBlock, eq_comm]
theorem row_of_own {G : Gh} {w : World} {ob : Nat → Ob} (H : Hold G w ob) {i e es : Nat} {xs : List V} (hob : ob i = .arr e es xs) {v : Value} (hv : G.Rep w v (.ref i)) :
    ∃ M, Row w G.I G.J v e es xs M ∧ (∀ b, G.F i b ↔ v.ownBlock = some b ∨ ∃ k j, M k j b) ∧ (∀ k j b, M k j b → v.ownBlock ≠ some b) ∧ (∀ k j k' j' b, M k j b → M k' j' b → k = k' ∧ j = j') ∧ (∀ k j b, M k j b → ∃ x y, xs[k]? = some x ∧ (cl x)[j]? = some y) := by
  obtain ⟨r, e1, e2⟩ := Rep.inv_ref hv
  obtain ⟨r', f1, f2, f3, f4⟩ := arr_of H hob
  rw [e1] at f1
  obtain rfl := Option.some.inj f1
  rcases f4 with ⟨f4, rfl, f5, _⟩ | ⟨g, cur, M, f4, f5⟩
  · unfold RI.sl at e2
    rw [f4] at e2
    obtain ⟨rfl, _⟩ := e2
    exact ⟨fun _ _ _ => False, ⟨[], World.ownsRow_nil w 0 e es, by simp, by simp, by simp, by simp⟩, fun b => by simp [Value.ownBlock, f5 b], fun _ _ _ h => h.elim, fun _ _ _ _ _ h => h.elim, fun _ _ _ h => h.elim⟩
  · unfold RI.sl at e2
    rw [f4] at e2
    simp only at e2
    subst e2
    rw [f3]
    have hget : ∀ j, j < xs.length * es → (cur.toList.take (xs.length * es)).getD j undef = cur.getD j undef := by
      intro j hj
      rw [List.getD_eq_getElem?_getD, List.getElem?_take, if_pos hj, Array.getD_eq_getD_getElem?]
      simp
    have hle := Nat.mul_le_mul_right es f5.le
    refine ⟨M, ⟨cur.toList.take (xs.length * es), ⟨(by have := f5.size; simp; omega), .inr ⟨g, r.cap, cur, rfl, Nat.zero_le _, f5.heap, f5.le, f5.max, f5.size, rfl⟩⟩, fun u hu => ?_, f5.hl, f5.gr, fun k x hx j y hy => ?_⟩, fun b => ?_, fun k j b h e => ?_, f5.nd, f5.nb⟩
    · obtain ⟨j, hj⟩ := List.getElem?_of_mem hu
      rw [List.getElem?_take] at hj
      split at hj
      · rename_i hlt
        have := f5.one j hlt
        have e : cur.getD j undef = u := by
          have : cur[j]? = some u := by simpa using hj
          simp [Array.getD_eq_getD_getElem?, this]
        rwa [e] at this
      · cases hj
    · have hj : j < es := by rw [← f5.hl k x hx]; exact (List.getElem?_eq_some_iff.1 hy).1
      rw [hget _ (idx_lt (List.getElem?_eq_some_iff.1 hx).1 (Nat.le_refl _) hj)]
      exact f5.rep k x hx j y hy
    · rw [f5.fo b]
      simp [Value.ownBlock, eq_comm]
    · simp [Value.ownBlock] at e
      subst e
      exact f5.ng k j h
theorem src_of_row {w : World} {I J : Nat → Prop} {v : Value} {e es : Nat} {xs : List V} {M : Nat → Nat → Nat → Prop} (h : Row w I J v e es xs M) : Src w I J v es xs M := by
  obtain ⟨cells, h1, h2, h3, h4, h5⟩ := h
  rcases h1.2 with ⟨rfl, hn⟩ | ⟨g, cap, cur, rfl, _, hg, hn, hm, hs, ht⟩
  · have hx : xs = [] := List.eq_nil_of_length_eq_zero hn
    subst hx
    exact ⟨none, 0, cells, rfl, h1.1, fun _ => rfl, (fun ad h => by cases h), h2, h3, h4, h5⟩
  · exact ⟨_, cap, cells, rfl, h1.1, (fun h => by cases h), (fun ad h => by obtain rfl := Option.some.inj h; exact h1.cells (g := g) rfl), h2, h3, h4, h5⟩
def AllP (ys : List V) : Prop := ∀ x ∈ ys, (cl x).all gV = true
theorem gO_of_gV {y : V} (h : gV y = true) : gO y = true := by
  cases y <;> simp_all [gV, gO]
theorem repN_of_G {w : World} {I J : Nat → Prop} {v : Value} {y : V} (hy : gV y = true) (h : RepG w I J v y) : RepN w I J (fun _ => False) v y := by
  cases y <;> simp [gV] at hy <;> exact ⟨h, fun _ h => h⟩
theorem plain_of_gV {y : V} (h : gV y = true) : plain y = true := by
  cases y <;> simp_all [gV, plain]
theorem src_plain {w : World} {I J : Nat → Prop} {v : Value} {es : Nat} {ys : List V} {M : Nat → Nat → Nat → Prop} (h : Src w I J v es ys M) (hp : AllP ys) : Src w I J v es ys (fun _ _ _ => False) := by
  obtain ⟨A, c, news, h1, h2, h3, h4, h5, h6, h7, h8⟩ := h
  refine ⟨A, c, news, h1, h2, h3, h4, h5, h6, h7, fun k x hx j y hy => ?_⟩
  have hg := (List.all_eq_true.1 (hp x (List.mem_of_getElem? hx))) y (List.mem_of_getElem? hy)
  exact repN_of_G hg (RepN.plain (h8 k x hx j y hy) (plain_of_gV hg)).1
theorem src_of_sl {G : Gh} {w : World} {v : Value} {p : Bool} {es : Nat} {ys : List V} (h : G.Rep w v (.sl p es ys)) (hp : AllP ys) : Src w G.I G.J v es ys (fun _ _ _ => False) := by
  have h := Rep.inv_sl h
  cases h with
  | slE A c => exact ⟨A, c, [], rfl, by simp, fun _ => rfl, by simp, by simp, by simp, by simp, by simp⟩
  | sl ad n c _ _ _ u hn hc hm hp' hl hu ho hq hr =>
    subst hn
    have hflat : ∀ t, t < ys.length * es → ∃ k j x y, t = k * es + j ∧ ys[k]? = some x ∧ (cl x)[j]? = some y := by
      intro t ht
      have he : 0 < es := by
        rcases Nat.eq_zero_or_pos es with h | h
        · subst h; simp at ht
        · exact h
      have hk : t / es < ys.length := Nat.div_lt_of_lt_mul (by rw [Nat.mul_comm]; exact ht)
      have hj : t % es < es := Nat.mod_lt _ he
      have hx := List.getElem?_eq_getElem hk
      have hlen := hl _ _ hx
      exact ⟨t / es, t % es, _, _, by rw [Nat.mul_comm]; exact (Nat.div_add_mod t es).symm, hx, List.getElem?_eq_getElem (by omega)⟩
    refine ⟨some ad, c, (List.range (ys.length * es)).map fun t => u (t / es) (t % es), rfl, by simp, (fun h => by cases h), fun ad' h j z hz => ?_, fun z hz => ?_, hl, fun x hx => ?_, fun k x hx j y hy => ?_⟩
    · obtain rfl := Option.some.inj h
      rw [List.getElem?_map] at hz
      obtain ⟨t, ht, rfl⟩ := Option.map_eq_some_iff.1 hz
      have hlt : j < ys.length * es := by have := (List.getElem?_eq_some_iff.1 ht).1; simpa using this
      obtain rfl : j = t := by simpa [List.getElem?_range hlt] using ht
      obtain ⟨k, i, x, y, rfl, hx, hy⟩ := hflat j hlt
      have hi : i < es := by rw [← hl k x hx]; exact (List.getElem?_eq_some_iff.1 hy).1
      rw [hu k x hx i y hy]
      congr 2
      · rw [Nat.mul_comm, Nat.mul_add_div (by omega), Nat.div_eq_of_lt hi, Nat.add_zero]
      · rw [Nat.mul_comm, Nat.mul_add_mod, Nat.mod_eq_of_lt hi]
    · obtain ⟨t, ht, rfl⟩ := List.mem_map.1 hz
      obtain ⟨k, i, x, y, rfl, hx, hy⟩ := hflat t (by simpa using ht)
      have hi : i < es := by rw [← hl k x hx]; exact (List.getElem?_eq_some_iff.1 hy).1
      have e1 : (k * es + i) / es = k := by rw [Nat.mul_comm, Nat.mul_add_div (by omega), Nat.div_eq_of_lt hi, Nat.add_zero]
      have e2 : (k * es + i) % es = i := by rw [Nat.mul_comm, Nat.mul_add_mod, Nat.mod_eq_of_lt hi]
      rw [e1, e2]
      exact ho k x hx i y hy
    · have := hp x hx
      rw [List.all_eq_true] at this ⊢
      exact fun z hz => gO_of_gV (this z hz)
    · have hi : j < es := by rw [← hl k x hx]; exact (List.getElem?_eq_some_iff.1 hy).1
      have e1 : (k * es + j) / es = k := by rw [Nat.mul_comm, Nat.mul_add_div (by omega), Nat.div_eq_of_lt hi, Nat.add_zero]
      have e2 : (k * es + j) % es = j := by rw [Nat.mul_comm, Nat.mul_add_mod, Nat.mod_eq_of_lt hi]
      have hlt := idx_lt (List.getElem?_eq_some_iff.1 hx).1 (Nat.le_refl _) hi
      rw [List.getD_eq_getElem?_getD, List.getElem?_map, List.getElem?_range hlt]
      simp only [Option.map_some, Option.getD_some, e1, e2]
      exact repN_of_G ((List.all_eq_true.1 (hp x (List.mem_of_getElem? hx))) y (List.mem_of_getElem? hy)) (hr k x hx j y hy)
def elInfo (P : Program) (e : Nat) : Option (Nat × Nat) :=
  match P.info? e with
  | some i => match i.zero with
    | some z => if z.cells.size = i.size ∧ 0 < i.size then some (i.size, i.bytes) else none
    | none => none
  | none => none
theorem run_app {t ty e es bytes : Nat} (hu : P.underlying t = some (.slice e)) (hi : elInfo P e = some (es, bytes)) {w : World} {I J : Nat → Prop} {v v2 : Value} {n m : Nat} {cells : List Value} {ys : List V} {M : Nat → Nat → Nat → Prop}
    (h1 : w.ownsRow 0 e es v n cells) (A : Option Addr) (c : Nat) (news : List Value) (hv2 : v2 = .slice A m c) (hl : news.length = m * es) (hA : A = none → m = 0) (hc : ∀ ad, A = some ad → ∀ (j : Nat) (u : Value), news[j]? = some u → w.cell? (ad.add j) = some u) (ho : ∀ u ∈ news, u.oneCell' = true)
    (hb : (n + m) * bytes ≤ 140737488355328) (hm : n + m ≤ maxLen) :
    ∃ v' w', (Builtin.append_ #[t, t] ty #[v, v2]).run P w = .ok v' w' ∧ w'.ownsRow 0 e es v' (n + m) (cells ++ news) ∧ w.grownBy w' v.ownBlock ∧ (v'.ownBlock = v.ownBlock ∨ v'.ownBlock = some w.heap.size) := by
  unfold elInfo at hi
  split at hi
  · rename_i inf hinf
    split at hi
    · rename_i z hz
      split at hi
      · rename_i hzz
        simp only [Option.some.injEq, Prod.mk.injEq] at hi
        obtain ⟨rfl, rfl⟩ := hi
        subst hv2
        cases A with
        | some ad =>
          obtain ⟨v', w', a1, a2, a3, _, a5⟩ := run_append_own_at (P := P) w 0 t ty e inf z inf.size inf.bytes hu hinf hz rfl rfl hzz.1 hzz.2 v n cells h1 ad m c news hl (hc ad rfl) ho hm hb (Nat.zero_le _)
          exact ⟨v', w', a1, a2, a3, a5⟩
        | none =>
          obtain rfl := hA rfl
          obtain rfl : news = [] := List.eq_nil_of_length_eq_zero (by simpa using hl)
          refine ⟨v, w, ?_, by simpa using h1, ⟨rfl, rfl, rfl, Nat.le_refl _, fun _ _ _ => rfl⟩, .inl rfl⟩
          rcases h1.2 with ⟨rfl, hn⟩ | ⟨g, cap, cur, rfl, _, _, hnc, _⟩
          · simp [Builtin.append_, run_underlying hu, sizeOf, typeInfo, hinf, Builtin.lenOf, Builtin.firstCells]
          · simp [Builtin.append_, run_underlying hu, sizeOf, typeInfo, hinf, Builtin.lenOf, Builtin.firstCells, hnc, storeCells]
      · cases hi
    · cases hi
  · cases hi
theorem app_core {t ty e es bytes k : Nat} (hu : P.underlying t = some (.slice e)) (hi : elInfo P e = some (es, bytes)) {G : Gh} {w : World} {ob ob' : Nat → Ob} (H : Hold G w ob) (hk : ob k = .free) (kill : Nat → Prop) (hkill : ¬ kill k) {v v2 : Value} {xs ys : List V} {M1 M2 : Nat → Nat → Nat → Prop}
    (h1 : Row w G.I G.J v e es xs M1) (h2 : Src w G.I G.J v2 es ys M2) (hv : ∀ b, v.ownBlock = some b → ∃ i, kill i ∧ G.F i b)
    (k1 : ∀ a j b, M1 a j b → ∃ i, kill i ∧ G.F i b) (k2 : ∀ a j b, M2 a j b → ∃ i, kill i ∧ G.F i b) (g1 : ∀ a j b, M1 a j b → v.ownBlock ≠ some b) (g2 : ∀ a j b, M2 a j b → v.ownBlock ≠ some b)
    (d12 : ∀ a j a' j' b, M1 a j b → M2 a' j' b → False) (d1 : ∀ a j a' j' b, M1 a j b → M1 a' j' b → a = a' ∧ j = j') (d2 : ∀ a j a' j' b, M2 a j b → M2 a' j' b → a = a' ∧ j = j')
    (n1 : ∀ a j b, M1 a j b → ∃ x y, xs[a]? = some x ∧ (cl x)[j]? = some y) (n2 : ∀ a j b, M2 a j b → ∃ x y, ys[a]? = some x ∧ (cl x)[j]? = some y)
    (hb : (xs.length + ys.length) * bytes ≤ 140737488355328) (hm : xs.length + ys.length ≤ maxLen)
    (o1 : ob' k = .arr e es (xs ++ ys)) (o2 : ∀ i, kill i → ob' i = .dead) (o3 : ∀ i, i ≠ k → ¬ kill i → ob' i = ob i) :
    ∃ v' w' G' r, (Builtin.append_ #[t, t] ty #[v, v2]).run P w = .ok v' w' ∧ Hold G' w' ob' ∧ Fr G w G' w' ∧ G'.ρ k = some r ∧ r.sl v' := by
  obtain ⟨cells, c1, c2, c3, c4, c5⟩ := h1
  obtain ⟨A, c, news, s1, s2, s3, s4, s5, s6, s7, s8⟩ := h2
  obtain ⟨v', w', r1, r2, r3, r4⟩ := run_app (P := P) (ty := ty) hu hi (I := G.I) (J := G.J) (ys := ys) (M := M2) c1 A c news s1 s2 (fun h => by rw [s3 h]; rfl) s4 s5 hb hm
  have hlt : ∀ b, v.ownBlock = some b → b < w.heap.size := fun b hb => by obtain ⟨i, _, h⟩ := hv b hb; exact H.flt i b h
  have klt1 : ∀ a j b, M1 a j b → b < w.heap.size := fun a j b h => by obtain ⟨i, _, h⟩ := k1 a j b h; exact H.flt i b h
  have klt2 : ∀ a j b, M2 a j b → b < w.heap.size := fun a j b h => by obtain ⟨i, _, h⟩ := k2 a j b h; exact H.flt i b h
  let M : Nat → Nat → Nat → Prop := fun a j b => if a < xs.length then M1 a j b else M2 (a - xs.length) j b
  have hMlt : ∀ a j b, M a j b → b < w.heap.size := by
    intro a j b h
    simp only [M] at h
    split at h
    · exact klt1 _ _ _ h
    · exact klt2 _ _ _ h
  have hMg : ∀ a j b, M a j b → v.ownBlock ≠ some b := by
    intro a j b h
    simp only [M] at h
    split at h
    · exact g1 _ _ _ h
    · exact g2 _ _ _ h
  have hMk : ∀ a j b, M a j b → ∃ i, kill i ∧ G.F i b := by
    intro a j b h
    simp only [M] at h
    split at h
    · exact k1 _ _ _ h
    · exact k2 _ _ _ h
  have hg' : ∀ a j b, M a j b → v'.ownBlock ≠ some b := by
    intro a j b h e
    rcases r4 with r4 | r4
    · exact hMg a j b h (by rw [← r4]; exact e)
    · have := hMlt a j b h
      rw [r4] at e
      simp at e
      omega
  have hlen := c1.1
  have hrow : (∀ v x, RepG w G.I G.J v x → RepG w' G.I G.J v x) → Row w' G.I G.J v' e es (xs ++ ys) M := by
    intro LG
    refine ⟨cells ++ news, by rw [List.length_append]; exact r2, fun u hu => ?_, fun a x hx => ?_, fun x hx => ?_, fun a x hx j y hy => ?_⟩
    · rcases List.mem_append.1 hu with h | h
      · exact c2 u h
      · exact s5 u h
    · rw [List.getElem?_append] at hx
      split at hx
      · exact c3 a x hx
      · exact s6 _ x hx
    · rcases List.mem_append.1 hx with h | h
      · exact c4 x h
      · exact s7 x h
    · rw [List.getElem?_append] at hx
      by_cases ha : a < xs.length
      · rw [if_pos ha] at hx
        have hj : j < es := by rw [← c3 a x hx]; exact (List.getElem?_eq_some_iff.1 hy).1
        have hlt := idx_lt ha (Nat.le_refl _) hj
        have e1 : (cells ++ news).getD (a * es + j) undef = cells.getD (a * es + j) undef := by
          rw [List.getD_eq_getElem?_getD, List.getElem?_append_left (by omega), ← List.getD_eq_getElem?_getD]
        have e2 : M a j = M1 a j := by funext b; simp [M, ha]
        rw [e1, e2]
        exact (c5 a x hx j y hy).lift LG (fun b hb => r3.block b (klt1 _ _ _ hb) (fun e => g1 _ _ _ hb e.symm))
      · rw [if_neg ha] at hx
        have hj : j < es := by rw [← s6 _ x hx]; exact (List.getElem?_eq_some_iff.1 hy).1
        have e0 : a * es = xs.length * es + (a - xs.length) * es := by rw [← Nat.add_mul]; congr 1; omega
        have e1 : (cells ++ news).getD (a * es + j) undef = news.getD ((a - xs.length) * es + j) undef := by
          rw [List.getD_eq_getElem?_getD, List.getElem?_append_right (by omega), ← List.getD_eq_getElem?_getD]
          congr 1
          omega
        have e2 : M a j = M2 (a - xs.length) j := by funext b; simp [M, ha]
        rw [e1, e2]
        exact (s8 _ x hx j y hy).lift LG (fun b hb => r3.block b (klt2 _ _ _ hb) (fun e => g2 _ _ _ hb e.symm))
  have hnd : ∀ a j a' j' b, M a j b → M a' j' b → a = a' ∧ j = j' := by
    intro a j a' j' b h h'
    simp only [M] at h h'
    split at h
    · split at h'
      · exact d1 _ _ _ _ _ h h'
      · exact (d12 _ _ _ _ _ h h').elim
    · split at h'
      · exact (d12 _ _ _ _ _ h' h).elim
      · obtain ⟨q1, q2⟩ := d2 _ _ _ _ _ h h'
        exact ⟨by omega, q2⟩
  have hnb : ∀ a j b, M a j b → ∃ x y, (xs ++ ys)[a]? = some x ∧ (cl x)[j]? = some y := by
    intro a j b h
    simp only [M] at h
    split at h
    · rename_i ha
      obtain ⟨x, y, h1, h2⟩ := n1 _ _ _ h
      exact ⟨x, y, by rw [List.getElem?_append_left ha]; exact h1, h2⟩
    · rename_i ha
      obtain ⟨x, y, h1, h2⟩ := n2 _ _ _ h
      exact ⟨x, y, by rw [List.getElem?_append_right (by omega)]; exact h1, h2⟩
  have hvlt : ∀ b, v'.ownBlock = some b → b < w'.heap.size := fun b hb => (r2.lt b hb).2
  have LG : ∀ v x, RepG w G.I G.J v x → RepG w' G.I G.J v x := fun v x h => h.mono (fun _ h => h) (fun _ h => h) (fun b hb => by
    have hj : G.J b := hb.elim (H.ij b) id
    refine r3.block b (H.lt b hj) (fun e => ?_)
    obtain ⟨i, _, h⟩ := hv b e.symm
    exact H.fj i b h hj)
  obtain ⟨q1, _⟩ := own_of_row (ρ := G.ρ) (hrow LG) (F := fun b => v'.ownBlock = some b ∨ ∃ a j, M a j b) (fun b => Iff.rfl) hg' hnd hnb
  have := H.mv hk kill hkill (w' := w') (ob' := ob') r3.os r3.tape r3.output r3.size (fun b hb hf => r3.block b hb (fun e => by
      obtain ⟨i, hi, h⟩ := hv b e.symm
      exact hf i hi h)) (RI.of v' es) (fun b => v'.ownBlock = some b ∨ ∃ a j, M a j b) (fun b hb => by
      rcases hb with hb | ⟨a, j, hb⟩
      · rcases r4 with r4 | r4
        · exact .inl (hv b (by rw [← r4]; exact hb))
        · rw [r4] at hb
          simp at hb
          exact .inr (by omega)
      · exact .inl (hMk a j b hb)) (fun b hb => by
      rcases hb with hb | ⟨a, j, hb⟩
      · exact hvlt b hb
      · exact Nat.lt_of_lt_of_le (hMlt a j b hb) r3.size) (.arr e es (xs ++ ys)) (fun LG' => (own_of_row (hrow LG') (fun b => Iff.rfl) hg' hnd hnb).2) o1 o2 o3
  exact ⟨v', w', _, _, r1, this.1, this.2, by simp [Gh.mv], q1⟩
end
end Go.Sy

