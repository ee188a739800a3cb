/- The program logic with symbolic states that this claim stands on (a text of several, laid together). -/
import Derived.Test.YtahackghhalfeaaGreatDoorSSourceG1
import Derived.Laws.MakeOwn
section
set_option linter.unusedVariables false
set_option linter.unusedSimpArgs false
namespace Go.Sy
section
variable {P : Program} {N : Cx} {ops : Array Oper}
def Gh.mv (G : Gh) (k : Nat) (kill : Nat → Prop) (r : RI) (Fk : Nat → Prop) : Gh where
  ρ := fun i => if i = k then some r else G.ρ i
  I := G.I
  J := G.J
  F := fun i b => (i = k ∧ Fk b) ∨ (i ≠ k ∧ ¬ kill i ∧ G.F i b)
theorem Hold.mv {G : Gh} {w w' : World} {ob ob' : Nat → Ob} (H : Hold G w ob) {k : Nat} (hk : ob k = .free) (kill : Nat → Prop) (hkill : ¬ kill k)
    (os : w'.os = w.os) (tape : w'.tape = w.tape) (output : w'.output = w.output) (sz : w.heap.size ≤ w'.heap.size) (wr : ∀ b, b < w.heap.size → (∀ i, kill i → ¬ G.F i b) → w'.heap[b]? = w.heap[b]?)
    (r : RI) (Fk : Nat → Prop) (hF : ∀ b, Fk b → (∃ i, kill i ∧ G.F i b) ∨ w.heap.size ≤ b) (hlt : ∀ b, Fk b → b < w'.heap.size) (x : Ob)
    (hx : (∀ v x, RepG w G.I G.J v x → RepG w' G.I G.J v x) → OwnOb (G.mv k kill r Fk).ρ w' G.I G.J (some r) Fk x)
    (h1 : ob' k = x) (h2 : ∀ i, kill i → ob' i = .dead) (h3 : ∀ i, i ≠ k → ¬ kill i → ob' i = ob i) : Hold (G.mv k kill r Fk) w' ob' ∧ Fr G w (G.mv k kill r Fk) w' := by
  obtain ⟨f1, f2⟩ := H.free hk
  refine Hold.step H rfl rfl os tape output sz (fun i r' h => ?_) (fun i => i = k ∨ kill i) (fun i hi => ?_) (fun b hb hf => wr b hb (fun i hi => hf i (.inr hi))) (fun LG L i hi => ?_) (fun i b hi h => ?_) (fun i b hi h => ?_) (fun i j b hi hj h h' => ?_)
  · simp only [Gh.mv]
    by_cases hi : i = k
    · subst hi; rw [f1] at h; cases h
    · rw [if_neg hi]; exact h
  · have hi1 : i ≠ k := fun e => hi (.inl e)
    have hi2 : ¬ kill i := fun e => hi (.inr e)
    refine ⟨h3 i hi1 hi2, by simp [Gh.mv, hi1], ?_⟩
    funext b
    simp [Gh.mv, hi1, hi2]
  · by_cases hik : i = k
    · subst hik
      have e1 : (G.mv i kill r Fk).ρ i = some r := by simp [Gh.mv]
      have e2 : (G.mv i kill r Fk).F i = Fk := by funext b; simp [Gh.mv]
      rw [h1, e1, e2]
      exact hx LG
    · have hi : kill i := hi.resolve_left hik
      rw [h2 i hi]
      intro b hb
      simp only [Gh.mv] at hb
      rcases hb with ⟨hb, _⟩ | ⟨_, hb, _⟩
      · exact hik hb
      · exact hb hi
  · simp only [Gh.mv] at h
    rcases h with ⟨_, h⟩ | ⟨h, h', _⟩
    · rcases hF b h with ⟨j, hj, hb⟩ | h
      · exact .inl ⟨j, .inr hj, hb⟩
      · exact .inr h
    · exact (h' (hi.resolve_left h)).elim
  · simp only [Gh.mv] at h
    rcases h with ⟨_, h⟩ | ⟨h, h', _⟩
    · exact hlt b h
    · exact (h' (hi.resolve_left h)).elim
  · simp only [Gh.mv] at h h'
    rcases h with ⟨e1, _⟩ | ⟨e1, e2, _⟩
    · rcases h' with ⟨e3, _⟩ | ⟨e3, e4, _⟩
      · rw [e1, e3]
      · exact (e4 (hj.resolve_left e3)).elim
    · exact (e2 (hi.resolve_left e1)).elim
def Row (w : World) (I J : Nat → Prop) (v : Value) (e es : Nat) (xs : List V) (M : Nat → Nat → Nat → Prop) : Prop :=
  ∃ cells : List Value, w.ownsRow 0 e es v xs.length cells ∧ (∀ u ∈ cells, u.oneCell' = true) ∧ (∀ (k : Nat) (x : V), xs[k]? = some x → (cl x).length = es) ∧ (∀ x ∈ xs, (cl x).all gO = true) ∧
    ∀ (k : Nat) (x : V), xs[k]? = some x → ∀ (j : Nat) (y : V), (cl x)[j]? = some y → RepN w I J (M k j) (cells.getD (k * es + j) undef) y
def Src (w : World) (I J : Nat → Prop) (v : Value) (es : Nat) (ys : List V) (M : Nat → Nat → Nat → Prop) : Prop :=
  ∃ (A : Option Addr) (c : Nat) (news : List Value), v = .slice A ys.length c ∧ news.length = ys.length * es ∧ (A = none → ys = []) ∧ (∀ ad, A = some ad → ∀ (j : Nat) (u : Value), news[j]? = some u → w.cell? (ad.add j) = some u) ∧ (∀ u ∈ news, u.oneCell' = true) ∧
    (∀ (k : Nat) (x : V), ys[k]? = some x → (cl x).length = es) ∧ (∀ x ∈ ys, (cl x).all gO = true) ∧
    ∀ (k : Nat) (x : V), ys[k]? = some x → ∀ (j : Nat) (y : V), (cl x)[j]? = some y → RepN w I J (M k j) (news.getD (k * es + j) undef) y
def RI.of (v : Value) (es : Nat) : RI :=
  match v with
  | .slice (some a) n c => ⟨some a.block, c, es, n⟩
  | _ => ⟨none, 0, es, 0⟩
theorem own_of_row {ρ : Nat → Option RI} {w : World} {I J : Nat → Prop} {v : Value} {e es : Nat} {xs : List V} {M : Nat → Nat → Nat → Prop} (h : Row w I J v e es xs M) {F : Nat → Prop} (hF : ∀ b, F b ↔ v.ownBlock = some b ∨ ∃ k j, M k j b)
    (ng : ∀ k j b, M k j b → v.ownBlock ≠ some b) (nd : ∀ k j k' j' b, M k j b → M k' j' b → k = k' ∧ j = j') (nb : ∀ k j b, M k j b → ∃ x y, xs[k]? = some x ∧ (cl x)[j]? = some y) :
    (RI.of v es).sl v ∧ OwnOb ρ w I J (some (RI.of v es)) F (.arr e es xs) := by
  obtain ⟨cells, ⟨h1, h2⟩, h3, h4, h5, h6⟩ := h
  rcases h2 with ⟨rfl, h2⟩ | ⟨g, cap, cur, rfl, _, hg, hn, hm, hs, ht⟩
  · have hx : xs = [] := List.eq_nil_of_length_eq_zero h2
    subst hx
    refine ⟨⟨rfl, rfl⟩, ⟨none, 0, es, 0⟩, rfl, rfl, rfl, .inl ⟨rfl, rfl, fun b hb => ?_, rfl⟩⟩
    rcases (hF b).1 hb with hb | ⟨k, j, hb⟩
    · simp [Value.ownBlock] at hb
    · obtain ⟨x, y, hx, _⟩ := nb k j b hb
      simp at hx
  · have hget : ∀ j, j < xs.length * es → cur.getD j undef = cells.getD j undef := by
      intro j hj
      rw [← ht, List.getD_eq_getElem?_getD, List.getElem?_take, if_pos hj, Array.getD_eq_getD_getElem?]
      simp
    refine ⟨rfl, ⟨some g, cap, es, xs.length⟩, rfl, rfl, rfl, .inr ⟨g, cur, M, rfl, hg, hs, hn, hm, h4, fun j hj => ?_, h5, fun k x hx j y hy => ?_, fun b => ?_, fun k j h => ng k j g h rfl, nd, nb⟩⟩
    · rw [hget j hj]
      refine h3 _ ?_
      have hlt : j < cells.length := by omega
      rw [List.getD_eq_getElem?_getD, List.getElem?_eq_getElem hlt]
      exact List.getElem_mem hlt
    · have hj : j < es := by rw [← h4 k x hx]; exact (List.getElem?_eq_some_iff.1 hy).1
      rw [hget _ (idx_lt (List.getElem?_eq_some_iff.1 hx).1 (Nat.le_refl _) hj)]
      exact h6 k x hx j y hy
    · rw [hF b]
      simp [Value.ownBlock, eq_comm]
theorem row_of_own {G : Gh} {w : World} {ob : Nat → Ob} (H : Hold G w ob) {i e es : Nat} {xs : List V} (hob : ob i = .arr e es xs) {v : Value} (hv : G.Rep w v (.ref i)) :
    ∃ M, Row w G.I G.J v e es xs M ∧ (∀ b, G.F i b ↔ v.ownBlock = some b ∨ ∃ k j, M k j b) ∧ (∀ k j b, M k j b → v.ownBlock ≠ some b) ∧ (∀ k j k' j' b, M k j b → M k' j' b → k = k' ∧ j = j') ∧ (∀ k j b, M k j b → ∃ x y, xs[k]? = some x ∧ (cl x)[j]? = some y) := by
  obtain ⟨r, e1, e2⟩ := Rep.inv_ref hv
  obtain ⟨r', f1, f2, f3, f4⟩ := arr_of H hob
  rw [e1] at f1
  obtain rfl := Option.some.inj f1
  rcases f4 with ⟨f4, rfl, f5, _⟩ | ⟨g, cur, M, f4, f5⟩
  · unfold RI.sl at e2
    rw [f4] at e2
    obtain ⟨rfl, _⟩ := e2
    exact ⟨fun _ _ _ => False, ⟨[], World.ownsRow_nil w 0 e es, by simp, by simp, by simp, by simp⟩, fun b => by simp [Value.ownBlock, f5 b], fun _ _ _ h => h.elim, fun _ _ _ _ _ h => h.elim, fun _ _ _ h => h.elim⟩
  · unfold RI.sl at e2
    rw [f4] at e2
    simp only at e2
    subst e2
    rw [f3]
    have hget : ∀ j, j < xs.length * es → (cur.toList.take (xs.length * es)).getD j undef = cur.getD j undef := by
      intro j hj
      rw [List.getD_eq_getElem?_getD, List.getElem?_take, if_pos hj, Array.getD_eq_getD_getElem?]
      simp
    have hle := Nat.mul_le_mul_right es f5.le
    refine ⟨M, ⟨cur.toList.take (xs.length * es), ⟨(by have := f5.size; simp; omega), .inr ⟨g, r.cap, cur, rfl, Nat.zero_le _, f5.heap, f5.le, f5.max, f5.size, rfl⟩⟩, fun u hu => ?_, f5.hl, f5.gr, fun k x hx j y hy => ?_⟩, fun b => ?_, fun k j b h e => ?_, f5.nd, f5.nb⟩
    · obtain ⟨j, hj⟩ := List.getElem?_of_mem hu
      rw [List.getElem?_take] at hj
      split at hj
      · rename_i hlt
        have := f5.one j hlt
        have e : cur.getD j undef = u := by
          have : cur[j]? = some u := by simpa using hj
          simp [Array.getD_eq_getD_getElem?, this]
        rwa [e] at this
      · cases hj
    · have hj : j < es := by rw [← f5.hl k x hx]; exact (List.getElem?_eq_some_iff.1 hy).1
      rw [hget _ (idx_lt (List.getElem?_eq_some_iff.1 hx).1 (Nat.le_refl _) hj)]
      exact f5.rep k x hx j y hy
    · rw [f5.fo b]
      simp [Value.ownBlock, eq_comm]
    · simp [Value.ownBlock] at e
      subst e
      exact f5.ng k j h
theorem src_of_row {w : World} {I J : Nat → Prop} {v : Value} {e es : Nat} {xs : List V} {M : Nat → Nat → Nat → Prop} (h : Row w I J v e es xs M) : Src w I J v es xs M := by
  obtain ⟨cells, h1, h2, h3, h4, h5⟩ := h
  rcases h1.2 with ⟨rfl, hn⟩ | ⟨g, cap, cur, rfl, _, hg, hn, hm, hs, ht⟩
  · have hx : xs = [] := List.eq_nil_of_length_eq_zero hn
    subst hx
    exact ⟨none, 0, cells, rfl, h1.1, fun _ => rfl, (fun ad h => by cases h), h2, h3, h4, h5⟩
  · exact ⟨_, cap, cells, rfl, h1.1, (fun h => by cases h), (fun ad h => by obtain rfl := Option.some.inj h; exact h1.cells (g := g) rfl), h2, h3, h4, h5⟩
def AllP (ys : List V) : Prop := ∀ x ∈ ys, (cl x).all gV = true
theorem gO_of_gV {y : V} (h : gV y = true) : gO y = true := by
  cases y <;> simp_all [gV, gO]
theorem repN_of_G {w : World} {I J : Nat → Prop} {v : Value} {y : V} (hy : gV y = true) (h : RepG w I J v y) : RepN w I J (fun _ => False) v y := by
  cases y <;> simp [gV] at hy <;> exact ⟨h, fun _ h => h⟩
theorem plain_of_gV {y : V} (h : gV y = true) : plain y = true := by
  cases y <;> simp_all [gV, plain]
theorem src_plain {w : World} {I J : Nat → Prop} {v : Value} {es : Nat} {ys : List V} {M : Nat → Nat → Nat → Prop} (h : Src w I J v es ys M) (hp : AllP ys) : Src w I J v es ys (fun _ _ _ => False) := by
  obtain ⟨A, c, news, h1, h2, h3, h4, h5, h6, h7, h8⟩ := h
  refine ⟨A, c, news, h1, h2, h3, h4, h5, h6, h7, fun k x hx j y hy => ?_⟩
  have hg := (List.all_eq_true.1 (hp x (List.mem_of_getElem? hx))) y (List.mem_of_getElem? hy)
  exact repN_of_G hg (RepN.plain (h8 k x hx j y hy) (plain_of_gV hg)).1
theorem src_of_sl {G : Gh} {w : World} {v : Value} {p : Bool} {es : Nat} {ys : List V} (h : G.Rep w v (.sl p es ys)) (hp : AllP ys) : Src w G.I G.J v es ys (fun _ _ _ => False) := by
  have h := Rep.inv_sl h
  cases h with
  | slE A c => exact ⟨A, c, [], rfl, by simp, fun _ => rfl, by simp, by simp, by simp, by simp, by simp⟩
  | sl ad n c _ _ _ u hn hc hm hp' hl hu ho hq hr =>
    subst hn
    have hflat : ∀ t, t < ys.length * es → ∃ k j x y, t = k * es + j ∧ ys[k]? = some x ∧ (cl x)[j]? = some y := by
      intro t ht
      have he : 0 < es := by
        rcases Nat.eq_zero_or_pos es with h | h
        · subst h; simp at ht
        · exact h
      have hk : t / es < ys.length := Nat.div_lt_of_lt_mul (by rw [Nat.mul_comm]; exact ht)
      have hj : t % es < es := Nat.mod_lt _ he
      have hx := List.getElem?_eq_getElem hk
      have hlen := hl _ _ hx
      exact ⟨t / es, t % es, _, _, by rw [Nat.mul_comm]; exact (Nat.div_add_mod t es).symm, hx, List.getElem?_eq_getElem (by omega)⟩
    refine ⟨some ad, c, (List.range (ys.length * es)).map fun t => u (t / es) (t % es), rfl, by simp, (fun h => by cases h), fun ad' h j z hz => ?_, fun z hz => ?_, hl, fun x hx => ?_, fun k x hx j y hy => ?_⟩
    · obtain rfl := Option.some.inj h
      rw [List.getElem?_map] at hz
      obtain ⟨t, ht, rfl⟩ := Option.map_eq_some_iff.1 hz
      have hlt : j < ys.length * es := by have := (List.getElem?_eq_some_iff.1 ht).1; simpa using this
      obtain rfl : j = t := by simpa [List.getElem?_range hlt] using ht
      obtain ⟨k, i, x, y, rfl, hx, hy⟩ := hflat j hlt
      have hi : i < es := by rw [← hl k x hx]; exact (List.getElem?_eq_some_iff.1 hy).1
      rw [hu k x hx i y hy]
      congr 2
      · rw [Nat.mul_comm, Nat.mul_add_div (by omega), Nat.div_eq_of_lt hi, Nat.add_zero]
      · rw [Nat.mul_comm, Nat.mul_add_mod, Nat.mod_eq_of_lt hi]
    · obtain ⟨t, ht, rfl⟩ := List.mem_map.1 hz
      obtain ⟨k, i, x, y, rfl, hx, hy⟩ := hflat t (by simpa using ht)
      have hi : i < es := by rw [← hl k x hx]; exact (List.getElem?_eq_some_iff.1 hy).1
      have e1 : (k * es + i) / es = k := by rw [Nat.mul_comm, Nat.mul_add_div (by omega), Nat.div_eq_of_lt hi, Nat.add_zero]
      have e2 : (k * es + i) % es = i := by rw [Nat.mul_comm, Nat.mul_add_mod, Nat.mod_eq_of_lt hi]
      rw [e1, e2]
      exact ho k x hx i y hy
    · have := hp x hx
      rw [List.all_eq_true] at this ⊢
      exact fun z hz => gO_of_gV (this z hz)
    · have hi : j < es := by rw [← hl k x hx]; exact (List.getElem?_eq_some_iff.1 hy).1
      have e1 : (k * es + j) / es = k := by rw [Nat.mul_comm, Nat.mul_add_div (by omega), Nat.div_eq_of_lt hi, Nat.add_zero]
      have e2 : (k * es + j) % es = j := by rw [Nat.mul_comm, Nat.mul_add_mod, Nat.mod_eq_of_lt hi]
      have hlt := idx_lt (List.getElem?_eq_some_iff.1 hx).1 (Nat.le_refl _) hi
      rw [List.getD_eq_getElem?_getD, List.getElem?_map, List.getElem?_range hlt]
      simp only [Option.map_some, Option.getD_some, e1, e2]
      exact repN_of_G ((List.all_eq_true.1 (hp x (List.mem_of_getElem? hx))) y (List.mem_of_getElem? hy)) (hr k x hx j y hy)
def elInfo (P : Program) (e : Nat) : Option (Nat × Nat) :=
  match P.info? e with
  | some i => match i.zero with
    | some z => if z.cells.size = i.size ∧ 0 < i.size then some (i.size, i.bytes) else none
    | none => none
  | none => none
theorem run_app {t ty e es bytes : Nat} (hu : P.underlying t = some (.slice e)) (hi : elInfo P e = some (es, bytes)) {w : World} {I J : Nat → Prop} {v v2 : Value} {n m : Nat} {cells : List Value} {ys : List V} {M : Nat → Nat → Nat → Prop}
    (h1 : w.ownsRow 0 e es v n cells) (A : Option Addr) (c : Nat) (news : List Value) (hv2 : v2 = .slice A m c) (hl : news.length = m * es) (hA : A = none → m = 0) (hc : ∀ ad, A = some ad → ∀ (j : Nat) (u : Value), news[j]? = some u → w.cell? (ad.add j) = some u) (ho : ∀ u ∈ news, u.oneCell' = true)
    (hb : (n + m) * bytes ≤ 140737488355328) (hm : n + m ≤ maxLen) :
    ∃ v' w', (Builtin.append_ #[t, t] ty #[v, v2]).run P w = .ok v' w' ∧ w'.ownsRow 0 e es v' (n + m) (cells ++ news) ∧ w.grownBy w' v.ownBlock ∧ (v'.ownBlock = v.ownBlock ∨ v'.ownBlock = some w.heap.size) := by
  unfold elInfo at hi
  split at hi
  · rename_i inf hinf
    split at hi
    · rename_i z hz
      split at hi
      · rename_i hzz
        simp only [Option.some.injEq, Prod.mk.injEq] at hi
        obtain ⟨rfl, rfl⟩ := hi
        subst hv2
        cases A with
        | some ad =>
          obtain ⟨v', w', a1, a2, a3, _, a5⟩ := run_append_own_at (P := P) w 0 t ty e inf z inf.size inf.bytes hu hinf hz rfl rfl hzz.1 hzz.2 v n cells h1 ad m c news hl (hc ad rfl) ho hm hb (Nat.zero_le _)
          exact ⟨v', w', a1, a2, a3, a5⟩
        | none =>
          obtain rfl := hA rfl
          obtain rfl : news = [] := List.eq_nil_of_length_eq_zero (by simpa using hl)
          refine ⟨v, w, ?_, by simpa using h1, ⟨rfl, rfl, rfl, Nat.le_refl _, fun _ _ _ => rfl⟩, .inl rfl⟩
          rcases h1.2 with ⟨rfl, hn⟩ | ⟨g, cap, cur, rfl, _, _, hnc, _⟩
          · simp [Builtin.append_, run_underlying hu, sizeOf, typeInfo, hinf, Builtin.lenOf, Builtin.firstCells]
          · simp [Builtin.append_, run_underlying hu, sizeOf, typeInfo, hinf, Builtin.lenOf, Builtin.firstCells, hnc, storeCells]
      · cases hi
    · cases hi
  · cases hi
theorem app_core {t ty e es bytes k : Nat} (hu : P.underlying t = some (.slice e)) (hi : elInfo P e = some (es, bytes)) {G : Gh} {w : World} {ob ob' : Nat → Ob} (H : Hold G w ob) (hk : ob k = .free) (kill : Nat → Prop) (hkill : ¬ kill k) {v v2 : Value} {xs ys : List V} {M1 M2 : Nat → Nat → Nat → Prop}
    (h1 : Row w G.I G.J v e es xs M1) (h2 : Src w G.I G.J v2 es ys M2) (hv : ∀ b, v.ownBlock = some b → ∃ i, kill i ∧ G.F i b)
    (k1 : ∀ a j b, M1 a j b → ∃ i, kill i ∧ G.F i b) (k2 : ∀ a j b, M2 a j b → ∃ i, kill i ∧ G.F i b) (g1 : ∀ a j b, M1 a j b → v.ownBlock ≠ some b) (g2 : ∀ a j b, M2 a j b → v.ownBlock ≠ some b)
    (d12 : ∀ a j a' j' b, M1 a j b → M2 a' j' b → False) (d1 : ∀ a j a' j' b, M1 a j b → M1 a' j' b → a = a' ∧ j = j') (d2 : ∀ a j a' j' b, M2 a j b → M2 a' j' b → a = a' ∧ j = j')
    (n1 : ∀ a j b, M1 a j b → ∃ x y, xs[a]? = some x ∧ (cl x)[j]? = some y) (n2 : ∀ a j b, M2 a j b → ∃ x y, ys[a]? = some x ∧ (cl x)[j]? = some y)
    (hb : (xs.length + ys.length) * bytes ≤ 140737488355328) (hm : xs.length + ys.length ≤ maxLen)
    (o1 : ob' k = .arr e es (xs ++ ys)) (o2 : ∀ i, kill i → ob' i = .dead) (o3 : ∀ i, i ≠ k → ¬ kill i → ob' i = ob i) :
    ∃ v' w' G' r, (Builtin.append_ #[t, t] ty #[v, v2]).run P w = .ok v' w' ∧ Hold G' w' ob' ∧ Fr G w G' w' ∧ G'.ρ k = some r ∧ r.sl v' := by
  obtain ⟨cells, c1, c2, c3, c4, c5⟩ := h1
  obtain ⟨A, c, news, s1, s2, s3, s4, s5, s6, s7, s8⟩ := h2
  obtain ⟨v', w', r1, r2, r3, r4⟩ := run_app (P := P) (ty := ty) hu hi (I := G.I) (J := G.J) (ys := ys) (M := M2) c1 A c news s1 s2 (fun h => by rw [s3 h]; rfl) s4 s5 hb hm
  have hlt : ∀ b, v.ownBlock = some b → b < w.heap.size := fun b hb => by obtain ⟨i, _, h⟩ := hv b hb; exact H.flt i b h
  have klt1 : ∀ a j b, M1 a j b → b < w.heap.size := fun a j b h => by obtain ⟨i, _, h⟩ := k1 a j b h; exact H.flt i b h
  have klt2 : ∀ a j b, M2 a j b → b < w.heap.size := fun a j b h => by obtain ⟨i, _, h⟩ := k2 a j b h; exact H.flt i b h
  let M : Nat → Nat → Nat → Prop := fun a j b => if a < xs.length then M1 a j b else M2 (a - xs.length) j b
  have hMlt : ∀ a j b, M a j b → b < w.heap.size := by
    intro a j b h
    simp only [M] at h
    split at h
    · exact klt1 _ _ _ h
    · exact klt2 _ _ _ h
  have hMg : ∀ a j b, M a j b → v.ownBlock ≠ some b := by
    intro a j b h
    simp only [M] at h
    split at h
    · exact g1 _ _ _ h
    · exact g2 _ _ _ h
  have hMk : ∀ a j b, M a j b → ∃ i, kill i ∧ G.F i b := by
    intro a j b h
    simp only [M] at h
    split at h
    · exact k1 _ _ _ h
    · exact k2 _ _ _ h
  have hg' : ∀ a j b, M a j b → v'.ownBlock ≠ some b := by
    intro a j b h e
    rcases r4 with r4 | r4
    · exact hMg a j b h (by rw [← r4]; exact e)
    · have := hMlt a j b h
      rw [r4] at e
      simp at e
      omega
  have hlen := c1.1
  have hrow : (∀ v x, RepG w G.I G.J v x → RepG w' G.I G.J v x) → Row w' G.I G.J v' e es (xs ++ ys) M := by
    intro LG
    refine ⟨cells ++ news, by rw [List.length_append]; exact r2, fun u hu => ?_, fun a x hx => ?_, fun x hx => ?_, fun a x hx j y hy => ?_⟩
    · rcases List.mem_append.1 hu with h | h
      · exact c2 u h
      · exact s5 u h
    · rw [List.getElem?_append] at hx
      split at hx
      · exact c3 a x hx
      · exact s6 _ x hx
    · rcases List.mem_append.1 hx with h | h
      · exact c4 x h
      · exact s7 x h
    · rw [List.getElem?_append] at hx
      by_cases ha : a < xs.length
      · rw [if_pos ha] at hx
        have hj : j < es := by rw [← c3 a x hx]; exact (List.getElem?_eq_some_iff.1 hy).1
        have hlt := idx_lt ha (Nat.le_refl _) hj
        have e1 : (cells ++ news).getD (a * es + j) undef = cells.getD (a * es + j) undef := by
          rw [List.getD_eq_getElem?_getD, List.getElem?_append_left (by omega), ← List.getD_eq_getElem?_getD]
        have e2 : M a j = M1 a j := by funext b; simp [M, ha]
        rw [e1, e2]
        exact (c5 a x hx j y hy).lift LG (fun b hb => r3.block b (klt1 _ _ _ hb) (fun e => g1 _ _ _ hb e.symm))
      · rw [if_neg ha] at hx
        have hj : j < es := by rw [← s6 _ x hx]; exact (List.getElem?_eq_some_iff.1 hy).1
        have e0 : a * es = xs.length * es + (a - xs.length) * es := by rw [← Nat.add_mul]; congr 1; omega
        have e1 : (cells ++ news).getD (a * es + j) undef = news.getD ((a - xs.length) * es + j) undef := by
          rw [List.getD_eq_getElem?_getD, List.getElem?_append_right (by omega), ← List.getD_eq_getElem?_getD]
          congr 1
          omega
        have e2 : M a j = M2 (a - xs.length) j := by funext b; simp [M, ha]
        rw [e1, e2]
        exact (s8 _ x hx j y hy).lift LG (fun b hb => r3.block b (klt2 _ _ _ hb) (fun e => g2 _ _ _ hb e.symm))
  have hnd : ∀ a j a' j' b, M a j b → M a' j' b → a = a' ∧ j = j' := by
    intro a j a' j' b h h'
    simp only [M] at h h'
    split at h
    · split at h'
      · exact d1 _ _ _ _ _ h h'
      · exact (d12 _ _ _ _ _ h h').elim
    · split at h'
      · exact (d12 _ _ _ _ _ h' h).elim
      · obtain ⟨q1, q2⟩ := d2 _ _ _ _ _ h h'
        exact ⟨by omega, q2⟩
  have hnb : ∀ a j b, M a j b → ∃ x y, (xs ++ ys)[a]? = some x ∧ (cl x)[j]? = some y := by
    intro a j b h
    simp only [M] at h
    split at h
    · rename_i ha
      obtain ⟨x, y, h1, h2⟩ := n1 _ _ _ h
      exact ⟨x, y, by rw [List.getElem?_append_left ha]; exact h1, h2⟩
    · rename_i ha
      obtain ⟨x, y, h1, h2⟩ := n2 _ _ _ h
      exact ⟨x, y, by rw [List.getElem?_append_right (by omega)]; exact h1, h2⟩
  have hvlt : ∀ b, v'.ownBlock = some b → b < w'.heap.size := fun b hb => (r2.lt b hb).2
  have LG : ∀ v x, RepG w G.I G.J v x → RepG w' G.I G.J v x := fun v x h => h.mono (fun _ h => h) (fun _ h => h) (fun b hb => by
    have hj : G.J b := hb.elim (H.ij b) id
    refine r3.block b (H.lt b hj) (fun e => ?_)
    obtain ⟨i, _, h⟩ := hv b e.symm
    exact H.fj i b h hj)
  obtain ⟨q1, _⟩ := own_of_row (ρ := G.ρ) (hrow LG) (F := fun b => v'.ownBlock = some b ∨ ∃ a j, M a j b) (fun b => Iff.rfl) hg' hnd hnb
  have := H.mv hk kill hkill (w' := w') (ob' := ob') r3.os r3.tape r3.output r3.size (fun b hb hf => r3.block b hb (fun e => by
      obtain ⟨i, hi, h⟩ := hv b e.symm
      exact hf i hi h)) (RI.of v' es) (fun b => v'.ownBlock = some b ∨ ∃ a j, M a j b) (fun b hb => by
      rcases hb with hb | ⟨a, j, hb⟩
      · rcases r4 with r4 | r4
        · exact .inl (hv b (by rw [← r4]; exact hb))
        · rw [r4] at hb
          simp at hb
          exact .inr (by omega)
      · exact .inl (hMk a j b hb)) (fun b hb => by
      rcases hb with hb | ⟨a, j, hb⟩
      · exact hvlt b hb
      · exact Nat.lt_of_lt_of_le (hMlt a j b hb) r3.size) (.arr e es (xs ++ ys)) (fun LG' => (own_of_row (hrow LG') (fun b => Iff.rfl) hg' hnd hnb).2) o1 o2 o3
  exact ⟨v', w', _, _, r1, this.1, this.2, by simp [Gh.mv], q1⟩
end
end Go.Sy
end

section
set_option linter.unusedVariables false
set_option linter.unusedSimpArgs false
namespace Go.Sy
section
variable {P : Program} {N : Cx} {ops : Array Oper}
def FirstIs (ob : Nat → Ob) (S : V) (e es : Nat) (xs : List V) (kill : List Nat) : Prop :=
  match S with
  | .nil => xs = [] ∧ kill = []
  | .ref i => ob i = .arr e es xs ∧ kill = [i]
  | .sub i off n => off = 0 ∧ ∃ ys, ob i = .arr e es ys ∧ n ≤ ys.length ∧ xs = ys.take n ∧ kill = [i]
  | _ => False
def SecondIs (ob : Nat → Ob) (T : V) (e es : Nat) (ys : List V) (kill : List Nat) : Prop :=
  match T with
  | .nil => ys = [] ∧ kill = []
  | .ref j => ob j = .arr e es ys ∧ ((kill = [] ∧ AllP ys) ∨ kill = [j])
  | .sub j off n => ∃ zs, ob j = .arr e es zs ∧ off + n ≤ zs.length ∧ ys = (zs.drop off).take n ∧ AllP ys ∧ kill = []
  | .sl p es' zs => es' = es ∧ zs = ys ∧ AllP ys ∧ kill = []
  | _ => False
def obK : V → List Nat
  | .ref i => [i]
  | .sub i _ _ => [i]
  | _ => []
theorem row_take {w : World} {I J : Nat → Prop} {g cap : Nat} {e es : Nat} {xs : List V} {M : Nat → Nat → Nat → Prop} (h : Row w I J (.slice (some ⟨g, 0, none⟩) xs.length cap) e es xs M) {n : Nat} (hn : n ≤ xs.length) : Row w I J (.slice (some ⟨g, 0, none⟩) n cap) e es (xs.take n) (fun a j b => a < n ∧ M a j b) := by
  obtain ⟨cells, ⟨h1, h2⟩, h3, h4, h5, h6⟩ := h
  rcases h2 with ⟨h2, _⟩ | ⟨g', cap', cur, h2, _, hg, hc, hm, hs, ht⟩
  · cases h2
  · injection h2 with h2 _ h7
    injection h2 with h2
    injection h2 with h2
    subst h2
    subst h7
    have hle := Nat.mul_le_mul_right es hn
    have hlen : (xs.take n).length = n := by simp; omega
    refine ⟨cells.take (n * es), ⟨by rw [hlen]; simp; omega, .inr ⟨g, cap, cur, by rw [hlen], Nat.zero_le _, hg, by omega, hm, hs, by rw [hlen, ← ht, List.take_take, Nat.min_eq_left hle]⟩⟩, fun u hu => h3 u (List.mem_of_mem_take hu), fun k x hx => ?_, fun x hx => h5 x (List.mem_of_mem_take hx), fun k x hx j y hy => ?_⟩
    · rw [List.getElem?_take] at hx
      split at hx
      · exact h4 k x hx
      · cases hx
    · rw [List.getElem?_take] at hx
      split at hx
      · rename_i hk
        have hj : j < es := by rw [← h4 k x hx]; exact (List.getElem?_eq_some_iff.1 hy).1
        have hlt := idx_lt hk (Nat.le_refl n) hj
        have e1 : (cells.take (n * es)).getD (k * es + j) undef = cells.getD (k * es + j) undef := by
          rw [List.getD_eq_getElem?_getD, List.getElem?_take, if_pos hlt, ← List.getD_eq_getElem?_getD]
        rw [e1]
        have e2 : (fun b => k < n ∧ M k j b) = M k j := by funext b; simp [hk]
        show RepN w I J (fun b => k < n ∧ M k j b) _ _
        rw [e2]
        exact h6 k x hx j y hy
      · cases hx
theorem sub_ref {G : Gh} {w : World} {ob : Nat → Ob} (H : Hold G w ob) {i e es off n : Nat} {xs : List V} (hob : ob i = .arr e es xs) {v : Value} (hv : G.Rep w v (.sub i off n)) :
    ∃ r, G.ρ i = some r ∧ r.es = es ∧ r.len = xs.length ∧ off + n ≤ xs.length ∧ ∃ A, v = .slice A n (r.cap - off) ∧ ((0 < n ∨ off = 0) → A = r.g.map fun g => ⟨g, off * es, none⟩) := by
  obtain ⟨r, e1, e2, A, e3, e4⟩ := Rep.inv_sub hv
  obtain ⟨r', f1, f2, f3, f4⟩ := arr_of H hob
  rw [e1] at f1
  obtain rfl := Option.some.inj f1
  rw [f2] at e4
  exact ⟨r, e1, f2, f3, by omega, A, e3, e4⟩
theorem whole_ref {G : Gh} {w : World} {ob : Nat → Ob} (H : Hold G w ob) {i e es : Nat} {xs : List V} (hob : ob i = .arr e es xs) : ∃ r v, G.ρ i = some r ∧ r.sl v ∧ G.Rep w v (.ref i) ∧ v = (match r.g with
    | none => .slice none 0 0
    | some g => .slice (some ⟨g, 0, none⟩) xs.length r.cap) := by
  obtain ⟨r, f1, f2, f3, f4⟩ := arr_of H hob
  cases hg : r.g with
  | none =>
    have hl : r.len = 0 := by
      rcases f4 with ⟨_, h, _⟩ | ⟨g, cur, M, h, _⟩
      · rw [f3, h]; rfl
      · rw [hg] at h; cases h
    have hs : r.sl (.slice none 0 0) := by simp [RI.sl, hg, hl]
    exact ⟨r, _, f1, hs, .ref i r _ f1 hs, by rw [hg]⟩
  | some g =>
    have hs : r.sl (.slice (some ⟨g, 0, none⟩) xs.length r.cap) := by simp [RI.sl, hg, f3]
    exact ⟨r, _, f1, hs, .ref i r _ f1 hs, by rw [hg]⟩
theorem first_row {G : Gh} {w : World} {ob : Nat → Ob} (H : Hold G w ob) {S : V} {e es : Nat} {xs : List V} {kill : List Nat} (hf : FirstIs ob S e es xs kill) {v : Value} (hv : G.Rep w v S) :
    ∃ M, Row w G.I G.J v e es xs M ∧ (∀ b, v.ownBlock = some b → ∃ i ∈ kill, G.F i b) ∧ (∀ k j b, M k j b → ∃ i ∈ kill, G.F i b) ∧ (∀ k j b, M k j b → v.ownBlock ≠ some b) ∧ (∀ k j k' j' b, M k j b → M k' j' b → k = k' ∧ j = j') ∧ (∀ k j b, M k j b → ∃ x y, xs[k]? = some x ∧ (cl x)[j]? = some y) := by
  cases S <;> simp only [FirstIs] at hf
  · obtain ⟨rfl, rfl⟩ := hf
    rw [Rep.inv_nil hv]
    exact ⟨fun _ _ _ => False, ⟨[], World.ownsRow_nil w 0 e es, by simp, by simp, by simp, by simp⟩, by simp [Value.ownBlock], fun _ _ _ h => h.elim, fun _ _ _ h => h.elim, fun _ _ _ _ _ h => h.elim, fun _ _ _ h => h.elim⟩
  · rename_i i
    obtain ⟨h1, rfl⟩ := hf
    obtain ⟨M, m1, m2, m3, m4, m5⟩ := row_of_own H h1 hv
    exact ⟨M, m1, fun b hb => ⟨i, by simp, (m2 b).2 (.inl hb)⟩, fun k j b hb => ⟨i, by simp, (m2 b).2 (.inr ⟨k, j, hb⟩)⟩, m3, m4, m5⟩
  · rename_i i off n
    obtain ⟨rfl, ys, h1, h2, rfl, rfl⟩ := hf
    obtain ⟨r, s1, s2, s3, s4, A, s5, s6⟩ := sub_ref H h1 hv
    obtain ⟨r', u, t1, t2, t3, t4⟩ := whole_ref H h1
    rw [s1] at t1
    obtain rfl := Option.some.inj t1
    obtain ⟨M, m1, m2, m3, m4, m5⟩ := row_of_own H h1 t3
    have s6 := s6 (.inr rfl)
    cases hg : r.g with
    | none =>
      rw [hg] at t4 s6
      simp only [Option.map_none] at s6
      subst s6
      subst t4
      obtain ⟨cells, c1, _⟩ := m1
      have hy : ys = [] := by
        rcases c1.2 with ⟨_, h⟩ | ⟨g, cap, cur, h, _⟩
        · exact List.eq_nil_of_length_eq_zero h
        · cases h
      subst hy
      obtain rfl : n = 0 := by simpa using h2
      obtain ⟨r2, f1, f2, f3, f4⟩ := arr_of H h1
      rw [s1] at f1
      obtain rfl := Option.some.inj f1
      have hcap : r.cap = 0 := by
        rcases f4 with ⟨_, _, _, h⟩ | ⟨g, _, _, h, _⟩
        · exact h
        · rw [hg] at h; cases h
      rw [s5, hcap]
      exact ⟨fun _ _ _ => False, ⟨[], World.ownsRow_nil w 0 e es, by simp, by simp, by simp, by simp⟩, by simp [Value.ownBlock], fun _ _ _ h => h.elim, fun _ _ _ h => h.elim, fun _ _ _ _ _ h => h.elim, fun _ _ _ h => h.elim⟩
    | some g =>
      rw [hg] at t4 s6
      simp only [Option.map_some, Nat.zero_mul] at s6
      simp only at t4
      subst s6
      subst t4
      rw [s5, Nat.sub_zero]
      refine ⟨_, row_take m1 h2, fun b hb => ⟨i, by simp, (m2 b).2 (.inl hb)⟩, fun k j b hb => ⟨i, by simp, (m2 b).2 (.inr ⟨k, j, hb.2⟩)⟩, fun k j b hb => m3 k j b hb.2, fun k j k' j' b h h' => m4 k j k' j' b h.2 h'.2, fun k j b hb => ?_⟩
      obtain ⟨x, y, hx, hy⟩ := m5 k j b hb.2
      exact ⟨x, y, by rw [List.getElem?_take, if_pos hb.1]; exact hx, hy⟩
theorem second_src {G : Gh} {w : World} {ob : Nat → Ob} (H : Hold G w ob) {T : V} {e es : Nat} {ys : List V} {kill : List Nat} (hf : SecondIs ob T e es ys kill) {v : Value} (hv : G.Rep w v T) :
    ∃ M, Src w G.I G.J v es ys M ∧ (∀ k j b, M k j b → ∃ i ∈ kill, G.F i b) ∧ (∀ k j k' j' b, M k j b → M k' j' b → k = k' ∧ j = j') ∧ (∀ k j b, M k j b → ∃ x y, ys[k]? = some x ∧ (cl x)[j]? = some y) := by
  cases T <;> simp only [SecondIs] at hf
  · obtain ⟨rfl, rfl⟩ := hf
    rw [Rep.inv_nil hv]
    exact ⟨fun _ _ _ => False, ⟨none, 0, [], rfl, by simp, fun _ => rfl, (fun _ h => by cases h), by simp, by simp, by simp, by simp⟩, fun _ _ _ h => h.elim, fun _ _ _ _ _ h => h.elim, fun _ _ _ h => h.elim⟩
  · rename_i p es' zs
    obtain ⟨rfl, rfl, h1, rfl⟩ := hf
    exact ⟨_, src_of_sl hv h1, fun _ _ _ h => h.elim, fun _ _ _ _ _ h => h.elim, fun _ _ _ h => h.elim⟩
  · rename_i j
    obtain ⟨h1, h2⟩ := hf
    obtain ⟨M, m1, m2, m3, m4, m5⟩ := row_of_own H h1 hv
    rcases h2 with ⟨rfl, h2⟩ | rfl
    · exact ⟨_, src_plain (src_of_row m1) h2, fun _ _ _ h => h.elim, fun _ _ _ _ _ h => h.elim, fun _ _ _ h => h.elim⟩
    · exact ⟨M, src_of_row m1, fun k i b hb => ⟨j, by simp, (m2 b).2 (.inr ⟨k, i, hb⟩)⟩, m4, m5⟩
  · rename_i j off n
    obtain ⟨zs, h1, h2, rfl, h3, rfl⟩ := hf
    obtain ⟨r, s1, s2, s3, s4, A, s5, s6⟩ := sub_ref H h1 hv
    obtain ⟨r', f1, f2, f3, f4⟩ := arr_of H h1
    rw [s1] at f1
    obtain rfl := Option.some.inj f1
    have hlen : ((zs.drop off).take n).length = n := by simp; omega
    refine ⟨fun _ _ _ => False, ?_, fun _ _ _ h => h.elim, fun _ _ _ _ _ h => h.elim, fun _ _ _ h => h.elim⟩
    by_cases hn : n = 0
    · subst hn
      have : (zs.drop off).take 0 = [] := by simp
      rw [this]
      exact ⟨A, _, [], s5, by simp, fun _ => rfl, by simp, by simp, by simp, by simp, by simp⟩
    · have s6 := s6 (.inl (by omega))
      rcases f4 with ⟨_, rfl, _⟩ | ⟨g, cur, M, f4, f5⟩
      · simp at h2; omega
      rw [f4] at s6
      simp only [Option.map_some] at s6
      subst s6
      have hle := Nat.mul_le_mul_right es h2
      have hle2 := Nat.mul_le_mul_right es f5.le
      have hsz := f5.size
      rw [Nat.add_mul] at hle
      have hget : ∀ (k : Nat) (x : V), ((zs.drop off).take n)[k]? = some x → k < n ∧ zs[off + k]? = some x := by
        intro k x hx
        rw [List.getElem?_take] at hx
        split at hx
        · rename_i hk
          rw [List.getElem?_drop] at hx
          exact ⟨hk, hx⟩
        · cases hx
      have hnw : ∀ t, t < n * es → ((cur.toList.drop (off * es)).take (n * es)).getD t undef = cur.getD (off * es + t) undef := by
        intro t ht
        rw [List.getD_eq_getElem?_getD, List.getElem?_take, if_pos ht, List.getElem?_drop, Array.getD_eq_getD_getElem?]
        simp
      refine ⟨_, _, (cur.toList.drop (off * es)).take (n * es), by rw [hlen]; exact s5, by rw [hlen]; simp; omega, (fun h => by cases h), fun ad h t u hu => ?_, fun u hu => ?_, fun k x hx => f5.hl _ x (hget k x hx).2, fun x hx => f5.gr x (List.mem_of_mem_drop (List.mem_of_mem_take hx)), fun k x hx i y hy => ?_⟩
      · obtain rfl := Option.some.inj h
        rw [List.getElem?_take] at hu
        split at hu
        · rw [List.getElem?_drop] at hu
          rw [add_lit, cell_of_row w g _ cur e (0, 0) f5.heap]
          simpa using hu
        · cases hu
      · obtain ⟨t, ht⟩ := List.getElem?_of_mem hu
        have hlt : t < n * es := by
          rw [List.getElem?_take] at ht
          split at ht
          · assumption
          · cases ht
        have := hnw t hlt
        rw [List.getD_eq_getElem?_getD, ht] at this
        simp only [Option.getD_some] at this
        rw [this]
        exact f5.one _ (by omega)
      · obtain ⟨hk, hx'⟩ := hget k x hx
        have hi : i < es := by rw [← f5.hl _ x hx']; exact (List.getElem?_eq_some_iff.1 hy).1
        have hg := (List.all_eq_true.1 (h3 x (List.mem_of_getElem? hx))) y (List.mem_of_getElem? hy)
        rw [hnw _ (idx_lt hk (Nat.le_refl n) hi)]
        have := f5.rep _ x hx' i y hy
        rw [Nat.add_mul, Nat.add_assoc] at this
        exact repN_of_G hg (RepN.plain this (plain_of_gV hg)).1
def killW (l : List Nat) : List W := l.map fun i => .o i .dead
def obW (ob : Nat → Ob) (l : List Nat) : List W := l.map fun i => .o i (ob i)
theorem obW_has {σ : Sg} {ob : Nat → Ob} {l : List Nat} (h : σ.has (obW ob l)) : ∀ i ∈ l, σ.ob i = ob i := by
  induction l with
  | nil => simp
  | cons a l ih =>
    intro i hi
    rcases List.mem_cons.1 hi with rfl | hi
    · exact h.1
    · exact ih h.2 i hi
theorem obW_self (σ : Sg) (l : List Nat) : σ.has (obW σ.ob l) := by
  induction l with
  | nil => trivial
  | cons a l ih => exact ⟨rfl, ih⟩
theorem FirstIs.congr {ob ob' : Nat → Ob} {S : V} {e es : Nat} {xs : List V} {kill : List Nat} (h : FirstIs ob S e es xs kill) (he : ∀ i ∈ obK S, ob' i = ob i) : FirstIs ob' S e es xs kill := by
  cases S <;> simp only [FirstIs, obK] at h he ⊢
  · exact h
  · rw [he _ (by simp)]; exact h
  · rw [he _ (by simp)]; exact h
theorem SecondIs.congr {ob ob' : Nat → Ob} {S : V} {e es : Nat} {xs : List V} {kill : List Nat} (h : SecondIs ob S e es xs kill) (he : ∀ i ∈ obK S, ob' i = ob i) : SecondIs ob' S e es xs kill := by
  cases S <;> simp only [SecondIs, obK] at h he ⊢
  · exact h
  · exact h
  · rw [he _ (by simp)]; exact h
  · rw [he _ (by simp)]; exact h
theorem kill_ob (σ : Sg) : ∀ (l : List Nat) (k : Nat) (x : Ob), (σ.puts (killW l ++ [.o k x])).ob = fun i => if i = k then x else if i ∈ l then .dead else σ.ob i
  | [], k, x => by funext i; simp [killW, Sg.puts, Sg.put]
  | a :: l, k, x => by
    show ((σ.put (.o a .dead)).puts (killW l ++ [.o k x])).ob = _
    rw [kill_ob _ l k x]
    funext i
    simp only [Sg.put, List.mem_cons]
    by_cases h1 : i = k
    · simp [h1]
    · by_cases h2 : i ∈ l
      · simp [h1, h2]
      · by_cases h3 : i = a <;> simp [h1, h2, h3]
def notIn (k : Nat) (l : List Nat) : Bool := l.all (· != k)
theorem notIn_iff {k : Nat} {l : List Nat} (h : notIn k l = true) : k ∉ l := by
  intro hk
  have := (List.all_eq_true.1 h) k hk
  simp at this
theorem ok_append {o : Oper} {s x : Operand} {t e es bytes d k : Nat} {σ : Sg} {S T : V} {xs ys zs : List V} {kill1 kill2 : List Nat} (ho : o.op = .call { callee := .builtin .append, args := #[s, x], argTypes := #[t, t] }) (hd : o.dst = some d) (hn : d < N.n)
    (hu : P.underlying t = some (.slice e)) (hi : elInfo P e = some (es, bytes)) (hs : σ.ev s = S) (hx : σ.ev x = T) (hf : FirstIs σ.ob S e es xs kill1) (hg : SecondIs σ.ob T e es ys kill2)
    (hk : (notIn k (kill1 ++ kill2) && kill1.all (notIn · kill2)) = true) (hz : xs ++ ys = zs) (hb : (xs.length + ys.length) * bytes ≤ 140737488355328) (hm : xs.length + ys.length ≤ 9223372036854775807) :
    CoreOk P N o (opw s S ++ opw x T ++ obW σ.ob (obK S) ++ obW σ.ob (obK T) ++ [.o k .free]) ((killW (kill1 ++ kill2) ++ [.o k (.arr e es zs)]) ++ [.t d (.ref k)]) :=
  eff_ok hd hn (fun z hz => by
    simp only [killW, List.mem_append, List.mem_map, List.mem_singleton] at hz
    rcases hz with ⟨i, _, rfl⟩ | rfl
    · exact ⟨_, _, rfl⟩
    · exact ⟨_, _, rfl⟩) fun G w σ' a H _ he hp => by
    subst hz
    simp only [Bool.and_eq_true] at hk
    obtain ⟨hk1, hk2⟩ := hk
    have hk1 := notIn_iff hk1
    obtain ⟨hp, hp5⟩ := has_append.1 hp
    obtain ⟨hp, hp4⟩ := has_append.1 hp
    obtain ⟨hp, hp3⟩ := has_append.1 hp
    obtain ⟨hp1, hp2⟩ := has_append.1 hp
    have h1 := he s
    rw [opw_ev hs hp1] at h1
    have h2 := he x
    rw [opw_ev hx hp2] at h2
    obtain ⟨M1, a1, a2, a3, a4, a5, a6⟩ := first_row H (hf.congr (obW_has hp3)) h1
    obtain ⟨M2, b1, b2, b3, b4⟩ := second_src H (hg.congr (obW_has hp4)) h2
    have hne : ∀ i ∈ kill1, ∀ j ∈ kill2, i ≠ j := by
      intro i hi j hj e
      subst e
      exact notIn_iff ((List.all_eq_true.1 hk2) i hi) hj
    obtain ⟨v', w', G', r, r1, r2, r3, r4, r5⟩ := app_core (P := P) (ty := o.type) hu hi H (k := k) hp5.1 (fun i => i ∈ kill1 ++ kill2) hk1 (ob' := (σ'.puts (killW (kill1 ++ kill2) ++ [.o k (.arr e es (xs ++ ys))])).ob) a1 b1
      (fun b hb => by obtain ⟨i, hi, h⟩ := a2 b hb; exact ⟨i, by simp [hi], h⟩) (fun _ j b hb => by obtain ⟨i, hi, h⟩ := a3 _ _ b hb; exact ⟨i, by simp [hi], h⟩) (fun _ j b hb => by obtain ⟨i, hi, h⟩ := b2 _ _ b hb; exact ⟨i, by simp [hi], h⟩) a4
      (fun _ _ b hb e => by
        obtain ⟨i, hi, h⟩ := a2 b e
        obtain ⟨j, hj, h'⟩ := b2 _ _ b hb
        exact hne i hi j hj (H.dis i j b h h'))
      (fun _ _ _ _ b hb hb' => by
        obtain ⟨i, hi, h⟩ := a3 _ _ b hb
        obtain ⟨j, hj, h'⟩ := b2 _ _ b hb'
        exact hne i hi j hj (H.dis i j b h h')) a5 b3 a6 b4 hb (by simp only [maxLen]; omega) (by rw [kill_ob]; simp) (fun i hi => by rw [kill_ob]; have : i ≠ k := fun e => hk1 (e ▸ hi); simp only; rw [if_neg this, if_pos hi]) (fun i h1 h2 => by rw [kill_ob]; simp only; rw [if_neg h1, if_neg h2])
    refine ⟨v', w', G', ?_, r2, r3, .ref k r v' r4 r5⟩
    simp only [execOp, ho, resolve, invoke, builtin, Sem.run_bind, Sem.run_pure, Result.andThen_ok, List.map_toArray, List.map_cons, List.map_nil, r1]
theorem run_slice {t e es : Nat} (hu : P.underlying t = some (.slice e)) (hs : szOf P e = some es) {w : World} {A : Option Addr} {len cap lo hi : Nat} {l h : Option Value} (h1 : lo ≤ hi) (h2 : hi ≤ cap)
    (hl : (l = none ∧ lo = 0) ∨ ∃ k, l = some (.int k (lo : Int))) (hh : (h = none ∧ hi = len) ∨ ∃ k, h = some (.int k (hi : Int))) :
    (Instr.sliceAt t (.slice A len cap) l h none).run P w = .ok (.slice (if cap = lo then A else A.map (·.add (lo * es))) (hi - lo) (cap - lo)) w := by
  rcases hl with ⟨rfl, rfl⟩ | ⟨k, rfl⟩ <;> rcases hh with ⟨rfl, rfl⟩ | ⟨k', rfl⟩ <;>
    simp [Instr.sliceAt, run_underlying hu, Instr.slice, Instr.sliceBounds, Instr.sliceBound, asIntOf, run_sz hs, h1, h2] <;> omega
def boW (x : Option Operand) (v : V) : List W :=
  match x with
  | some y => opw y v
  | none => []
theorem bound_of {G : Gh} {w : World} {σ σ' : Sg} {a : Act} (he : ∀ y, G.Rep w (a.eval y) (σ'.ev y)) {x : Option Operand} {v : V} {n m : Nat} (h : (x = none ∧ n = m) ∨ ∃ y k, x = some y ∧ v = .int k (n : Int) ∧ σ.ev y = v) (hp : σ'.has (boW x v)) :
    (x.map a.eval = none ∧ n = m) ∨ ∃ k, x.map a.eval = some (.int k (n : Int)) := by
  rcases h with ⟨rfl, h⟩ | ⟨y, k, rfl, rfl, h⟩
  · exact .inl ⟨rfl, h⟩
  · have := he y
    rw [opw_ev h hp] at this
    exact .inr ⟨k, by simp [Rep.inv_int this]⟩
theorem ok_sliceSl {o : Oper} {x : Operand} {lx hx : Option Operand} {t e es d lo hi : Nat} {σ : Sg} {p : Bool} {xs ys : List V} {vl vh : V} (ho : o.op = .slice t x lx hx none) (hd : o.dst = some d) (hn : d < N.n) (hu : P.underlying t = some (.slice e)) (hs : szOf P e = some es)
    (hxv : σ.ev x = .sl p es xs) (hl : (lx = none ∧ lo = 0) ∨ ∃ y k, lx = some y ∧ vl = .int k (lo : Int) ∧ σ.ev y = vl) (hh : (hx = none ∧ hi = xs.length) ∨ ∃ y k, hx = some y ∧ vh = .int k (hi : Int) ∧ σ.ev y = vh) (h1 : lo ≤ hi) (h2 : hi ≤ xs.length) (hy : (xs.drop lo).take (hi - lo) = ys) :
    CoreOk P N o (opw x (.sl p es xs) ++ boW lx vl ++ boW hx vh) [.t d (.sl p es ys)] :=
  val_ok hd hn fun G w σ' a H he hp => by
    subst hy
    obtain ⟨hp, hp3⟩ := has_append.1 hp
    obtain ⟨hp1, hp2⟩ := has_append.1 hp
    have g1 := he x
    rw [opw_ev hxv hp1] at g1
    have b1 := bound_of he hl hp2
    have b2 := bound_of he hh hp3
    have g3 := Rep.inv_sl g1
    have hz : ∃ z, a.eval x = z := ⟨_, rfl⟩
    obtain ⟨z, hz⟩ := hz
    rw [hz] at g3
    cases g3 with
    | slE A c =>
      simp at h2
      obtain rfl : hi = 0 := h2
      obtain rfl : lo = 0 := by omega
      have := run_slice (P := P) hu hs (w := w) (A := A) (len := 0) (cap := c) (lo := 0) (hi := 0) (l := lx.map a.eval) (h := hx.map a.eval) (Nat.le_refl _) (Nat.zero_le _) b1 (by simpa using b2)
      refine ⟨_, by simp only [execOp, ho, hz, Sem.run_bind, Option.map_none, this, Result.andThen_ok, Sem.run_pure]; rfl, ?_⟩
      simp only [List.drop_nil, List.take_nil]
      exact .g (.slE _ _ _ _)
    | sl ad m c _ _ _ u hm hc hmx hp' hl' hu' ho' hq' hr =>
      subst hm
      have := run_slice (P := P) hu hs (w := w) (A := some ad) (len := xs.length) (cap := c) (lo := lo) (hi := hi) (l := lx.map a.eval) (h := hx.map a.eval) h1 (by omega) b1 b2
      refine ⟨_, by simp only [execOp, ho, hz, Sem.run_bind, Option.map_none, this, Result.andThen_ok, Sem.run_pure]; rfl, ?_⟩
      have hlen : ((xs.drop lo).take (hi - lo)).length = hi - lo := by simp; omega
      have hget : ∀ (k : Nat) (x : V), ((xs.drop lo).take (hi - lo))[k]? = some x → xs[lo + k]? = some x := by
        intro k x hx
        rw [List.getElem?_take] at hx
        split at hx
        · rwa [List.getElem?_drop] at hx
        · cases hx
      by_cases h0 : hi - lo = 0
      · have : (xs.drop lo).take (hi - lo) = [] := List.eq_nil_of_length_eq_zero (by omega)
        rw [this, h0]
        exact .g (.slE _ _ _ _)
      · rw [if_neg (by omega)]
        simp only [Option.map_some]
        have hbk : ∀ (ad : Addr) (n : Nat), (ad.add n).block = ad.block := by
          intro ad n; unfold Addr.add; split <;> rfl
        refine .g (.sl (ad.add (lo * es)) (hi - lo) (c - lo) p es _ (fun k j => u (lo + k) j) hlen (by omega) (by omega) (by rw [hbk]; exact hp') (fun k x hx => hl' _ x (hget k x hx)) (fun k x hx j y hy => ?_) (fun k x hx j y hy => ho' _ x (hget k x hx) j y hy) (fun hp k x hx => hq' hp _ x (hget k x hx)) (fun k x hx j y hy => hr _ x (hget k x hx) j y hy))
        have := hu' _ x (hget k x hx) j y hy
        rw [add_add, ← this]
        congr 2
        rw [Nat.add_mul]
        omega
theorem ok_sliceStr {o : Oper} {x : Operand} {lx hx : Option Operand} {t d lo hi : Nat} {σ : Sg} {s : ByteArray} {vl vh : V} (ho : o.op = .slice t x lx hx none) (hd : o.dst = some d) (hn : d < N.n) (hu : P.underlying t = some .string)
    (hxv : σ.ev x = .str s) (hl : (lx = none ∧ lo = 0) ∨ ∃ y k, lx = some y ∧ vl = .int k (lo : Int) ∧ σ.ev y = vl) (hh : (hx = none ∧ hi = s.size) ∨ ∃ y k, hx = some y ∧ vh = .int k (hi : Int) ∧ σ.ev y = vh) (h1 : lo ≤ hi) (h2 : hi ≤ s.size) :
    CoreOk P N o (opw x (.str s) ++ boW lx vl ++ boW hx vh) [.t d (.str (s.extract lo hi))] :=
  val_ok hd hn fun G w σ' a H he hp => by
    obtain ⟨hp, hp3⟩ := has_append.1 hp
    obtain ⟨hp1, hp2⟩ := has_append.1 hp
    have g1 := he x
    rw [opw_ev hxv hp1] at g1
    have b1 := bound_of he hl hp2
    have b2 := bound_of he hh hp3
    refine ⟨.string (s.extract lo hi), ?_, .g (.str _)⟩
    have e1 := Rep.inv_str g1
    rcases b1 with ⟨b1, rfl⟩ | ⟨k, b1⟩ <;> rcases b2 with ⟨b2, rfl⟩ | ⟨k', b2⟩ <;>
      simp [execOp, ho, e1, Instr.sliceAt, run_underlying hu, Instr.slice, Instr.sliceBounds, Instr.sliceBound, asIntOf, b1, b2, h1, h2]
theorem ok_indexStr {o : Oper} {x y : Operand} {t d : Nat} {σ : Sg} {s : ByteArray} {k : IntKind} {i : Int} (ho : o.op = .index t x y) (hd : o.dst = some d) (hn : d < N.n) (hu : P.underlying t = some .string)
    (hx : σ.ev x = .str s) (hy : σ.ev y = .int k i) (h0 : 0 ≤ i) (h1 : i.toNat < s.size) : CoreOk P N o (opw x (.str s) ++ opw y (.int k i)) [.t d (.int .u8 (s[i.toNat].toNat : Int))] :=
  val_ok hd hn fun G w σ' a H he hp => by
    obtain ⟨hp1, hp2⟩ := has_append.1 hp
    have g1 := he x
    rw [opw_ev hx hp1] at g1
    have g2 := he y
    rw [opw_ev hy hp2] at g2
    refine ⟨.int .u8 (s[i.toNat].toNat : Int), ?_, .g (.int _ _)⟩
    have hs : s[i.toNat]? = some s[i.toNat] := by simp [h1]
    simp [execOp, ho, Rep.inv_str g1, Rep.inv_int g2, Instr.index, asIntOf, run_underlying hu, h0, hs]
end
end Go.Sy
end

section
set_option linter.unusedVariables false
set_option linter.unusedSimpArgs false
namespace Go.Sy
section
variable {P : Program} {N : Cx} {ops : Array Oper}
theorem new_arr {G : Gh} {w : World} {ob ob' : Nat → Ob} (H : Hold G w ob) {k e es n : Nat} (hk : ob k = .free) (kill : Nat → Prop) (hkill : ¬ kill k) (cur : Array Value) {xs : List V} (hsz : cur.size = n * es) (hx : xs.length = n) (hm : n ≤ maxLen)
    (hl : ∀ (k : Nat) (x : V), xs[k]? = some x → (cl x).length = es) (ho : ∀ u ∈ cur.toList, u.oneCell' = true) (hg : ∀ x ∈ xs, (cl x).all gO = true) (M : Nat → Nat → Nat → Prop)
    (hr : ∀ (k : Nat) (x : V), xs[k]? = some x → ∀ (j : Nat) (y : V), (cl x)[j]? = some y → RepN w G.I G.J (M k j) (cur.getD (k * es + j) undef) y)
    (hM : ∀ k j b, M k j b → ∃ i, kill i ∧ G.F i b) (nd : ∀ k j k' j' b, M k j b → M k' j' b → k = k' ∧ j = j') (nb : ∀ k j b, M k j b → ∃ x y, xs[k]? = some x ∧ (cl x)[j]? = some y)
    (o1 : ob' k = .arr e es xs) (o2 : ∀ i, kill i → ob' i = .dead) (o3 : ∀ i, i ≠ k → ¬ kill i → ob' i = ob i) :
    ∃ G' r, Hold G' (w.alloc (.cells cur e)) ob' ∧ Fr G w G' (w.alloc (.cells cur e)) ∧ G'.ρ k = some r ∧ r.sl (.slice (some ⟨w.heap.size, 0, none⟩) n n) := by
  have hMlt : ∀ k j b, M k j b → b < w.heap.size := fun k j b h => by obtain ⟨i, _, h⟩ := hM k j b h; exact H.flt i b h
  have hrow : (∀ v x, RepG w G.I G.J v x → RepG (w.alloc (.cells cur e)) G.I G.J v x) → Row (w.alloc (.cells cur e)) G.I G.J (.slice (some ⟨w.heap.size, 0, none⟩) n n) e es xs M := by
    intro LG
    refine ⟨cur.toList, ⟨by rw [Array.length_toList, hsz, hx], .inr ⟨w.heap.size, n, cur, by rw [hx], Nat.zero_le _, heap_alloc_new w _, by omega, hm, hsz, by rw [hx, ← hsz, ← Array.length_toList, List.take_length]⟩⟩, ho, hl, hg, fun a x hx j y hy => ?_⟩
    have e1 : cur.toList.getD (a * es + j) undef = cur.getD (a * es + j) undef := by
      rw [List.getD_eq_getElem?_getD, Array.getD_eq_getD_getElem?]; simp
    rw [e1]
    exact (hr a x hx j y hy).lift LG (fun b hb => heap_alloc_old w _ b (hMlt a j b hb))
  have ng : ∀ a j b, M a j b → (Value.slice (some ⟨w.heap.size, 0, none⟩) n n).ownBlock ≠ some b := by
    intro a j b h e
    have := hMlt a j b h
    simp [Value.ownBlock] at e
    omega
  have LG : ∀ v x, RepG w G.I G.J v x → RepG (w.alloc (.cells cur e)) G.I G.J v x := fun v x h => h.mono (fun _ h => h) (fun _ h => h) (fun b hb => heap_alloc_old w _ b (H.lt b (hb.elim (H.ij b) id)))
  have := H.mv hk kill hkill (w' := w.alloc (.cells cur e)) (ob' := ob') rfl rfl rfl (by simp) (fun b hb _ => heap_alloc_old w _ b hb) (RI.of (.slice (some ⟨w.heap.size, 0, none⟩) n n) es)
    (fun b => (Value.slice (some ⟨w.heap.size, 0, none⟩) n n).ownBlock = some b ∨ ∃ a j, M a j b) (fun b hb => by
      rcases hb with hb | ⟨a, j, hb⟩
      · simp [Value.ownBlock] at hb
        exact .inr (by omega)
      · exact .inl (hM a j b hb)) (fun b hb => by
      rcases hb with hb | ⟨a, j, hb⟩
      · simp [Value.ownBlock] at hb
        simp
        omega
      · have := hMlt a j b hb
        simp
        omega) (.arr e es xs) (fun LG' => (own_of_row (hrow LG') (fun b => Iff.rfl) ng nd nb).2) o1 o2 o3
  exact ⟨_, _, this.1, this.2, by simp [Gh.mv], (own_of_row (ρ := G.ρ) (hrow LG) (F := fun b => (Value.slice (some ⟨w.heap.size, 0, none⟩) n n).ownBlock = some b ∨ ∃ a j, M a j b) (fun b => Iff.rfl) ng nd nb).1⟩
theorem gO_of_gS {y : V} (h : gS y = true) : gO y = true := by
  cases y <;> simp_all [gS, gO, gV]
theorem repN_of_gS {ρ : Nat → Option RI} {w : World} {I J : Nat → Prop} {v : Value} {y : V} (h : gS y = true) (hr : Rep ρ w I J v y) : RepN w I J (fun _ => False) v y := by
  have hv : gV y = true := by cases y <;> simp_all [gS, gV]
  exact repN_of_G hv (Rep.ground hr hv)
def chunk (es : Nat) : Nat → List V → List V
  | 0, _ => []
  | n + 1, cs => (match es with
    | 1 => cs.headD .un
    | _ => .agg (cs.take es)) :: chunk es n (cs.drop es)
theorem chunk_length (es : Nat) : ∀ (n : Nat) (cs : List V), (chunk es n cs).length = n
  | 0, _ => rfl
  | n + 1, cs => by simp [chunk, chunk_length es n]
theorem cl_gO {y : V} (h : gO y = true) : cl y = [y] := by
  cases y <;> simp_all [gO, gV, cl]
theorem chunk_get (es : Nat) (h0 : 0 < es) : ∀ (n : Nat) (cs : List V), cs.length = n * es → cs.all gO = true → ∀ (k : Nat) (x : V), (chunk es n cs)[k]? = some x → (cl x).length = es ∧ (∀ j, j < es → (cl x)[j]? = cs[k * es + j]?) ∧ (cl x).all gO = true
  | 0, cs, _, _, k, x, h => by simp [chunk] at h
  | n + 1, cs, hl, hg, k, x, h => by
    rw [Nat.add_mul, Nat.one_mul] at hl
    have hgd : (cs.drop es).all gO = true := by
      rw [List.all_eq_true] at hg ⊢
      exact fun y hy => hg y (List.mem_of_mem_drop hy)
    cases k with
    | succ k =>
      simp only [chunk, List.getElem?_cons_succ] at h
      obtain ⟨h1, h2, h3⟩ := chunk_get es h0 n (cs.drop es) (by simp; omega) hgd k x h
      refine ⟨h1, fun j hj => ?_, h3⟩
      rw [h2 j hj, List.getElem?_drop]
      congr 1
      rw [Nat.add_mul]
      omega
    | zero =>
      simp only [chunk, List.getElem?_cons_zero, Option.some.injEq] at h
      split at h
      · subst h
        cases cs with
        | nil => (simp at hl); (try omega)
        | cons y l =>
          simp only [List.headD_cons]
          have hy : gO y = true := (List.all_eq_true.1 hg) y List.mem_cons_self
          rw [cl_gO hy]
          refine ⟨rfl, fun j hj => ?_, by simp [hy]⟩
          obtain rfl : j = 0 := by omega
          rfl
      · subst h
        simp only [cl]
        refine ⟨by simp; omega, fun j hj => ?_, ?_⟩
        · rw [List.getElem?_take, if_pos hj, Nat.zero_mul, Nat.zero_add]
        · rw [List.all_eq_true] at hg ⊢
          exact fun y hy => hg y (List.mem_of_mem_take hy)
theorem plain_of_gS {y : V} (h : gS y = true) : plain y = true := by
  cases y <;> simp_all [gS, plain]
theorem oneV_of_gV {y : V} (h : gV y = true) : oneV y = true := by
  cases y <;> simp_all [gV, oneV]
def refs : List V → List Nat
  | [] => []
  | .ref i :: l => i :: refs l
  | _ :: l => refs l
def convL (q : Nat × Nat) (ob : Nat → Ob) : List V → Option (List V × List Nat)
  | [] => some ([], [])
  | .ref i :: l => match ob i with
    | .arr e es ys => (convL q ob l).map fun p => (.own e es ys :: p.1, i :: p.2)
    | _ => none
  | .nil :: l => (convL q ob l).map fun p => (.own q.1 q.2 [] :: p.1, p.2)
  | y :: l => if gV y = true then (convL q ob l).map fun p => (y :: p.1, p.2) else none
def refAt (cs : List V) (t : Nat) : Option Nat :=
  match cs[t]? with
  | some (.ref i) => some i
  | _ => none
theorem refs_mem : ∀ (cs : List V) (t i : Nat), refAt cs t = some i → i ∈ refs cs
  | [], t, i, h => by simp [refAt] at h
  | c :: l, 0, i, h => by
    cases c <;> simp [refAt] at h
    subst h
    simp [refs]
  | c :: l, t + 1, i, h => by
    have := refs_mem l t i (by simpa [refAt] using h)
    cases c <;> simp [refs, this]
def nodupB : List Nat → Bool
  | [] => true
  | a :: l => notIn a l && nodupB l
theorem refs_inj : ∀ (cs : List V), nodupB (refs cs) = true → ∀ (t t' i : Nat), refAt cs t = some i → refAt cs t' = some i → t = t'
  | [], _, t, t', i, h, _ => by simp [refAt] at h
  | c :: l, hn, t, t', i, h, h' => by
    have hl : nodupB (refs l) = true := by
      cases c <;> simp only [refs] at hn <;> try exact hn
      simp only [nodupB, Bool.and_eq_true] at hn
      exact hn.2
    have h0 : ∀ s, refAt (c :: l) 0 = some i → refAt (c :: l) (s + 1) = some i → False := by
      intro s a b
      cases c <;> simp [refAt] at a
      subst a
      simp only [refs, nodupB, Bool.and_eq_true] at hn
      exact notIn_iff hn.1 (refs_mem l s _ (by simpa [refAt] using b))
    cases t with
    | zero =>
      cases t' with
      | zero => rfl
      | succ t' => exact (h0 t' h h').elim
    | succ t =>
      cases t' with
      | zero => exact (h0 t h' h).elim
      | succ t' =>
        have := refs_inj l hl t t' i (by simpa [refAt] using h) (by simpa [refAt] using h')
        omega
theorem convL_refs (q : Nat × Nat) (ob : Nat → Ob) : ∀ (cs cs' : List V) (kill : List Nat), convL q ob cs = some (cs', kill) → kill = refs cs
  | [], cs', kill, h => by
    simp only [convL, Option.some.injEq, Prod.mk.injEq] at h
    exact h.2.symm
  | c :: l, cs', kill, h => by
    by_cases hc : ∃ i, c = .ref i
    · obtain ⟨i, rfl⟩ := hc
      simp only [convL] at h
      split at h
      · obtain ⟨⟨l', kl⟩, h1, h2⟩ := Option.map_eq_some_iff.1 h
        simp only [Prod.mk.injEq] at h2
        rw [← h2.2, convL_refs q ob l l' kl h1]
        rfl
      · cases h
    by_cases hz : c = .nil
    · subst hz
      simp only [convL] at h
      obtain ⟨⟨l', kl⟩, h1, h2⟩ := Option.map_eq_some_iff.1 h
      simp only [Prod.mk.injEq] at h2
      rw [← h2.2, convL_refs q ob l l' kl h1]
      rfl
    · have hcv : convL q ob (c :: l) = if gV c = true then (convL q ob l).map fun p => (c :: p.1, p.2) else none := by
        cases c <;> first | rfl | exact (hc ⟨_, rfl⟩).elim | exact (hz rfl).elim
      rw [hcv] at h
      split at h
      · obtain ⟨⟨l', kl⟩, h1, h2⟩ := Option.map_eq_some_iff.1 h
        simp only [Prod.mk.injEq] at h2
        rw [← h2.2, convL_refs q ob l l' kl h1]
        cases c <;> first | rfl | exact (hc ⟨_, rfl⟩).elim | exact (hz rfl).elim
      · cases h
theorem convL_of (q : Nat × Nat) {G : Gh} {w : World} {ob : Nat → Ob} (H : Hold G w ob) : ∀ (cs cs' : List V) (kill : List Nat), convL q ob cs = some (cs', kill) → (∀ i ∈ kill, ∀ e es ys, ob i = .arr e es ys → ∀ x ∈ ys, (cl x).all gS = true) →
    cs'.length = cs.length ∧ cs'.all gO = true ∧ (∀ t i, refAt cs t = some i → i ∈ kill) ∧ ∀ (t : Nat) (y y' : V) (v : Value), cs[t]? = some y → cs'[t]? = some y' → G.Rep w v y → v.oneCell' = true ∧ RepN w G.I G.J (fun b => ∃ i, refAt cs t = some i ∧ G.F i b) v y'
  | [], cs', kill, h, _ => by
    simp only [convL, Option.some.injEq, Prod.mk.injEq] at h
    obtain ⟨rfl, rfl⟩ := h
    exact ⟨rfl, rfl, fun t i h => by simp [refAt] at h, fun t y y' v h => by simp at h⟩
  | c :: l, cs', kill, h, hf => by
    have step : ∀ (y0 : V) (ks : List Nat) (l' : List V) (kl : List Nat), convL q ob l = some (l', kl) → cs' = y0 :: l' → kill = ks ++ kl → gO y0 = true → (∀ i, c = .ref i → i ∈ ks) →
        (∀ v, G.Rep w v c → v.oneCell' = true ∧ RepN w G.I G.J (fun b => ∃ i, c = .ref i ∧ G.F i b) v y0) →
        cs'.length = (c :: l).length ∧ cs'.all gO = true ∧ (∀ t i, refAt (c :: l) t = some i → i ∈ kill) ∧ ∀ (t : Nat) (y y' : V) (v : Value), (c :: l)[t]? = some y → cs'[t]? = some y' → G.Rep w v y → v.oneCell' = true ∧ RepN w G.I G.J (fun b => ∃ i, refAt (c :: l) t = some i ∧ G.F i b) v y' := by
      intro y0 ks l' kl e1 e2 e3 e4 e5 e6
      obtain ⟨i1, i2, i3, i4⟩ := convL_of q H l l' kl e1 (fun i hi => hf i (by rw [e3]; exact List.mem_append_right _ hi))
      subst e2
      subst e3
      refine ⟨by simp [i1], by simp [e4, i2], fun t i h => ?_, fun t y y' v h1 h2 h3 => ?_⟩
      · cases t with
        | zero =>
          simp only [refAt, List.getElem?_cons_zero] at h
          split at h
          · rename_i hc
            injection hc with hc
            obtain rfl := Option.some.inj h
            exact List.mem_append_left _ (e5 _ hc)
          · cases h
        | succ t => exact List.mem_append_right _ (i3 t i (by simpa [refAt] using h))
      · cases t with
        | zero =>
          simp only [List.getElem?_cons_zero, Option.some.injEq] at h1 h2
          subst h1
          subst h2
          obtain ⟨q1, q2⟩ := e6 v h3
          refine ⟨q1, ?_⟩
          have : (fun b => ∃ i, refAt (c :: l) 0 = some i ∧ G.F i b) = (fun b => ∃ i, c = .ref i ∧ G.F i b) := by
            funext b
            cases c <;> simp [refAt]
          rw [this]
          exact q2
        | succ t =>
          have := i4 t y y' v (by simpa using h1) (by simpa using h2) h3
          simpa [refAt] using this
    by_cases hc : ∃ i, c = .ref i
    · obtain ⟨i, rfl⟩ := hc
      simp only [convL] at h
      split at h
      · rename_i e es ys hob
        obtain ⟨⟨l', kl⟩, h1, h2⟩ := Option.map_eq_some_iff.1 h
        simp only [Prod.mk.injEq] at h2
        obtain ⟨rfl, rfl⟩ := h2
        refine step (.own e es ys) [i] l' kl h1 rfl rfl rfl (fun j hj => by injection hj with hj; simp [hj]) (fun v hv => ?_)
        have hflat := hf i (by simp) e es ys hob
        obtain ⟨r, e1, e2⟩ := Rep.inv_ref hv
        obtain ⟨r', f1, f2, f3, f4⟩ := arr_of H hob
        rw [e1] at f1
        obtain rfl := Option.some.inj f1
        have hFi : (fun b => ∃ j, V.ref i = .ref j ∧ G.F j b) = fun b => G.F i b := by
          funext b
          simp
        rw [hFi]
        rcases f4 with ⟨f4, f5, f6, _⟩ | ⟨g, cur, M, f4, f5⟩
        · unfold RI.sl at e2
          rw [f4] at e2
          obtain ⟨rfl, _⟩ := e2
          exact ⟨rfl, .inl ⟨rfl, f5, f6⟩⟩
        · unfold RI.sl at e2
          rw [f4] at e2
          simp only at e2
          subst e2
          have hno : ∀ k j b, ¬ M k j b := by
            intro k j b hb
            obtain ⟨x, y, hx, hy⟩ := f5.nb k j b hb
            have hgs := (List.all_eq_true.1 (hflat x (List.mem_of_getElem? hx))) y (List.mem_of_getElem? hy)
            exact (RepN.plain (f5.rep k x hx j y hy) (plain_of_gS hgs)).2 b hb
          refine ⟨rfl, .inr ⟨g, r.cap, cur, by rw [f3], ⟨f5.heap, f5.size, f5.le, f5.max, f5.hl, f5.one, hflat, fun k x hx j y hy => ?_⟩, fun b => ?_⟩⟩
          · have hgs := (List.all_eq_true.1 (hflat x (List.mem_of_getElem? hx))) y (List.mem_of_getElem? hy)
            exact (RepN.plain (f5.rep k x hx j y hy) (plain_of_gS hgs)).1
          · show G.F i b ↔ b = g
            rw [f5.fo b]
            constructor
            · rintro (h | ⟨k, j, h⟩)
              · exact h
              · exact (hno k j b h).elim
            · exact .inl
      · cases h
    by_cases hz : c = .nil
    · subst hz
      simp only [convL] at h
      obtain ⟨⟨l', kl⟩, h1, h2⟩ := Option.map_eq_some_iff.1 h
      simp only [Prod.mk.injEq] at h2
      obtain ⟨rfl, rfl⟩ := h2
      refine step (.own q.1 q.2 []) [] l' kl h1 rfl rfl rfl (fun j hj => by cases hj) (fun v hv => ?_)
      obtain rfl := Rep.inv_nil hv
      exact ⟨rfl, .inl ⟨rfl, rfl, fun b hb => by obtain ⟨i, hi, _⟩ := hb; cases hi⟩⟩
    · have hcv : convL q ob (c :: l) = if gV c = true then (convL q ob l).map fun p => (c :: p.1, p.2) else none := by
        cases c <;> first | rfl | exact (hc ⟨_, rfl⟩).elim | exact (hz rfl).elim
      rw [hcv] at h
      split at h
      · rename_i hg
        obtain ⟨⟨l', kl⟩, h1, h2⟩ := Option.map_eq_some_iff.1 h
        simp only [Prod.mk.injEq] at h2
        obtain ⟨rfl, rfl⟩ := h2
        refine step c [] l' kl h1 rfl rfl (gO_of_gV hg) (fun i hi => (hc ⟨i, hi⟩).elim) (fun v hv => ⟨hv.oneCell (oneV_of_gV hg), ?_⟩)
        have : (fun b => ∃ i, c = .ref i ∧ G.F i b) = fun _ => False := by
          funext b
          simp
          exact fun i hi => (hc ⟨i, hi⟩).elim
        rw [this]
        exact repN_of_G hg (Rep.ground hv hg)
      · cases h
def zerosV (n : Nat) (zs : List V) : List V := (List.range (n * zs.length)).map fun t => zs.getD (t % zs.length) .un
theorem convL_congr {q : Nat × Nat} {ob ob' : Nat → Ob} : ∀ (cs : List V), (∀ i ∈ refs cs, ob' i = ob i) → convL q ob' cs = convL q ob cs
  | [], _ => rfl
  | c :: l, h => by
    cases c <;> simp only [convL] <;> simp only [refs] at h <;> try rw [convL_congr l h]
    rw [h _ (by simp), convL_congr l (fun i hi => h i (by simp [hi]))]
theorem ok_lit (q : Nat × Nat) {o : Oper} {parts : Array (Nat × Operand)} {t e es bytes d k n : Nat} {σ : Sg} {zs cs cs' xs : List V} {vs : List (Nat × V)} {kill : List Nat} (ho : o.op = .buildSlice t n parts) (hd : o.dst = some d) (hn : d < N.n) (hu : P.underlying t = some (.slice e)) (hi : elInfo P e = some (es, bytes))
    (hz : zeroCs P e = some zs) (hsm : (decide (0 < n) && decide (n * es ≤ 16777216)) = true) (hvs : vs = partsEv σ parts.toList) (hf : fillV (fun i => some (i * es, es)) (zerosV n zs) vs = some cs) (hc : convL q σ.ob cs = some (cs', kill)) (hk : (notIn k kill && nodupB kill) = true)
    (hfl : ∀ i ∈ kill, ∀ e es ys, σ.ob i = .arr e es ys → ∀ x ∈ ys, (cl x).all gS = true) (hxs : chunk es n cs' = xs) :
    CoreOk P N o (partsW parts.toList vs ++ obW σ.ob kill ++ [.o k .free]) ((killW kill ++ [.o k (.arr e es xs)]) ++ [.t d (.ref k)]) :=
  eff_ok hd hn (fun z hz => by
    simp only [killW, List.mem_append, List.mem_map, List.mem_singleton] at hz
    rcases hz with ⟨i, _, rfl⟩ | rfl
    · exact ⟨_, _, rfl⟩
    · exact ⟨_, _, rfl⟩) fun G w σ' a H _ he hp => by
    subst hxs
    subst hvs
    simp only [Bool.and_eq_true, decide_eq_true_eq] at hk hsm
    obtain ⟨hk1, hk2⟩ := hk
    have hk1 := notIn_iff hk1
    obtain ⟨hpos, hsm⟩ := hsm
    obtain ⟨hp, hp3⟩ := has_append.1 hp
    obtain ⟨hp1, hp2⟩ := has_append.1 hp
    have hpr := partsW_rep he parts.toList hp1
    have hkr := convL_refs q σ.ob cs cs' kill hc
    have hob : ∀ i ∈ kill, σ'.ob i = σ.ob i := obW_has hp2
    have hc' : convL q σ'.ob cs = some (cs', kill) := by
      rw [convL_congr cs (fun i hi => hob i (by rw [hkr]; exact hi))]
      exact hc
    unfold elInfo at hi
    split at hi
    · rename_i inf hinf
      split at hi
      · rename_i z hzz
        split at hi
        · rename_i hsz
          simp only [Option.some.injEq, Prod.mk.injEq] at hi
          obtain ⟨rfl, rfl⟩ := hi
          have hzz' : zs = z.cells.toList.map toV := by
            simp [zeroCs, hinf, hzz] at hz
            exact hz.symm
          have hlen : zs.length = inf.size := by rw [hzz']; simp; exact hsz.1
          have hrep := rep_toV G w z.cells
          rw [← hzz'] at hrep
          have hcell : ∀ t, t < n * inf.size → (((Array.range (n * inf.size)).map (z.cells[· % z.cells.size]!)) : Array Value).getD t undef = z.cells.getD (t % inf.size) undef := by
            intro t ht
            simp [Array.getD, ht, hsz.1, getElem!_def, Nat.mod_lt _ hsz.2]
          obtain ⟨cur, q1, q2, q3⟩ := fill_of (G := G) (w := w) (place := fun i => some (i * inf.size, inf.size)) _ _ ((Array.range (n * inf.size)).map (z.cells[· % z.cells.size]!)) (zerosV n zs) cs hpr (by simp [zerosV, hlen]) (fun j y hy => by
            simp only [zerosV, List.getElem?_map, hlen] at hy
            obtain ⟨t, ht, rfl⟩ := Option.map_eq_some_iff.1 hy
            have hlt : j < n * inf.size := by have := (List.getElem?_eq_some_iff.1 ht).1; simpa using this
            obtain rfl : j = t := by simpa [List.getElem?_range hlt] using ht
            rw [hcell j hlt]
            have hm := Nat.mod_lt j hsz.2
            rw [List.getD_eq_getElem?_getD, List.getElem?_eq_getElem (by omega)]
            exact hrep _ _ (List.getElem?_eq_getElem (by omega))) hf
          have hcs : cs.length = n * inf.size := by
            have : ∀ (vs : List (Nat × V)) (c c' : List V), fillV (fun i => some (i * inf.size, inf.size)) c vs = some c' → c'.length = c.length := by
              intro vs
              induction vs with
              | nil => intro c c' h; simp only [fillV, Option.some.injEq] at h; rw [h]
              | cons p vs ih =>
                intro c c' h
                obtain ⟨i, x⟩ := p
                simp only [fillV] at h
                split at h
                · split at h
                  · obtain ⟨c1, h1, h2⟩ := Option.bind_eq_some_iff.1 h
                    rw [ih c1 c' h2, (storeV_get h1).1]
                  · cases h
                · cases h
            rw [this _ _ _ hf]
            simp [zerosV, hlen]
          obtain ⟨v1, v2, v3, v4⟩ := convL_of q H cs cs' kill hc' (fun i hi e es ys h => hfl i hi e es ys (by rw [← hob i hi]; exact h))
          have hcg := chunk_get inf.size hsz.2 n cs' (by omega) v2
          have hrun := run_buildSlice (P := P) w t e n (parts.map fun (i, x) => (i, a.eval x)) cur inf z hu hinf hzz (by omega) (by have := Nat.mul_pos hpos hsz.2; omega) (by rw [Array.toList_map]; exact q1)
          have hat : ∀ (a : Nat) (x : V), (chunk inf.size n cs')[a]? = some x → ∀ (j : Nat) (y : V), (cl x)[j]? = some y → a < n ∧ j < inf.size ∧ cs'[a * inf.size + j]? = some y := by
            intro a x hx j y hy
            have h1 := hcg a x hx
            have hj : j < inf.size := by rw [← h1.1]; exact (List.getElem?_eq_some_iff.1 hy).1
            have ha : a < n := by have := (List.getElem?_eq_some_iff.1 hx).1; rwa [chunk_length] at this
            exact ⟨ha, hj, by rw [← h1.2.1 j hj]; exact hy⟩
          have hcell2 : ∀ t, t < n * inf.size → ∃ y y', cs[t]? = some y ∧ cs'[t]? = some y' ∧ G.Rep w (cur.getD t undef) y := by
            intro t ht
            have h1 := List.getElem?_eq_getElem (show t < cs.length by omega)
            exact ⟨_, _, h1, List.getElem?_eq_getElem (show t < cs'.length by omega), q3 t _ h1⟩
          obtain ⟨G', r, r1, r2, r3, r4⟩ := new_arr H (k := k) (e := e) (es := inf.size) (n := n) hp3.1 (fun i => i ∈ kill) hk1 cur (xs := chunk inf.size n cs') (ob' := (σ'.puts (killW kill ++ [.o k (.arr e inf.size (chunk inf.size n cs'))])).ob)
            (by omega) (chunk_length _ _ _) (by have := Nat.le_mul_of_pos_right n hsz.2; simp only [maxLen]; omega) (fun a x hx => (hcg a x hx).1) (fun u hu => by
              obtain ⟨t, ht⟩ := List.getElem?_of_mem hu
              have hlt : t < n * inf.size := by have := (List.getElem?_eq_some_iff.1 ht).1; simp at this; omega
              have e1 : cur.getD t undef = u := by
                have : cur[t]? = some u := by simpa using ht
                simp [Array.getD_eq_getD_getElem?, this]
              obtain ⟨y, y', h1, h2, h3⟩ := hcell2 t hlt
              rw [e1] at h3
              exact (v4 t y y' u h1 h2 h3).1) (fun x hx => by
              obtain ⟨a, ha⟩ := List.getElem?_of_mem hx
              exact (hcg a x ha).2.2) (fun a j b => a < n ∧ j < inf.size ∧ ∃ i, refAt cs (a * inf.size + j) = some i ∧ G.F i b) (fun a x hx j y hy => by
              obtain ⟨h1, h2, h3⟩ := hat a x hx j y hy
              obtain ⟨y0, y', g1, g2, g3⟩ := hcell2 _ (idx_lt h1 (Nat.le_refl _) h2)
              rw [h3] at g2
              obtain rfl := Option.some.inj g2
              have := (v4 _ y0 y _ g1 h3 g3).2
              have e1 : (fun b => a < n ∧ j < inf.size ∧ ∃ i, refAt cs (a * inf.size + j) = some i ∧ G.F i b) = (fun b => ∃ i, refAt cs (a * inf.size + j) = some i ∧ G.F i b) := by
                funext b
                simp [h1, h2]
              show RepN w G.I G.J (fun b => a < n ∧ j < inf.size ∧ ∃ i, refAt cs (a * inf.size + j) = some i ∧ G.F i b) _ _
              rw [e1]
              exact this) (fun a j b h => by
              obtain ⟨_, _, i, h1, h2⟩ := h
              exact ⟨i, v3 _ i h1, h2⟩) (fun a j a' j' b h h' => by
              obtain ⟨h1, h2, i, h3, h4⟩ := h
              obtain ⟨h1', h2', i', h3', h4'⟩ := h'
              have := H.dis i i' b h4 h4'
              subst this
              have := refs_inj cs (by rw [← hkr]; exact hk2) _ _ i h3 h3'
              have ea : a = a' := by
                have e1 : (a * inf.size + j) / inf.size = a := by rw [Nat.mul_comm, Nat.mul_add_div hsz.2, Nat.div_eq_of_lt h2, Nat.add_zero]
                have e2 : (a' * inf.size + j') / inf.size = a' := by rw [Nat.mul_comm, Nat.mul_add_div hsz.2, Nat.div_eq_of_lt h2', Nat.add_zero]
                rw [← e1, ← e2, this]
              subst ea
              exact ⟨rfl, by omega⟩) (fun a j b h => by
              obtain ⟨h1, h2, i, h3, h4⟩ := h
              have hx := List.getElem?_eq_getElem (show a < (chunk inf.size n cs').length by rw [chunk_length]; exact h1)
              have hl := (hcg a _ hx).1
              exact ⟨_, _, hx, List.getElem?_eq_getElem (by omega)⟩) (by rw [kill_ob]; simp) (fun i hi => by rw [kill_ob]; have : i ≠ k := fun e => hk1 (e ▸ hi); simp only; rw [if_neg this, if_pos hi]) (fun i h1 h2 => by rw [kill_ob]; simp only; rw [if_neg h1, if_neg h2])
          refine ⟨_, _, G', ?_, r1, r2, .ref k r _ r3 r4⟩
          simp only [execOp, ho, Sem.run_bind, hrun, Result.andThen_ok, Sem.run_pure]
        · cases hi
      · cases hi
    · cases hi
theorem ok_lit0 {o : Oper} {t e es bytes d k : Nat} {parts : Array (Nat × Operand)} (ho : o.op = .buildSlice t 0 parts) (hp0 : parts.toList = []) (hd : o.dst = some d) (hn : d < N.n) (hu : P.underlying t = some (.slice e)) (hi : elInfo P e = some (es, bytes)) :
    CoreOk P N o [.o k .free] ([.o k (.arr e es [])] ++ [.t d (.ref k)]) :=
  eff_ok hd hn (fun z hz => by simp at hz; exact ⟨_, _, hz⟩) fun G w σ' a H _ he hp => by
    have hs : szOf P e = some es := by
      unfold elInfo at hi
      split at hi
      · rename_i inf hinf
        split at hi
        · split at hi
          · simp only [Option.some.injEq, Prod.mk.injEq] at hi
            simp [szOf, hinf, hi.1]
          · cases hi
        · cases hi
      · cases hi
    obtain ⟨G', r, r1, r2, r3, r4⟩ := new_arr H (k := k) (e := e) (es := es) (n := 0) hp.1 (fun _ => False) (fun h => h) #[] (xs := []) (ob' := (σ'.puts [.o k (.arr e es [])]).ob) (by simp) rfl (by simp) (by simp) (by simp) (by simp) (fun _ _ _ => False) (by simp) (fun _ _ _ h => h.elim) (fun _ _ _ _ _ h => h.elim) (fun _ _ _ h => h.elim)
      (by simp [Sg.puts, Sg.put]) (fun _ h => h.elim) (fun i h1 _ => by simp [Sg.puts, Sg.put, h1])
    have hparts : parts = #[] := by rw [← Array.toList_inj]; exact hp0
    refine ⟨_, _, G', ?_, r1, r2, .ref k r _ r3 r4⟩
    simp [execOp, ho, Instr.buildSlice, run_underlying hu, run_sz hs, hparts, Instr.fill, newRow, Array.range_zero']
end
end Go.Sy
end

section
set_option linter.unusedVariables false
set_option linter.unusedSimpArgs false
namespace Go.Sy
def obs (T : List Ob) : Nat → Ob := fun i => T.getD i .free
def FnSpec (P : Program) (f : Nat) (As : List V) (T : List Ob) (R : V) (T' : List Ob) : Prop :=
  ∀ (G : Gh) (w : World) (args : Array Value), Hold G w (obs T) → args.size = As.length → (∀ (k : Nat) (x : V), As[k]? = some x → G.Rep w (args.getD k undef) x) →
    Calls P f args w (fun e w' => ∃ v G', e = .returned v ∧ Hold G' w' (obs T') ∧ G'.Rep w' v R ∧ Fr G w G' w')
def SpecAt (P : Program) (f : Nat) (As : List V) (T : List Ob) (R : V) (T' : List Ob) (G : Gh) (w : World) : Prop :=
  ∀ (args : Array Value), Hold G w (obs T) → args.size = As.length → (∀ (k : Nat) (x : V), As[k]? = some x → G.Rep w (args.getD k undef) x) →
    Calls P f args w (fun e w' => ∃ v G', e = .returned v ∧ Hold G' w' (obs T') ∧ G'.Rep w' v R ∧ Fr G w G' w')
def resV (P : Program) (σ : Sg) : List ResultVar → Option (List V)
  | [] => some []
  | .tmp t :: l => (resV P σ l).map fun r => σ.tm t :: r
  | .cell t ty :: l => match σ.tm t with
    | .ptr i 0 0 => match σ.ob i with
      | .box _ cs => if isA P ty = some true ∧ szOf P ty = some cs.length then (resV P σ l).map fun r => .agg cs :: r else none
      | _ => none
    | _ => none
def resOf : List V → V
  | [x] => x
  | l => .tup l
def KF (P : Program) (m : Nat) (rs : List ResultVar) (R : V) (T' : List Ob) : Exit → Sg → Prop := fun e σ =>
  (e = .normal ∨ e = .ret) ∧ ∃ (L : List (Nat × Nat)) (vs : List V), (okL L && fixes m L) = true ∧ resV P σ rs = some vs ∧ R = (resOf vs).ren (hOf L) ∧ (L.map Prod.snd = List.range T'.length) ∧ T' = L.map fun p => (σ.ob p.1).ren (hOf L)
section
variable {P : Program}
def resF (tmps : Array Value) : ResultVar → Sem Value
  | .tmp t => pure (tmps.getD t undef)
  | .cell a t => do loadVar t (← asAddr (tmps.getD a undef))
theorem res_of {G : Gh} {w : World} {σ : Sg} {tmps : Array Value} (H : Hold G w σ.ob) (ht : ∀ t, G.Rep w (tmps.getD t undef) (σ.tm t)) : ∀ (rs : List ResultVar) (vs : List V), resV P σ rs = some vs →
    ∃ us : List Value, (rs.mapM (resF tmps)).run P w = .ok us w ∧ us.length = vs.length ∧ ∀ (j : Nat) (x : V), vs[j]? = some x → G.Rep w (us.getD j undef) x
  | [], vs, h => by
    obtain rfl := Option.some.inj h
    exact ⟨[], by simp, rfl, fun j x h => by simp at h⟩
  | .tmp t :: l, vs, h => by
    simp only [resV] at h
    obtain ⟨r, h1, rfl⟩ := Option.map_eq_some_iff.1 h
    obtain ⟨us, u1, u2, u3⟩ := res_of H ht l r h1
    refine ⟨tmps.getD t undef :: us, by simp [List.mapM_cons, resF, u1], by simp [u2], fun j x hx => ?_⟩
    cases j with
    | zero => simp at hx; subst hx; simpa using ht t
    | succ j => simpa using u3 j x (by simpa using hx)
  | .cell t ty :: l, vs, h => by
    simp only [resV] at h
    split at h
    · rename_i i htm
      split at h
      · rename_i tb cs hob
        split at h
        · rename_i hty
          obtain ⟨r, h1, rfl⟩ := Option.map_eq_some_iff.1 h
          obtain ⟨us, u1, u2, u3⟩ := res_of H ht l r h1
          have h2 := ht t
          rw [htm] at h2
          obtain ⟨ri, g, e1, e2, e3⟩ := Rep.inv_ptr h2
          obtain ⟨r', g', cur, f1, f2, f3, f4, f5, f6⟩ := box_of H hob
          rw [e1] at f1
          obtain rfl := Option.some.inj f1
          rw [e2] at f2
          obtain rfl := Option.some.inj f2
          have hld : (loadVar ty ⟨g, 0, none⟩).run P w = .ok (.agg cur) w := by
            have := run_loadN (P := P) hty.1 hty.2 (w := w) (ad := ⟨g, 0, none⟩) cur.toList (by simpa using f4) (fun j v hv => by rw [add_lit, Nat.zero_add, cell_of_row w g j cur tb (0, 0) f3]; simpa using hv)
            simpa [Instr.loadAt, Instr.sureAddr] using this
          have e4 : tmps.getD t undef = .pointer (some ⟨g, 0, none⟩) := by rw [e3]; simp
          refine ⟨.agg cur :: us, ?_, by simp [u2], fun j x hx => ?_⟩
          · simp [List.mapM_cons, resF, e4, asAddr, hld, u1]
          · cases j with
            | zero => simp at hx; subst hx; exact .agg cur cs f4 f5
            | succ j => simpa using u3 j x (by simpa using hx)
        · cases h
      · cases h
    · cases h
theorem run_results {G : Gh} {w : World} {σ : Sg} {tmps : Array Value} (H : Hold G w σ.ob) (ht : ∀ t, G.Rep w (tmps.getD t undef) (σ.tm t)) {fn : Func} {vs : List V} (h : resV P σ fn.results.toList = some vs) : ∃ v, (results fn tmps).run P w = .ok v w ∧ G.Rep w v (resOf vs) := by
  obtain ⟨us, u1, u2, u3⟩ := res_of H ht _ vs h
  have hm : (fn.results.mapM (resF tmps)).run P w = .ok us.toArray w := by
    rw [Array.mapM_eq_mapM_toList]
    simp [u1]
  have hr : (results fn tmps).run P w = .ok (if h : us.toArray.size = 1 then us.toArray[0] else .tuple us.toArray) w := by
    have e : results fn tmps = (do let vs ← fn.results.mapM (resF tmps); pure (if h : vs.size = 1 then vs[0] else .tuple vs)) := by
      unfold results
      congr 1
    rw [e, Sem.run_bind, hm]
    rfl
  refine ⟨_, hr, ?_⟩
  by_cases hone : vs.length = 1
  · obtain ⟨x, rfl⟩ := List.length_eq_one_iff.1 hone
    have : us.toArray.size = 1 := by simpa using u2
    rw [dif_pos this]
    have := u3 0 x rfl
    cases us with
    | nil => simp at u2
    | cons u us => simpa [resOf] using this
  · have : ¬ us.toArray.size = 1 := by
      intro e
      exact hone (by rw [← u2]; simpa using e)
    rw [dif_neg this]
    have e : resOf vs = .tup vs := by
      unfold resOf
      split
      · simp at hone
      · rfl
    rw [e]
    exact .tup _ _ (by simpa using u2) (fun j x hx => by have := u3 j x hx; show Sy.Rep _ _ _ _ _ _; simpa [Gh.Rep, Array.getD_eq_getD_getElem?, List.getD_eq_getElem?_getD] using this)
theorem obRen_list {ob : Nat → Ob} : ∀ {L : List (Nat × Nat)}, okL L = true → ∀ (T : List Ob), L.map Prod.snd = List.range T.length → T = L.map (fun p => (ob p.1).ren (hOf L)) → obRen ob L = obs T := by
  intro L hL T h1 h2
  funext j
  unfold obRen obs
  cases hj : gOf L j with
  | none =>
    simp only
    have hlt : ¬ j < T.length := by
      intro h
      have : j ∈ L.map Prod.snd := by rw [h1]; simpa using h
      obtain ⟨p, hp, rfl⟩ := List.mem_map.1 this
      rw [gOf_of (i := p.1) hL hp] at hj
      cases hj
    rw [List.getD_eq_getElem?_getD, List.getElem?_eq_none (by omega)]
    rfl
  | some i =>
    simp only
    have hm := gOf_mem hj
    obtain ⟨k, hk⟩ := List.getElem?_of_mem hm
    have hk2 : (L.map Prod.snd)[k]? = some j := by rw [List.getElem?_map, hk]; rfl
    rw [h1] at hk2
    have hkj : k = j := by
      have hlt : k < T.length := by have := (List.getElem?_eq_some_iff.1 hk2).1; simpa using this
      simpa [List.getElem?_range hlt] using hk2
    subst hkj
    rw [h2, List.getD_eq_getElem?_getD, List.getElem?_map, hk]
    rfl
theorem FnSpec.of {f : Nat} {fn : Func} {c : Code} {As : List V} {T : List Ob} {R : V} {T' : List Ob} (n : Nat) (hf : P.funcs[f]? = some fn) (hb : fn.body = some c) (hn : fn.ntmps = n) (hl : As.length ≤ n)
    (h : AW P (Cx.of n T.length) c ⟨lkT As, obs T⟩ (KF P T.length fn.results.toList R T')) : FnSpec P f As T R T' := by
  intro G w args H hs hr
  refine calls_of_wp hf hb ?_
  have hst : St G w (Cx.of n T.length) ⟨lkT As, obs T⟩ { tmps := args ++ Array.replicate (fn.ntmps - args.size) undef, defers := [] } w := by
    refine ⟨G, H, fun t => ?_, by simp [Cx.of]; omega, rfl, Fr.refl G w, fun i hi => ?_, trivial⟩
    · have hlk : ∀ (l : List V) (t : Nat), lkT l t = l.getD t .un := by
        intro l
        induction l with
        | nil => intro t; simp [lkT]
        | cons x l ih => intro t; cases t <;> simp [lkT, ih]
      show G.Rep w _ (lkT As t)
      rw [hlk]
      rcases Nat.lt_or_ge t As.length with ht | ht
      · have h1 := List.getElem?_eq_getElem ht
        rw [List.getD_eq_getElem?_getD, h1]
        have h2 := hr t _ h1
        have : (args ++ Array.replicate (fn.ntmps - args.size) undef).getD t undef = args.getD t undef := by
          simp [Array.getD_eq_getD_getElem?, Array.getElem?_append, show t < args.size by omega]
        rw [this]
        exact h2
      · rw [List.getD_eq_getElem?_getD, List.getElem?_eq_none ht]
        exact .g (.un _)
    · have hfree : obs T i = .free := by
        unfold obs
        rw [List.getD_eq_getElem?_getD, List.getElem?_eq_none hi]
        rfl
      exact (H.free hfree).1
  refine wp_mono (h G w _ w hst) ?_
  rintro e a' w' ⟨σ', ⟨he, L, vs, hL, hv, hR, hL2, hT'⟩, ⟨G', H', ht', h1, h2, h3, h4⟩⟩
  simp only [Bool.and_eq_true, fixes, List.all_eq_true, List.mem_range, beq_iff_eq] at hL
  obtain ⟨v, r1, r2⟩ := run_results H' ht' hv
  have hpost : a'.defers = [] ∧ ∃ v, (results fn a'.tmps).run P w' = .ok v w' ∧ ∃ v' G', Ending.returned v = .returned v' ∧ Hold G' w' (obs T') ∧ G'.Rep w' v' R ∧ Fr G w G' w' := by
    refine ⟨h2, v, r1, v, G'.ren L, rfl, ?_, ?_, h3.ren h4.1 hL.2⟩
    · rw [← obRen_list hL.1 T' hL2 hT']
      exact H'.ren hL.1
    · rw [hR]
      exact Rep.ren (Gh.ren_rho hL.1) r2
  rcases he with rfl | rfl
  · exact hpost
  · exact hpost
def roOf : List (Nat × Nat × List V) → Nat → Option (Nat × List V)
  | [], _ => none
  | (a, p) :: l, i => if i = a then some p else roOf l i
mutual
def V.view (L : List (Nat × Nat)) (ro : List (Nat × Nat × List V)) : V → V
  | .ref i => match hOf L i with
    | some j => .ref j
    | none => match roOf ro i with
      | some (es, ys) => .sl false es ys
      | none => .un
  | .sub i a b => match hOf L i with
    | some j => .sub j a b
    | none => match roOf ro i with
      | some (es, ys) => .sl false es ((ys.drop a).take b)
      | none => .un
  | .ptr i a b => match hOf L i with
    | some j => .ptr j a b
    | none => .un
  | .agg cs => .agg (viewL L ro cs)
  | .tup cs => .tup (viewL L ro cs)
  | .un => .un
  | .int k n => .int k n
  | .bool b => .bool b
  | .str s => .str s
  | .nil => .nil
  | .sl p es xs => .sl p es xs
  | .own e es xs => .own e es xs
  | .vp p es xs k off => .vp p es xs k off
  | .np => .np
  | .fn f => .fn f
def viewL (L : List (Nat × Nat)) (ro : List (Nat × Nat × List V)) : List V → List V
  | [] => []
  | x :: l => x.view L ro :: viewL L ro l
end
mutual
/-- A value back with the caller; q: what was only lent stays so (nothing of the caller's own was lent to be read). -/
def V.bk (q : Bool) (L : List (Nat × Nat)) : V → V
  | .ref j => match gOf L j with
    | some i => .ref i
    | none => .un
  | .sub j a b => match gOf L j with
    | some i => .sub i a b
    | none => .un
  | .ptr j a b => match gOf L j with
    | some i => .ptr i a b
    | none => .un
  | .agg cs => .agg (bkL q L cs)
  | .tup cs => .tup (bkL q L cs)
  | .un => .un
  | .int k n => .int k n
  | .bool b => .bool b
  | .str s => .str s
  | .nil => .nil
  | .sl p es xs => match p || q with
    | true => .sl p es xs
    | false => .un
  | .own e es xs => .un
  | .vp p es xs k off => match p || q with
    | true => .vp p es xs k off
    | false => .un
  | .np => .np
  | .fn f => .fn f
def bkL (q : Bool) (L : List (Nat × Nat)) : List V → List V
  | [] => []
  | x :: l => x.bk q L :: bkL q L l
end
def Ob.bk (q : Bool) (L : List (Nat × Nat)) : Ob → Ob
  | .box t cs => .box t (bkL q L cs)
  | .free => .free
  | .dead => .dead
  | .arr e es xs => .arr e es xs
  | .hole e es xs j off k => match gOf L k with
    | some i => .hole e es xs j off i
    | none => .arr e es xs
  | .holes e es xs j hs => .holes e es xs j (renH (gOf L) hs)
  | .raw e l => .raw e l
theorem viewL_get (L : List (Nat × Nat)) (ro : List (Nat × Nat × List V)) : ∀ (l : List V) (j : Nat), (viewL L ro l)[j]? = (l[j]?).map (V.view L ro)
  | [], j => by simp [viewL]
  | x :: l, 0 => by simp [viewL]
  | x :: l, j + 1 => by simp [viewL, viewL_get L ro l j]
theorem viewL_length (L : List (Nat × Nat)) (ro : List (Nat × Nat × List V)) : ∀ (l : List V), (viewL L ro l).length = l.length
  | [] => rfl
  | x :: l => by simp [viewL, viewL_length L ro l]
theorem bkL_get (q : Bool) (L : List (Nat × Nat)) : ∀ (l : List V) (j : Nat), (bkL q L l)[j]? = (l[j]?).map (V.bk q L)
  | [], j => by simp [bkL]
  | x :: l, 0 => by simp [bkL]
  | x :: l, j + 1 => by simp [bkL, bkL_get q L l j]
theorem bkL_length (q : Bool) (L : List (Nat × Nat)) : ∀ (l : List V), (bkL q L l).length = l.length
  | [] => rfl
  | x :: l => by simp [bkL, bkL_length q L l]
def frzC : V → V → Prop
  | .own _ es zs, b => b = .sl false es zs
  | a, b => a = b ∧ gV a = true
def FrzIs (xs ys : List V) : Prop := xs.length = ys.length ∧ ∀ (k : Nat) (x y : V), xs[k]? = some x → ys[k]? = some y → (cl x).length = (cl y).length ∧ ∀ (j : Nat) (a b : V), (cl x)[j]? = some a → (cl y)[j]? = some b → frzC a b
theorem FrzIs.same {xs : List V} (h : AllP xs) : FrzIs xs xs :=
  ⟨rfl, fun k x y hx hy => by
    rw [hx] at hy
    obtain rfl := Option.some.inj hy
    refine ⟨rfl, fun j a b ha hb => ?_⟩
    rw [ha] at hb
    obtain rfl := Option.some.inj hb
    have := (List.all_eq_true.1 (h x (List.mem_of_getElem? hx))) a (List.mem_of_getElem? ha)
    cases a <;> simp_all [frzC, gV]⟩
def Gh.lend (G : Gh) (q : Bool) (L : List (Nat × Nat)) : Gh where
  ρ := (G.ren L).ρ
  I := G.I
  J := fun b => G.J b ∨ (q = false ∧ ∃ i, hOf L i = none ∧ G.F i b)
  F := (G.ren L).F
theorem lend_hold (q : Bool) {G : Gh} {w : World} {ob : Nat → Ob} (H : Hold G w ob) {L : List (Nat × Nat)} (hL : okL L = true) : Hold (G.lend q L) w (obRen ob L) := by
  have HR := H.ren hL
  refine ⟨fun b h => .inl (H.ij b h), fun b h => ?_, fun j => ?_, HR.flt, fun j b h hj => ?_, HR.dis⟩
  · rcases h with h | ⟨_, i, _, h⟩
    · exact H.lt b h
    · exact H.flt i b h
  · exact OwnOb.lift (fun v x h => h.mono (fun _ h => h) (fun _ h => .inl h) (fun _ _ => rfl)) (fun v x h => h.mono (fun _ _ h => h) (fun _ h => h) (fun _ h => .inl h) (fun _ _ => rfl)) (HR.own j) (fun _ _ => rfl)
  · rcases hj with hj | ⟨_, i, hi, hb⟩
    · exact HR.fj j b h hj
    · simp only [Gh.lend, Gh.ren] at h
      split at h
      · rename_i i' hg
        have := H.dis i' i b h hb
        subst this
        rw [hOf_of hL (gOf_mem hg)] at hi
        cases hi
      · exact h.elim
def RoOk (ob : Nat → Ob) (L : List (Nat × Nat)) : List (Nat × Nat × List V) → Prop
  | [] => True
  | (i, es, ys) :: l => hOf L i = none ∧ (∃ e xs, ob i = .arr e es xs ∧ FrzIs xs ys) ∧ RoOk ob L l
theorem RoOk.get {ob : Nat → Ob} {L : List (Nat × Nat)} : ∀ {ro : List (Nat × Nat × List V)}, RoOk ob L ro → ∀ {i es : Nat} {ys : List V}, roOf ro i = some (es, ys) → hOf L i = none ∧ ∃ e xs, ob i = .arr e es xs ∧ FrzIs xs ys
  | (a, es', ys') :: l, h, i, es, ys, hr => by
    simp only [roOf] at hr
    split at hr
    · rename_i e
      subst e
      simp only [Option.some.injEq, Prod.mk.injEq] at hr
      obtain ⟨rfl, rfl⟩ := hr
      exact ⟨h.1, h.2.1⟩
    · exact RoOk.get h.2.2 hr
theorem ro_of {G : Gh} {w : World} {ob : Nat → Ob} (H : Hold G w ob) {L : List (Nat × Nat)} {i e es : Nat} {xs ys : List V} (hL : hOf L i = none) (hob : ob i = .arr e es xs) (hf : FrzIs xs ys) {off n : Nat} (hn : off + n ≤ xs.length) {A : Option Addr} {c : Nat} (hc : n ≤ c) :
    (∀ g, (∃ r, G.ρ i = some r ∧ r.g = some g) → 0 < n → A = some ⟨g, off * es, none⟩) → RepG w G.I (G.lend false L).J (.slice A n c) (.sl false es ((ys.drop off).take n)) := by
  intro hA
  have hlen : ((ys.drop off).take n).length = n := by simp; have := hf.1; omega
  by_cases h0 : n = 0
  · subst h0
    have : (ys.drop off).take 0 = [] := by simp
    rw [this]
    exact .slE _ _ _ _
  obtain ⟨r, f1, f2, f3, f4⟩ := arr_of H hob
  rcases f4 with ⟨_, rfl, _⟩ | ⟨g, cur, M, f4, f5⟩
  · simp at hn; omega
  rw [hA g ⟨r, f1, f4⟩ (by omega)]
  have hget : ∀ (k : Nat) (y : V), ((ys.drop off).take n)[k]? = some y → k < n ∧ ys[off + k]? = some y := by
    intro k y hy
    rw [List.getElem?_take] at hy
    split at hy
    · rename_i hk
      rw [List.getElem?_drop] at hy
      exact ⟨hk, hy⟩
    · cases hy
  have hx : ∀ (k : Nat) (y : V), ((ys.drop off).take n)[k]? = some y → ∃ x, xs[off + k]? = some x ∧ (cl x).length = (cl y).length ∧ (cl y).length = es ∧ ∀ (j : Nat) (a b : V), (cl x)[j]? = some a → (cl y)[j]? = some b → frzC a b := by
    intro k y hy
    obtain ⟨h1, h2⟩ := hget k y hy
    have h3 := List.getElem?_eq_getElem (show off + k < xs.length by omega)
    obtain ⟨q1, q2⟩ := hf.2 _ _ _ h3 h2
    exact ⟨_, h3, q1, by rw [← q1]; exact f5.hl _ _ h3, q2⟩
  have hm := f5.max
  have hle := f5.le
  refine .sl ⟨g, off * es, none⟩ n c false es _ (fun k j => cur.getD ((off + k) * es + j) undef) hlen hc (by omega) ?_ (fun k y hy => (hx k y hy).choose_spec.2.2.1) (fun k y hy j b hb => ?_) (fun k y hy j b hb => ?_) (fun h => by cases h) (fun k y hy j b hb => ?_)
  · simp only [Bool.false_eq_true, if_false]
    exact .inr ⟨rfl, i, hL, (f5.fo g).2 (.inl rfl)⟩
  · obtain ⟨x, h1, h2, h3, h4⟩ := hx k y hy
    obtain ⟨hk, _⟩ := hget k y hy
    have hj : j < es := by rw [← h3]; exact (List.getElem?_eq_some_iff.1 hb).1
    have hlt : (off + k) * es + j < cur.size := by rw [f5.size]; exact idx_lt (by omega) hle hj
    rw [add_lit, cell_of_row w g _ cur e (0, 0) f5.heap]
    rw [← Nat.add_assoc, ← Nat.add_mul]
    simp [Array.getD, hlt]
  · obtain ⟨x, h1, h2, h3, h4⟩ := hx k y hy
    obtain ⟨hk, _⟩ := hget k y hy
    have hj : j < es := by rw [← h3]; exact (List.getElem?_eq_some_iff.1 hb).1
    exact f5.one _ (idx_lt (by omega) (Nat.le_refl _) hj)
  · obtain ⟨x, h1, h2, h3, h4⟩ := hx k y hy
    have hj : j < (cl x).length := by rw [h2]; exact (List.getElem?_eq_some_iff.1 hb).1
    have ha := List.getElem?_eq_getElem hj
    have h5 := f5.rep _ x h1 j _ ha
    have h6 := h4 j _ _ ha hb
    generalize (cl x)[j] = a at *
    cases a with
    | own e' es' zs =>
      simp only [frzC] at h6
      subst h6
      rcases h5 with ⟨h5, rfl, _⟩ | ⟨g', cap', cur', h5, h7, h8⟩
      · rw [h5]; exact .slE _ _ _ _
      · rw [h5]
        have hmem : G.F i g' := (f5.fo g').2 (.inr ⟨off + k, j, (h8 g').2 rfl⟩)
        refine .sl ⟨g', 0, none⟩ zs.length cap' false es' zs (fun k j => cur'.getD (k * es' + j) undef) rfl h7.le (Nat.le_trans h7.le h7.max) ?_ h7.hl (fun k x hx j y hy => ?_) (fun k x hx j y hy => ?_) (fun h => by cases h) (fun k x hx j y hy => (h7.rep k x hx j y hy).mono (fun _ h => h) (fun _ h => .inl h) (fun _ _ => rfl))
        · simp only [Bool.false_eq_true, if_false]
          exact .inr ⟨rfl, i, hL, hmem⟩
        · have hj : j < es' := by rw [← h7.hl k x hx]; exact (List.getElem?_eq_some_iff.1 hy).1
          have hlt : k * es' + j < cur'.size := by rw [h7.size]; exact idx_lt (List.getElem?_eq_some_iff.1 hx).1 h7.le hj
          rw [add_lit, Nat.zero_add, cell_of_row w g' _ cur' e' (0, 0) h7.heap]
          simp [Array.getD, hlt]
        · have hj : j < es' := by rw [← h7.hl k x hx]; exact (List.getElem?_eq_some_iff.1 hy).1
          exact h7.one _ (idx_lt (List.getElem?_eq_some_iff.1 hx).1 (Nat.le_refl _) hj)
    | _ =>
      simp only [frzC] at h6
      obtain ⟨rfl, h6⟩ := h6
      exact h5.1.mono (fun _ h => h) (fun _ h => .inl h) (fun _ _ => rfl)
theorem view_rep (q : Bool) {G : Gh} {w : World} {ob : Nat → Ob} (H : Hold G w ob) {L : List (Nat × Nat)} (hL : okL L = true) {ro : List (Nat × Nat × List V)} (hro : RoOk ob L ro) (hq : q = true → ro = []) {v : Value} {x : V} (h : G.Rep w v x) : (G.lend q L).Rep w v (x.view L ro) := by
  have lift : ∀ {v x}, RepG w G.I G.J v x → RepG w G.I (G.lend q L).J v x := fun h => h.mono (fun _ h => h) (fun _ h => .inl h) (fun _ _ => rfl)
  have hrho : ∀ i j r, hOf L i = some j → G.ρ i = some r → (G.lend q L).ρ j = some r := Gh.ren_rho hL
  unfold Gh.Rep at h ⊢
  induction h with
  | g h =>
    have h' := lift h
    cases h <;> simp only [V.view] <;> exact .g h'
  | agg a cs hn _ ih =>
    simp only [V.view]
    refine .agg a _ (by rw [viewL_length]; exact hn) (fun j x hx => ?_)
    rw [viewL_get] at hx
    obtain ⟨y, hy, rfl⟩ := Option.map_eq_some_iff.1 hx
    exact ih j y hy
  | tup a cs hn _ ih =>
    simp only [V.view]
    refine .tup a _ (by rw [viewL_length]; exact hn) (fun j x hx => ?_)
    rw [viewL_get] at hx
    obtain ⟨y, hy, rfl⟩ := Option.map_eq_some_iff.1 hx
    exact ih j y hy
  | ref i r v h1 h2 =>
    simp only [V.view]
    split
    · rename_i j hj
      exact .ref j r v (hrho i j r hj h1) h2
    · rename_i hnone
      split
      · rename_i es ys hr
        have hqf : q = false := by
          cases q
          · rfl
          · rw [hq rfl] at hr; cases hr
        subst hqf
        obtain ⟨_, e, xs, h3, h4⟩ := hro.get hr
        obtain ⟨r', f1, f2, f3, f4⟩ := arr_of H h3
        rw [h1] at f1
        obtain rfl := Option.some.inj f1
        have hy : ys = (ys.drop 0).take xs.length := by rw [List.drop_zero, h4.1, List.take_length]
        rw [hy]
        unfold RI.sl at h2
        split at h2
        · obtain ⟨rfl, h2⟩ := h2
          have hx0 : xs.length = 0 := by omega
          rw [hx0]
          simp only [List.take_zero]
          exact .g (.slE _ _ _ _)
        · rename_i g hg
          rw [h2, f3]
          refine .g (ro_of H hnone h3 h4 (by omega) ?_ (fun g' hg' hp => ?_))
          · rcases f4 with ⟨f4, _⟩ | ⟨g', cur, M, _, f5⟩
            · rw [hg] at f4; cases f4
            · exact f5.le
          · obtain ⟨r', e1, e2⟩ := hg'
            rw [h1] at e1
            obtain rfl := Option.some.inj e1
            rw [hg] at e2
            obtain rfl := Option.some.inj e2
            simp
      · exact .g (.un _)
  | sub i off len r v h1 h2 =>
    simp only [V.view]
    split
    · rename_i j hj
      exact .sub j off len r v (hrho i j r hj h1) h2
    · rename_i hnone
      split
      · rename_i es ys hr
        have hqf : q = false := by
          cases q
          · rfl
          · rw [hq rfl] at hr; cases hr
        subst hqf
        obtain ⟨_, e, xs, h3, h4⟩ := hro.get hr
        obtain ⟨r', f1, f2, f3, f4⟩ := arr_of H h3
        rw [h1] at f1
        obtain rfl := Option.some.inj f1
        obtain ⟨g1, A, rfl, g3⟩ := h2
        refine .g (ro_of H hnone h3 h4 (by omega) ?_ (fun g' hg' hp => ?_))
        · rcases f4 with ⟨f4, rfl, _⟩ | ⟨g', cur, M, _, f5⟩
          · simp at f3; omega
          · have := f5.le; omega
        · obtain ⟨r', e1, e2⟩ := hg'
          rw [h1] at e1
          obtain rfl := Option.some.inj e1
          have := g3 (.inl hp)
          rw [e2] at this
          rw [this, f2]
          rfl
      · exact .g (.un _)
  | ptr i k off r g h1 h2 =>
    simp only [V.view]
    split
    · rename_i j hj
      exact .ptr j k off r g (hrho i j r hj h1) h2
    · exact .g (.un _)
end
end Go.Sy
end

section
set_option linter.unusedVariables false
set_option linter.unusedSimpArgs false
namespace Go.Sy
theorem RepG.scal {w w' : World} {I J I' J' : Nat → Prop} {v : Value} {y : V} (hy : gS y = true) (h : RepG w I J v y) : RepG w' I' J' v y := by
  cases h <;> simp [gS] at hy
  · exact .int _ _
  · exact .bool _
  · exact .str _
  · exact .nil
  · exact .np
  · exact .fn _
theorem RepG.perm {w : World} {I J J' : Nat → Prop} {v : Value} {y : V} (hy : gV y = true) (h : RepG w I J v y) : RepG w I J' v y := by
  cases h with
  | sl ad n c p es xs u hn hc hm hp hl hu ho hq hr =>
    cases p with
    | false => simp [gV] at hy
    | true =>
      simp only [if_true] at hp
      exact .sl ad n c true es xs u hn hc hm (by simpa using hp) hl hu ho hq (fun k x hx j z hz => (hr k x hx j z hz).scal ((List.all_eq_true.1 (hq rfl k x hx)) z (List.mem_of_getElem? hz)))
  | slE A c p es => exact .slE A c p es
  | vp => simp [gV] at hy
  | un => simp [gV] at hy
  | int => exact .int _ _
  | bool => exact .bool _
  | str => exact .str _
  | nil => exact .nil
  | np => exact .np
  | fn => exact .fn _
theorem RepN.perm {w : World} {I J J' : Nat → Prop} {M : Nat → Prop} {v : Value} {y : V} (hy : gO y = true) (h : RepN w I J M v y) : RepN w I J' M v y := by
  cases y with
  | un => exact ⟨.un _, h.2⟩
  | own e es ys =>
    rcases h with h | ⟨g, cap, cur, h1, h2, h3⟩
    · exact .inl h
    · exact .inr ⟨g, cap, cur, h1, ⟨h2.heap, h2.size, h2.le, h2.max, h2.hl, h2.one, h2.gr, fun k x hx j z hz => (h2.rep k x hx j z hz).scal ((List.all_eq_true.1 (h2.gr x (List.mem_of_getElem? hx))) z (List.mem_of_getElem? hz))⟩, h3⟩
  | _ => exact ⟨RepG.perm (by simpa [gO] using hy) h.1, h.2⟩
def Gh.back (G G' : Gh) (q : Bool) (L : List (Nat × Nat)) : Gh where
  ρ := fun i => match hOf L i with
    | some j => G'.ρ j
    | none => G.ρ i
  I := G'.I
  J := fun b => G.J b ∨ G'.I b ∨ (q = true ∧ G'.J b)
  F := fun i b => match hOf L i with
    | some j => G'.F j b
    | none => G.F i b
def obBack (q : Bool) (ob ob' : Nat → Ob) (L : List (Nat × Nat)) (i : Nat) : Ob :=
  match hOf L i with
  | some j => (ob' j).bk q L
  | none => ob i
theorem hOf_append (L M : List (Nat × Nat)) (i : Nat) : hOf (L ++ M) i = match hOf L i with
    | some j => some j
    | none => hOf M i := by
  induction L with
  | nil => rfl
  | cons p L ih =>
    obtain ⟨a, b⟩ := p
    simp only [List.cons_append, hOf]
    split
    · rfl
    · exact ih
theorem okL_left : ∀ {L M : List (Nat × Nat)}, okL (L ++ M) = true → okL L = true
  | [], _, _ => rfl
  | (a, b) :: L, M, h => by
    simp only [List.cons_append, okL, Bool.and_eq_true, List.all_append] at h ⊢
    exact ⟨h.1.1, okL_left h.2⟩
theorem back_rep (q : Bool) {G G' : Gh} {w' : World} {L : List (Nat × Nat)} (hL : okL L = true) {v : Value} {x : V} (h : G'.Rep w' v x) : (G.back G' q L).Rep w' v (x.bk q L) := by
  have hrho : ∀ i j r, gOf L j = some i → G'.ρ j = some r → (G.back G' q L).ρ i = some r := by
    intro i j r h1 h2
    simp only [Gh.back, hOf_of hL (gOf_mem h1)]
    exact h2
  unfold Gh.Rep at h ⊢
  induction h with
  | g h =>
    cases h with
    | un => exact .g (.un _)
    | int => exact .g (.int _ _)
    | bool => exact .g (.bool _)
    | str => exact .g (.str _)
    | nil => exact .g .nil
    | np => exact .g .np
    | fn => exact .g (.fn _)
    | slE A c p es =>
      simp only [V.bk]
      split
      · exact .g (.slE _ _ _ _)
      · exact .g (.un _)
    | sl ad n c p es xs u hn hc hm hp hl hu ho hq hr =>
      simp only [V.bk]
      split
      · rename_i hpq
        cases p with
        | true => exact .g ((RepG.sl ad n c true es xs u hn hc hm hp hl hu ho hq hr).perm rfl)
        | false =>
          simp only [Bool.false_or] at hpq
          exact .g ((RepG.sl ad n c false es xs u hn hc hm hp hl hu ho hq hr).mono (fun _ h => h) (fun _ h => .inr (.inr ⟨hpq, h⟩)) (fun _ _ => rfl))
      · exact .g (.un _)
    | vp ad p es xs k off u hp hl hu ho hq hr =>
      simp only [V.bk]
      split
      · rename_i hpq
        cases p with
        | true =>
          simp only [if_true] at hp
          exact .g (.vp ad true es xs k off u (by simp only [if_true]; exact hp) hl hu ho hq (fun k x hx j z hz => (hr k x hx j z hz).scal ((List.all_eq_true.1 (hq rfl k x hx)) z (List.mem_of_getElem? hz))))
        | false =>
          simp only [Bool.false_or] at hpq
          exact .g ((RepG.vp ad false es xs k off u hp hl hu ho hq hr).mono (fun _ h => h) (fun _ h => .inr (.inr ⟨hpq, h⟩)) (fun _ _ => rfl))
      · exact .g (.un _)
  | agg a cs hn _ ih =>
    simp only [V.bk]
    refine .agg a _ (by rw [bkL_length]; exact hn) (fun j x hx => ?_)
    rw [bkL_get] at hx
    obtain ⟨y, hy, rfl⟩ := Option.map_eq_some_iff.1 hx
    exact ih j y hy
  | tup a cs hn _ ih =>
    simp only [V.bk]
    refine .tup a _ (by rw [bkL_length]; exact hn) (fun j x hx => ?_)
    rw [bkL_get] at hx
    obtain ⟨y, hy, rfl⟩ := Option.map_eq_some_iff.1 hx
    exact ih j y hy
  | ref i r v h1 h2 =>
    simp only [V.bk]
    split
    · rename_i j hj
      exact .ref j r v (hrho j i r hj h1) h2
    · exact .g (.un _)
  | sub i off len r v h1 h2 =>
    simp only [V.bk]
    split
    · rename_i j hj
      exact .sub j off len r v (hrho j i r hj h1) h2
    · exact .g (.un _)
  | ptr i k off r g h1 h2 =>
    simp only [V.bk]
    split
    · rename_i j hj
      exact .ptr j k off r g (hrho j i r hj h1) h2
    · exact .g (.un _)
theorem back_own (q : Bool) {G G' : Gh} {w' : World} {L : List (Nat × Nat)} (hL : okL L = true) {ri : Option RI} {F : Nat → Prop} {x : Ob} (h : G'.Own w' ri F x) : (G.back G' q L).Own w' ri F (x.bk q L) := by
  cases x with
  | free => exact h
  | dead => exact h
  | raw e l => exact h
  | box t cs =>
    obtain ⟨r, g, cur, h1, h2, h3, h4, h5, h6⟩ := h
    refine ⟨r, g, cur, h1, h2, h3, by rw [bkL_length]; exact h4, fun j x hx => ?_, h6⟩
    rw [bkL_get] at hx
    obtain ⟨y, hy, rfl⟩ := Option.map_eq_some_iff.1 hx
    exact back_rep q hL (h5 j y hy)
  | arr e es xs =>
    obtain ⟨r, h1, h2, h3, h4⟩ := h
    refine ⟨r, h1, h2, h3, ?_⟩
    rcases h4 with h4 | ⟨g, cur, M, h5, h6⟩
    · exact .inl h4
    · exact .inr ⟨g, cur, M, h5, ⟨h6.heap, h6.size, h6.le, h6.max, h6.hl, h6.one, h6.gr, fun k x hx j y hy => (h6.rep k x hx j y hy).perm ((List.all_eq_true.1 (h6.gr x (List.mem_of_getElem? hx))) y (List.mem_of_getElem? hy)), h6.fo, h6.ng, h6.nd, h6.nb⟩⟩
  | hole e es xs j off k =>
    obtain ⟨r, g, cur, M, h1, h2, h3, h5, h6, h7⟩ := h
    have h8 : Arr w' (G.back G' q L).I (G.back G' q L).J M F g r.cap cur e es xs := ⟨h6.heap, h6.size, h6.le, h6.max, h6.hl, h6.one, h6.gr, fun k x hx j y hy => (h6.rep k x hx j y hy).perm ((List.all_eq_true.1 (h6.gr x (List.mem_of_getElem? hx))) y (List.mem_of_getElem? hy)), h6.fo, h6.ng, h6.nd, h6.nb⟩
    simp only [Ob.bk]
    have := back_rep (G := G) q hL h7
    simp only [V.bk] at this
    split
    · rename_i i hi
      rw [hi] at this
      exact ⟨r, g, cur, M, h1, h2, h3, h5, h8, this⟩
    · exact ⟨r, h1, h2, h3, .inr ⟨g, cur, M, h5, h8⟩⟩
  | holes e es xs j hs =>
    obtain ⟨r, g, cur, M, h1, h2, h3, h5, h6, h7⟩ := h
    have h8 : Arr w' (G.back G' q L).I (G.back G' q L).J M F g r.cap cur e es xs := ⟨h6.heap, h6.size, h6.le, h6.max, h6.hl, h6.one, h6.gr, fun k x hx j y hy => (h6.rep k x hx j y hy).perm ((List.all_eq_true.1 (h6.gr x (List.mem_of_getElem? hx))) y (List.mem_of_getElem? hy)), h6.fo, h6.ng, h6.nd, h6.nb⟩
    simp only [Ob.bk]
    refine ⟨r, g, cur, M, h1, h2, h3, h5, h8, fun p hp => ?_⟩
    obtain ⟨k, q1, q2⟩ := renH_mem hp
    have := back_rep (G := G) q hL (h7 _ q1)
    simp only [V.bk, q2] at this
    exact this
def live : Ob → Bool
  | .box .. | .arr .. => true
  | _ => false
theorem call_back (q : Bool) {G G' : Gh} {w w' : World} {ob ob' : Nat → Ob} (H : Hold G w ob) (L M : List (Nat × Nat)) (hL : okL (L ++ M) = true) (hlive : ∀ p ∈ L, live (ob p.1) = true) (hfree : ∀ p ∈ M, ob p.1 = .free) (H' : Hold G' w' ob') (f : Fr (G.lend q L) w G' w') :
    Hold (G.back G' q (L ++ M)) w' (obBack q ob ob' (L ++ M)) ∧ Fr G w (G.back G' q (L ++ M)) w' := by
  have hL1 := okL_left hL
  have lentF : ∀ j b, (G.lend q L).F j b → ∃ i, hOf L i = some j ∧ G.F i b := by
    intro j b h
    simp only [Gh.lend, Gh.ren] at h
    split at h
    · rename_i i hg
      exact ⟨i, hOf_of hL1 (gOf_mem hg), h⟩
    · exact h.elim
  have hsome : ∀ i j, hOf L i = some j → hOf (L ++ M) i = some j := fun i j h => by rw [hOf_append, h]
  have hnone : ∀ i, hOf (L ++ M) i = none → hOf L i = none := by
    intro i h
    rw [hOf_append] at h
    split at h
    · cases h
    · assumption
  have hbox : ∀ b, b < w.heap.size → (∀ i, hOf L i ≠ none → ¬ G.F i b) → w'.heap[b]? = w.heap[b]? := by
    intro b hb hf
    refine f.blk b hb (fun j h => ?_)
    obtain ⟨i, h1, h2⟩ := lentF j b h
    exact hf i (by rw [h1]; simp) h2
  have F2 : ∀ i b, (G.back G' q (L ++ M)).F i b → (∃ j, G.F j b ∧ (hOf (L ++ M) j ≠ none ∨ j = i)) ∨ w.heap.size ≤ b := by
    intro i b h
    simp only [Gh.back] at h
    split at h
    · rcases f.F _ b h with ⟨j', h'⟩ | h'
      · obtain ⟨i', h1, h2⟩ := lentF j' b h'
        exact .inl ⟨i', h2, .inl (by rw [hsome i' j' h1]; simp)⟩
      · exact .inr h'
    · exact .inl ⟨i, h, .inr rfl⟩
  have notI : ∀ i b, hOf (L ++ M) i = none → G.F i b → ¬ G'.I b := by
    intro i b hi hb h
    rcases f.In b h with h1 | h1 | ⟨j, h1⟩
    · exact H.fj i b hb (H.ij b h1)
    · have := H.flt i b hb; omega
    · obtain ⟨i', h2, h3⟩ := lentF j b h1
      have := H.dis i i' b hb h3
      subst this
      rw [hsome i j h2] at hi
      cases hi
  have notJ : q = true → ∀ i b, hOf (L ++ M) i = none → G.F i b → ¬ G'.J b := by
    intro hq i b hi hb h
    rcases f.Jn b h with h1 | h1 | ⟨j, h1⟩
    · rcases h1 with h1 | ⟨h1, _⟩
      · exact H.fj i b hb h1
      · rw [hq] at h1; cases h1
    · have := H.flt i b hb; omega
    · obtain ⟨i', h2, h3⟩ := lentF j b h1
      have := H.dis i i' b hb h3
      subst this
      rw [hsome i j h2] at hi
      cases hi
  have jun : ∀ b, G.J b → w'.heap[b]? = w.heap[b]? := fun b h => hbox b (H.lt b h) (fun i _ hi => H.fj i b hi h)
  have rho : ∀ i r, G.ρ i = some r → (G.back G' q (L ++ M)).ρ i = some r := by
    intro i r h
    simp only [Gh.back]
    split
    · rename_i j hj
      rw [hOf_append] at hj
      split at hj
      · rename_i j' hj'
        obtain rfl := Option.some.inj hj
        exact f.rho _ r (Gh.ren_rho hL1 i _ r hj' h)
      · have := (H.free (hfree (i, j) (hOf_mem hj))).1
        rw [h] at this
        cases this
    · exact h
  have hI : ∀ b, G.I b → G'.I b := fun b h => f.I b h
  refine ⟨⟨fun b h => .inr (.inl h), fun b h => ?_, fun i => ?_, fun i b h => ?_, fun i b h hj => ?_, fun i j b h1 h2 => ?_⟩, ⟨f.os, f.tape, f.output, f.sz, fun b hb hf => hbox b hb (fun i _ => hf i), rho, hI, fun b h => .inl h, fun b h => ?_, fun b h => ?_, fun i b h => ?_⟩⟩
  · rcases h with h | h | ⟨_, h⟩
    · exact Nat.lt_of_lt_of_le (H.lt b h) f.sz
    · exact H'.lt b (H'.ij b h)
    · exact H'.lt b h
  · cases hj : hOf (L ++ M) i with
    | none =>
      have e1 : (G.back G' q (L ++ M)).ρ i = G.ρ i := by simp [Gh.back, hj]
      have e2 : (G.back G' q (L ++ M)).F i = G.F i := by funext b; simp [Gh.back, hj]
      have e3 : obBack q ob ob' (L ++ M) i = ob i := by simp [obBack, hj]
      rw [e1, e2, e3]
      refine OwnOb.lift (fun v x h => h.mono hI (fun b h => .inl h) (fun b hb => jun b (hb.elim (H.ij b) id))) (fun v x h => h.mono rho hI (fun b h => .inl h) (fun b hb => jun b (hb.elim (H.ij b) id))) (H.own i) (fun b hb => hbox b (H.flt i b hb) (fun i' h1 h2 => ?_))
      have := H.dis i i' b hb h2
      subst this
      exact h1 (hnone i hj)
    | some j =>
      have e1 : (G.back G' q (L ++ M)).ρ i = G'.ρ j := by simp [Gh.back, hj]
      have e2 : (G.back G' q (L ++ M)).F i = G'.F j := by funext b; simp [Gh.back, hj]
      have e3 : obBack q ob ob' (L ++ M) i = (ob' j).bk q (L ++ M) := by simp [obBack, hj]
      rw [e1, e2, e3]
      exact back_own q hL (H'.own j)
  · simp only [Gh.back] at h
    split at h
    · exact H'.flt _ b h
    · exact Nat.lt_of_lt_of_le (H.flt i b h) f.sz
  · cases hi : hOf (L ++ M) i with
    | none =>
      have h : G.F i b := by simpa [Gh.back, hi] using h
      rcases hj with hj | hj | ⟨hq, hj⟩
      · exact H.fj i b h hj
      · exact notI i b hi h hj
      · exact notJ hq i b hi h hj
    | some k =>
      have h : G'.F k b := by simpa [Gh.back, hi] using h
      refine H'.fj k b h ?_
      rcases hj with hj | hj | ⟨_, hj⟩
      · exact f.J b (.inl hj)
      · exact H'.ij b hj
      · exact hj
  · have key : ∀ i j k, hOf (L ++ M) i = some k → hOf (L ++ M) j = none → G'.F k b → G.F j b → False := by
      intro i j k hi hj h1 h2
      rcases f.F k b h1 with ⟨k', h'⟩ | h'
      · obtain ⟨i', q1, q2⟩ := lentF k' b h'
        have := H.dis j i' b h2 q2
        subst this
        rw [hsome j k' q1] at hj
        cases hj
      · have := H.flt j b h2
        omega
    cases hi : hOf (L ++ M) i with
    | none =>
      have h1 : G.F i b := by simpa [Gh.back, hi] using h1
      cases hj : hOf (L ++ M) j with
      | none => exact H.dis i j b h1 (by simpa [Gh.back, hj] using h2)
      | some k => exact (key j i k hj hi (by simpa [Gh.back, hj] using h2) h1).elim
    | some k =>
      have h1 : G'.F k b := by simpa [Gh.back, hi] using h1
      cases hj : hOf (L ++ M) j with
      | none => exact (key i j k hi hj h1 (by simpa [Gh.back, hj] using h2)).elim
      | some k' =>
        have := H'.dis k k' b h1 (by simpa [Gh.back, hj] using h2)
        subst this
        have e1 := gOf_of hL (hOf_mem hi)
        have e2 := gOf_of hL (hOf_mem hj)
        rw [e1] at e2
        exact Option.some.inj e2
  · rcases f.In b h with h | h | ⟨j, h⟩
    · exact .inl h
    · exact .inr (.inl h)
    · obtain ⟨i, _, h⟩ := lentF j b h
      exact .inr (.inr ⟨i, h⟩)
  · rcases h with h | h | ⟨hq, h⟩
    · exact .inl h
    · rcases f.In b h with h | h | ⟨j, h⟩
      · exact .inl (H.ij b h)
      · exact .inr (.inl h)
      · obtain ⟨i, _, h⟩ := lentF j b h
        exact .inr (.inr ⟨i, h⟩)
    · rcases f.Jn b h with h | h | ⟨j, h⟩
      · rcases h with h | ⟨h, _⟩
        · exact .inl h
        · rw [hq] at h; cases h
      · exact .inr (.inl h)
      · obtain ⟨i, _, h⟩ := lentF j b h
        exact .inr (.inr ⟨i, h⟩)
  · rcases F2 i b h with ⟨j, h, _⟩ | h
    · exact .inl ⟨j, h⟩
    · exact .inr h
section
variable {P : Program} {N : Cx} {ops : Array Oper}
def argsW : List Operand → List V → List W
  | x :: l, v :: k => opw x v ++ argsW l k
  | _, _ => []
def evs (σ : Sg) : List Operand → List V
  | [] => []
  | x :: l => σ.ev x :: evs σ l
theorem argsW_ev {σ σ' : Sg} : ∀ (l : List Operand), σ'.has (argsW l (evs σ l)) → ∀ (k : Nat) (x : Operand), l[k]? = some x → σ'.ev x = σ.ev x
  | [], _, k, x, h => by simp at h
  | y :: l, hp, k, x, h => by
    simp only [evs, argsW] at hp
    obtain ⟨h1, h2⟩ := has_append.1 hp
    cases k with
    | zero => simp at h; subst h; exact opw_ev rfl h1
    | succ k => exact argsW_ev l h2 k x (by simpa using h)
theorem argsW_has (σ : Sg) : ∀ (l : List Operand), σ.has (argsW l (evs σ l))
  | [] => trivial
  | x :: l => has_append.2 ⟨opw_has rfl, argsW_has σ l⟩
theorem evs_get (σ : Sg) : ∀ (l : List Operand) (k : Nat), (evs σ l)[k]? = (l[k]?).map σ.ev
  | [], k => by simp [evs]
  | x :: l, 0 => by simp [evs]
  | x :: l, k + 1 => by simp [evs, evs_get σ l k]
theorem evs_length (σ : Sg) : ∀ (l : List Operand), (evs σ l).length = l.length
  | [] => rfl
  | x :: l => by simp [evs, evs_length σ l]
def freeW (l : List (Nat × Nat)) : List W := l.map fun p => .o p.1 .free
theorem freeW_has {σ : Sg} : ∀ {l : List (Nat × Nat)}, σ.has (freeW l) → ∀ p ∈ l, σ.ob p.1 = .free
  | [], _, p, h => by simp at h
  | a :: l, hh, p, h => by
    rcases List.mem_cons.1 h with rfl | h
    · exact hh.1
    · exact freeW_has hh.2 p h
def backW (q : Bool) (T : List Ob) (L : List (Nat × Nat)) : List (Nat × Nat) → List W
  | [] => []
  | (i, j) :: l => .o i ((obs T j).bk q L) :: backW q T L l
theorem backW_ob (q : Bool) (T : List Ob) (L : List (Nat × Nat)) : ∀ (l : List (Nat × Nat)) (σ : Sg), okL l = true → (σ.puts (backW q T L l)).ob = fun i => match hOf l i with
    | some j => (obs T j).bk q L
    | none => σ.ob i
  | [], σ, _ => rfl
  | (a, b) :: l, σ, h => by
    simp only [okL, Bool.and_eq_true] at h
    simp only [backW, Sg.puts]
    rw [backW_ob q T L l _ h.2]
    funext i
    simp only [hOf, Sg.put]
    by_cases hi : i = a
    · subst hi
      have : hOf l i = none := by
        cases hh : hOf l i with
        | none => rfl
        | some j =>
          have := (List.all_eq_true.1 h.1) _ (hOf_mem hh)
          simp at this
      rw [this]
      simp
    · rw [if_neg hi, if_neg hi]
theorem RoOk.congr {ob ob' : Nat → Ob} {L : List (Nat × Nat)} : ∀ {ro : List (Nat × Nat × List V)}, (∀ i ∈ ro.map Prod.fst, ob' i = ob i) → RoOk ob L ro → RoOk ob' L ro
  | [], _, _ => trivial
  | (i, es, ys) :: l, he, h => ⟨h.1, by rw [he i (by simp)]; exact h.2.1, RoOk.congr (fun j hj => he j (by simp at hj ⊢; exact .inr hj)) h.2.2⟩
theorem ok_callG {o : Oper} {f : Nat} {xs : Array Operand} {ats : Array TypeId} {σ : Sg} {As : List V} {T T' : List Ob} {R : V} (q : Bool) (L M : List (Nat × Nat)) (ro : List (Nat × Nat × List V)) (ho : o.op = .call { callee := .value (.func f), args := xs, argTypes := ats }) (hn : (match o.dst with
      | some d => decide (d < N.n)
      | none => true) = true)
    (hcall : ∀ args w, (callFunc f args).run P w = .ok (.enter f args) w) (hspec : ∀ (G0 G : Gh) (w0 w : World), N.q G0 w0 → Fr G0 w0 G w → SpecAt P f As T R T' (G.lend q L) w) (vs : List V) (hvs : evs σ xs.toList = vs) (hA : viewL L ro vs = As) (hT : (L.map fun p => (σ.ob p.1).ren (hOf L)) = T)
    (hL : (okL (L ++ M) && (L.map Prod.snd == List.range T.length) && L.all (fun p => live (σ.ob p.1)) && (!q || ro.isEmpty)) = true) (hro : RoOk σ.ob L ro) :
    CoreOk P N o (argsW xs.toList vs ++ obW σ.ob (L.map Prod.fst) ++ obW σ.ob (ro.map Prod.fst) ++ freeW M) (backW q T' (L ++ M) (L ++ M) ++ (match o.dst with
      | some d => [.t d (R.bk q (L ++ M))]
      | none => [])) := by
  subst hvs
  subst hA
  subst hT
  intro G0 w0 σ' a w s hp Q K hK
  obtain ⟨G, H, ht, s1, s2, s3, s4⟩ := id s
  obtain ⟨hp, hp4⟩ := has_append.1 hp
  obtain ⟨hp, hp3⟩ := has_append.1 hp
  obtain ⟨hp1, hp2⟩ := has_append.1 hp
  simp only [Bool.and_eq_true, beq_iff_eq] at hL
  obtain ⟨⟨⟨hL1, hL2⟩, hL3⟩, hq⟩ := hL
  have hq : q = true → ro = [] := by
    intro h
    subst h
    cases ro with
    | nil => rfl
    | cons => simp at hq
  have hLL := okL_left hL1
  have hob : ∀ p ∈ L, σ'.ob p.1 = σ.ob p.1 := fun p hp => obW_has hp2 p.1 (List.mem_map.2 ⟨p, hp, rfl⟩)
  have hro' : RoOk σ'.ob L ro := hro.congr (obW_has hp3)
  have hlive : ∀ p ∈ L, live (σ'.ob p.1) = true := fun p hp => by rw [hob p hp]; exact (List.all_eq_true.1 hL3) p hp
  have he : ∀ y, G.Rep w (a.eval y) (σ'.ev y) := fun y => St.ev (G0 := G0) (w0 := w0) ht y
  have hT : (L.map fun p => (σ.ob p.1).ren (hOf L)) = L.map fun p => (σ'.ob p.1).ren (hOf L) := List.map_congr_left (fun p hp => by rw [hob p hp])
  have HL := lend_hold q H hLL
  rw [obRen_list hLL _ hL2 hT] at HL
  have hc := hspec G0 G w0 w s4.2 s3 (xs.map a.eval) HL (by rw [viewL_length, evs_length]; simp) (fun k x hx => by
    rw [viewL_get, evs_get] at hx
    obtain ⟨y, hy, rfl⟩ := Option.map_eq_some_iff.1 hx
    obtain ⟨y0, hy0, rfl⟩ := Option.map_eq_some_iff.1 hy
    have h1 := view_rep q H hLL hro' hq (he y0)
    rw [argsW_ev _ hp1 k y0 hy0] at h1
    have hy' : xs[k]? = some y0 := by simpa using hy0
    have : (xs.map a.eval).getD k undef = a.eval y0 := by simp [Array.getD_eq_getD_getElem?, hy']
    rw [this]
    exact h1)
  have hrun : (execOp a.eval o).run P w = .ok (.enter f (xs.map a.eval)) w := by
    have hf : a.eval (.func f) = .func (.func f) #[] #[] := rfl
    simp [execOp, ho, resolve, hf, Deferred.ofValue, invoke, hcall]
  unfold Oper.wp
  rw [hrun, Oper.upon_enter]
  refine hc.mono ?_
  rintro e w' ⟨v, G', rfl, H', hv, f⟩
  obtain ⟨b1, b2⟩ := call_back q H L M hL1 hlive (freeW_has hp4) H' f
  refine hK _ _ ?_
  have hob2 := backW_ob q T' (L ++ M) (L ++ M) σ' hL1
  have htm : ∀ (l : List (Nat × Nat)) (σ : Sg), (σ.puts (backW q T' (L ++ M) l)).tm = σ.tm := by
    intro l
    induction l with
    | nil => intro σ; rfl
    | cons p l ih => intro σ; simp only [backW, Sg.puts]; rw [ih]; rfl
  have b1' : Hold (G.back G' q (L ++ M)) w' (σ'.puts (backW q T' (L ++ M) (L ++ M))).ob := by
    rw [hob2]
    exact b1
  rw [puts_append]
  cases hd : o.dst with
  | none =>
    refine ⟨G.back G' q (L ++ M), b1', fun t => ?_, ?_, ?_, s3.trans b2, s4⟩
    · simp only [Act.put]
      show Gh.Rep _ w' _ ((σ'.puts (backW q T' (L ++ M) (L ++ M))).tm t)
      rw [htm]
      exact (ht t).fr H b2
    · exact s1
    · exact s2
  | some d =>
    rw [hd] at hn
    simp only [decide_eq_true_eq] at hn
    refine ⟨G.back G' q (L ++ M), b1', fun t => ?_, ?_, ?_, s3.trans b2, s4⟩
    · simp only [Act.put]
      rw [getD_set _ _ _ _ _ (by rw [s1]; exact hn)]
      show Gh.Rep _ w' _ (if t = d then _ else (σ'.puts (backW q T' (L ++ M) (L ++ M))).tm t)
      split
      · exact back_rep q hL1 hv
      · rw [htm]; exact (ht t).fr H b2
    · simp [Act.put, s1]
    · simp [Act.put, s2]
end
end Go.Sy
end

section
set_option linter.unusedVariables false
set_option linter.unusedSimpArgs false
namespace Go.Sy
def Step (P : Program) (N : Cx) (σ : Sg) (o : Oper) (pre post : List W) : Prop := CoreOk P N o pre post ∧ σ.has pre
def dstV (n : Nat) (o : Oper) (pre : List W) (x : V) : Option (List W × List W) :=
  match o.dst with
  | some d => match Nat.blt d n with
    | true => some (pre, [.t d x])
    | false => none
  | none => none
def binV (op : BinOp) (x y : Operand) (a b : V) : Option V :=
  match a with
  | .int k m => match b with
    | .int k' n => match decide (k = k') with
      | true => binI op k m n
      | false => none
    | _ => none
  | .str s => match b with
    | .str t => binS op s t
    | _ => none
  | _ => none
def autoLoad (P : Program) (n : Nat) (σ : Sg) (o : Oper) (t : TypeId) (x : Operand) : Option (List W × List W) :=
  match σ.ev x with
  | .ptr i 0 off => match σ.ob i with
    | .box tb cs => match isA P t with
      | some b => match szOf P t with
        | some m => match loadV b m off cs with
          | some v => dstV n o (opw x (.ptr i 0 off) ++ [.o i (.box tb cs)]) v
          | none => none
        | none => none
      | none => none
    | _ => none
  | _ => none
def autoStore (P : Program) (σ : Sg) (o : Oper) (t : TypeId) (x y : Operand) : Option (List W × List W) :=
  match o.dst with
  | some _ => none
  | none => match σ.ev x with
    | .ptr i 0 off => match σ.ob i with
      | .box tb cs => match cellsV (σ.ev y) with
        | some ys => match szOf P t with
          | some m => match decide (ys.length = m) with
            | true => match storeV off ys cs with
              | some cs' => some (opw x (.ptr i 0 off) ++ opw y (σ.ev y) ++ [.o i (.box tb cs)], [.o i (.box tb cs')])
              | none => none
            | false => none
          | none => none
        | none => none
      | _ => none
    | _ => none
def autoCall (P : Program) (n : Nat) (σ : Sg) (o : Oper) (c : Call) : Option (List W × List W) :=
  match c.callee with
  | .builtin .len => match c.args.toList with
    | [x] => match c.argTypes.toList with
      | [t] => match P.underlying t with
        | some u => match lenOk (σ.ev x) u with
          | true => match lenV σ (σ.ev x) with
            | some m => dstV n o (opw x (σ.ev x) ++ obw σ (σ.ev x)) (.int .i64 m)
            | none => none
          | false => none
        | none => none
      | _ => none
    | _ => none
  | _ => none
def auto (P : Program) (n : Nat) (σ : Sg) (o : Oper) : Option (List W × List W) :=
  match o.op with
  | .move x => dstV n o (opw x (σ.ev x)) (σ.ev x)
  | .assign x => dstV n o (opw x (σ.ev x)) (σ.ev x)
  | .pick c x y => match σ.ev c with
    | .bool true => dstV n o (opw c (.bool true) ++ opw x (σ.ev x)) (σ.ev x)
    | .bool false => dstV n o (opw c (.bool false) ++ opw y (σ.ev y)) (σ.ev y)
    | _ => none
  | .extract x i => match σ.ev x with
    | .tup vs => match vs[i]? with
      | some v => dstV n o (opw x (.tup vs)) v
      | none => none
    | _ => none
  | .unOp .not t x => match σ.ev x with
    | .bool b => dstV n o (opw x (.bool b)) (.bool (!b))
    | _ => none
  | .nilCheck x => match isAddr (σ.ev x) with
    | true => dstV n o (opw x (σ.ev x)) (σ.ev x)
    | false => none
  | .fieldAddr s x f => match fieldOff P s f with
    | some off => match fieldV (σ.ev x) off with
      | some v => dstV n o (opw x (σ.ev x)) v
      | none => none
    | none => none
  | .load t x => autoLoad P n σ o t x
  | .store t x y => autoStore P σ o t x y
  | .binOp op t x y u => match binV op x y (σ.ev x) (σ.ev y) with
    | some v => dstV n o (opw x (σ.ev x) ++ opw y (σ.ev y)) v
    | none => none
  | .box t x => match cellsV (σ.ev x) with
    | some cs => match o.dst with
      | some d => match Nat.blt d n with
        | true => match σ.ob (100 + d) with
          | .free => some (opw x (σ.ev x) ++ [.o (100 + d) .free], [.o (100 + d) (.box t cs)] ++ [.t d (.ptr (100 + d) 0 0)])
          | _ => none
        | false => none
      | none => none
    | none => none
  | .alloc t => match zeroCs P t with
    | some cs => match o.dst with
      | some d => match Nat.blt d n with
        | true => match σ.ob (100 + d) with
          | .free => some ([.o (100 + d) .free], [.o (100 + d) (.box t cs)] ++ [.t d (.ptr (100 + d) 0 0)])
          | _ => none
        | false => none
      | none => none
    | none => none
  | .build t parts => match zeroCs P t with
    | some zs => match placesOf P t with
      | some places => match fillV (places[·]?) zs (partsEv σ parts.toList) with
        | some cs => dstV n o (partsW parts.toList (partsEv σ parts.toList)) (.agg cs)
        | none => none
      | none => none
    | none => none
  | .call c => autoCall P n σ o c
  | _ => none
section
variable {P : Program} {N : Cx} {ops : Array Oper}
theorem dstV_of {n : Nat} {o : Oper} {pre pre' post : List W} {x : V} (h : dstV n o pre x = some (pre', post)) : ∃ d, o.dst = some d ∧ d < n ∧ pre' = pre ∧ post = [.t d x] := by
  unfold dstV at h
  split at h
  · rename_i d hd
    split at h
    · rename_i hb
      simp only [Option.some.injEq, Prod.mk.injEq] at h
      exact ⟨d, hd, by simpa using hb, h.1.symm, h.2.symm⟩
    · cases h
  · cases h
theorem has2 {σ : Sg} {a b : List W} (h1 : σ.has a) (h2 : σ.has b) : σ.has (a ++ b) := has_append.2 ⟨h1, h2⟩
theorem auto_step {σ : Sg} {o : Oper} {pre post : List W} (h : auto P N.n σ o = some (pre, post)) : Step P N σ o pre post := by
  unfold auto at h
  split at h
  · rename_i x ho
    obtain ⟨d, hd, hn, rfl, rfl⟩ := dstV_of h
    exact ⟨ok_move (.inl ho) hd hn rfl, opw_has rfl⟩
  · rename_i x ho
    obtain ⟨d, hd, hn, rfl, rfl⟩ := dstV_of h
    exact ⟨ok_move (.inr ho) hd hn rfl, opw_has rfl⟩
  · rename_i c x y ho
    split at h
    · rename_i hc
      obtain ⟨d, hd, hn, rfl, rfl⟩ := dstV_of h
      exact ⟨ok_pick (b := true) ho hd hn hc rfl, has2 (opw_has hc) (opw_has rfl)⟩
    · rename_i hc
      obtain ⟨d, hd, hn, rfl, rfl⟩ := dstV_of h
      exact ⟨ok_pick (b := false) ho hd hn hc rfl, has2 (opw_has hc) (opw_has rfl)⟩
    · cases h
  · rename_i x i ho
    split at h
    · rename_i vs hx
      split at h
      · rename_i v hv
        obtain ⟨d, hd, hn, rfl, rfl⟩ := dstV_of h
        exact ⟨ok_extract ho hd hn hx hv, opw_has hx⟩
      · cases h
    · cases h
  · rename_i t x ho
    split at h
    · rename_i b hx
      obtain ⟨d, hd, hn, rfl, rfl⟩ := dstV_of h
      exact ⟨ok_not ho hd hn hx, opw_has hx⟩
    · cases h
  · rename_i x ho
    split at h
    · rename_i hx
      obtain ⟨d, hd, hn, rfl, rfl⟩ := dstV_of h
      exact ⟨ok_nilCheck ho hd hn rfl hx, opw_has rfl⟩
    · cases h
  · rename_i s x f ho
    split at h
    · rename_i off hf
      split at h
      · rename_i v hv
        obtain ⟨d, hd, hn, rfl, rfl⟩ := dstV_of h
        exact ⟨ok_field ho hd hn rfl hf hv, opw_has rfl⟩
      · cases h
    · cases h
  · rename_i t x ho
    unfold autoLoad at h
    split at h
    · rename_i i off hx
      split at h
      · rename_i tb cs hob
        split at h
        · rename_i b hA
          split at h
          · rename_i m hs
            split at h
            · rename_i v hv
              obtain ⟨d, hd, hn, rfl, rfl⟩ := dstV_of h
              exact ⟨ok_load ho hd hn hx hob hA hs hv, has2 (opw_has hx) ⟨hob, trivial⟩⟩
            · cases h
          · cases h
        · cases h
      · cases h
    · cases h
  · rename_i t x y ho
    unfold autoStore at h
    split at h
    · cases h
    · rename_i hd
      split at h
      · rename_i i off hx
        split at h
        · rename_i tb cs hob
          split at h
          · rename_i ys hys
            split at h
            · rename_i m hs
              split at h
              · rename_i hm
                split at h
                · rename_i cs' hv
                  simp only [Option.some.injEq, Prod.mk.injEq] at h
                  obtain ⟨rfl, rfl⟩ := h
                  exact ⟨ok_store ho hd hx rfl hob hs hys (by simpa using hm) hv, has2 (has2 (opw_has hx) (opw_has rfl)) ⟨hob, trivial⟩⟩
                · cases h
              · cases h
            · cases h
          · cases h
        · cases h
      · cases h
  · rename_i op t x y u ho
    split at h
    · rename_i v hv
      obtain ⟨d, hd, hn, rfl, rfl⟩ := dstV_of h
      refine ⟨?_, has2 (opw_has rfl) (opw_has rfl)⟩
      unfold binV at hv
      split at hv
      · rename_i k a hx
        split at hv
        · rename_i k' b hy
          split at hv
          · rename_i hk
            rw [hx, hy]
            exact ok_binI ho hd hn hx hy (by simpa using hk) hv
          · cases hv
        · cases hv
      · rename_i s hx
        split at hv
        · rename_i s' hy
          rw [hx, hy]
          exact ok_binS ho hd hn hx hy hv
        · cases hv
      · cases hv
    · cases h
  · rename_i t x ho
    split at h
    · rename_i cs hc
      split at h
      · rename_i d hd
        split at h
        · rename_i hn
          split at h
          · rename_i hf
            simp only [Option.some.injEq, Prod.mk.injEq] at h
            obtain ⟨rfl, rfl⟩ := h
            exact ⟨ok_box ho hd (by simpa using hn) rfl hc, has2 (opw_has rfl) ⟨hf, trivial⟩⟩
          · cases h
        · cases h
      · cases h
    · cases h
  · rename_i t ho
    split at h
    · rename_i cs hc
      split at h
      · rename_i d hd
        split at h
        · rename_i hn
          split at h
          · rename_i hf
            simp only [Option.some.injEq, Prod.mk.injEq] at h
            obtain ⟨rfl, rfl⟩ := h
            exact ⟨ok_alloc ho hd (by simpa using hn) hc, ⟨hf, trivial⟩⟩
          · cases h
        · cases h
      · cases h
    · cases h
  · rename_i t parts ho
    split at h
    · rename_i zs hz
      split at h
      · rename_i places hp
        split at h
        · rename_i cs hf
          obtain ⟨d, hd, hn, rfl, rfl⟩ := dstV_of h
          exact ⟨ok_build ho hd hn rfl hz hp hf, partsW_has σ _⟩
        · cases h
      · cases h
    · cases h
  · rename_i c ho
    unfold autoCall at h
    split at h
    · rename_i hcal
      split at h
      · rename_i x hx
        split at h
        · rename_i t ht
          split at h
          · rename_i u hu
            split at h
            · rename_i hk
              split at h
              · rename_i m hm
                obtain ⟨d, hd, hn, rfl, rfl⟩ := dstV_of h
                have hc : c = { callee := .builtin .len, args := #[x], argTypes := #[t] } := by
                  obtain ⟨c1, c2, c3⟩ := c
                  simp only at hcal hx ht
                  subst hcal
                  congr 1
                  · rw [← Array.toList_inj, hx]
                  · rw [← Array.toList_inj, ht]
                rw [hc] at ho
                refine ⟨ok_len hu hk ho hd hn rfl hm, has2 (opw_has rfl) ?_⟩
                unfold obw
                split
                · exact ⟨rfl, trivial⟩
                · trivial
              · cases h
            · cases h
          · cases h
        · cases h
      · cases h
    · cases h
  · cases h
def stepG (P : Program) (n : Nat) (ops : Array Oper) (σ : Sg) (o : Oper) : Option Tr :=
  match o.guard with
  | none => match auto P n σ o with
    | some (pre, post) => some ⟨pre, post⟩
    | none => none
  | some (j, b) => match ((ops[j]?).bind (·.dst) : Option Tmp) with
    | some t => match skips (σ.tm t) b with
      | some true => match o.dst with
        | some d => match Nat.blt d n with
          | true => some ⟨[.t t (σ.tm t)], [.t d (.tup [])]⟩
          | false => none
        | none => none
      | some false => match auto P n σ o with
        | some (pre, post) => some ⟨[.t t (.bool b)] ++ pre, post⟩
        | none => none
      | none => none
    | none => none
where
  skips : V → Bool → Option Bool
    | .bool true, true => some false
    | .bool false, false => some false
    | .bool true, false => some true
    | .bool false, true => some true
    | .tup [], _ => some true
    | _, _ => none
theorem skips_true {v : V} {b : Bool} (h : stepG.skips v b = some true) : v = .bool (!b) ∨ v = .tup [] := by
  unfold stepG.skips at h
  split at h <;> simp_all
theorem skips_false {v : V} {b : Bool} (h : stepG.skips v b = some false) : v = .bool b := by
  unfold stepG.skips at h
  split at h <;> simp_all
theorem stepG_ok {σ : Sg} {o : Oper} {tr : Tr} (h : stepG P N.n ops σ o = some tr) : TrOk P N ops o tr ∧ σ.has tr.pre := by
  unfold stepG at h
  split at h
  · rename_i hg
    split at h
    · rename_i pre post ha
      obtain rfl := Option.some.inj h
      obtain ⟨h1, h2⟩ := auto_step ha
      exact ⟨TrOk.of (gp := []) (by simp [guardPre, hg]) h1, h2⟩
    · cases h
  · rename_i j b hg
    split at h
    · rename_i t hj
      split at h
      · rename_i hs
        split at h
        · rename_i d hd
          split at h
          · rename_i hn
            obtain rfl := Option.some.inj h
            exact ⟨TrOk.skip (σ.tm t) hg hj (skips_true hs) hd (by simpa using hn), ⟨rfl, trivial⟩⟩
          · cases h
        · cases h
      · rename_i hs
        split at h
        · rename_i pre post ha
          obtain rfl := Option.some.inj h
          obtain ⟨h1, h2⟩ := auto_step ha
          have htm : σ.tm t = .bool b := skips_false hs
          exact ⟨TrOk.of (gp := [.t t (.bool b)]) (by simp [guardPre, hg, hj]) h1, has2 ⟨htm, trivial⟩ h2⟩
        · cases h
      · cases h
    · cases h
def goAuto (P : Program) (n : Nat) (ops : Array Oper) : Nat → Sg → List Oper → Option (List Tr × Sg)
  | 0, σ, _ => some ([], σ)
  | k + 1, σ, o :: l => match stepG P n ops σ o with
    | some tr => match goAuto P n ops k (σ.puts tr.post) l with
      | some (trs, σ') => some (tr :: trs, σ')
      | none => none
    | none => none
  | _ + 1, _, [] => none
theorem goAuto_run {K : List Tr → Sg → Prop} : ∀ (k : Nat) (σ : Sg) (l : List Oper) (trs : List Tr) (σ' : Sg), goAuto P N.n ops k σ l = some (trs, σ') → Run P N ops (l.drop k) σ' (fun t s => K (trs ++ t) s) → Run P N ops l σ K
  | 0, σ, l, trs, σ', h, r => by
    simp only [goAuto, Option.some.injEq, Prod.mk.injEq] at h
    obtain ⟨rfl, rfl⟩ := h
    simpa using r
  | k + 1, σ, [], trs, σ', h, r => by simp [goAuto] at h
  | k + 1, σ, o :: l, trs, σ', h, r => by
    simp only [goAuto] at h
    split at h
    · rename_i tr htr
      split at h
      · rename_i trs' σ'' h'
        simp only [Option.some.injEq, Prod.mk.injEq] at h
        obtain ⟨rfl, rfl⟩ := h
        obtain ⟨h1, h2⟩ := stepG_ok htr
        refine Run.cons tr h1 h2 (goAuto_run k _ l trs' σ'' h' ?_)
        simpa using r
      · cases h
    · cases h
def At (P : Program) (N : Cx) (ops : Array Oper) (k : Nat) (σ : Sg) (K : List Tr → Sg → Prop) : Prop := Run P N ops (ops.toList.drop k) σ K
theorem At.start {K : List Tr → Sg → Prop} {σ : Sg} (h : At P N ops 0 σ K) : Run P N ops ops.toList σ K := h
theorem At.done {K : List Tr → Sg → Prop} {k : Nat} {σ : Sg} (hk : ops.size = k) (h : K [] σ) : At P N ops k σ K := by
  unfold At
  rw [List.drop_of_length_le (by rw [Array.length_toList]; omega)]
  exact Run.nil h
def autoS (P : Program) (n : Nat) (ops : Array Oper) (k m : Nat) (σ : Sg) : Option (List Tr × Sg) := goAuto P n ops m σ (ops.toList.drop k)
theorem At.auto {K : List Tr → Sg → Prop} {k : Nat} {σ : Sg} (m : Nat) (h : (autoS P N.n ops k m σ).isSome = true) (r : At P N ops (k + m) ((autoS P N.n ops k m σ).get h).2 (fun t s => K (((autoS P N.n ops k m σ).get h).1 ++ t) s)) : At P N ops k σ K :=
  goAuto_run m σ _ _ _ (Option.some_get h).symm (by rw [List.drop_drop]; exact r)
theorem put_same {σ : Sg} {d : Nat} {v : V} (h : σ.tm d = v) : σ.put (.t d v) = σ := by
  obtain ⟨tm, ob⟩ := σ
  simp only [Sg.put] at h ⊢
  congr 1
  funext i
  split
  · rename_i e; rw [e, h]
  · rfl
theorem At.say {K : List Tr → Sg → Prop} {k : Nat} {σ : Sg} (d : Nat) (v v' : V) (h : σ.tm d = v) (e : v = v') (r : At P N ops k (σ.put (.t d v')) K) : At P N ops k σ K := by
  subst e
  rwa [put_same h] at r
theorem KF.conv {m : Nat} {rs : List ResultVar} {e : Exit} {σ : Sg} {α : Type} (f : α → V) (g : α → List Ob) {a b : α} (h : a = b) (r : KF P m rs (f a) (g a) e σ) : KF P m rs (f b) (g b) e σ := h ▸ r
theorem KF.mk {m : Nat} {rs : List ResultVar} {R : V} {T' : List Ob} {e : Exit} {σ : Sg} (he : e = .normal ∨ e = .ret) (L : List (Nat × Nat)) (vs : List V) (h1 : (okL L && fixes m L) = true) (h2 : resV P σ rs = some vs) (h3 : R = (resOf vs).ren (hOf L)) (h4 : L.map Prod.snd = List.range T'.length) (h5 : T' = L.map fun p => (σ.ob p.1).ren (hOf L)) : KF P m rs R T' e σ :=
  ⟨he, L, vs, h1, h2, h3, h4, h5⟩
theorem At.step {K : List Tr → Sg → Prop} {k : Nat} {σ : Sg} {o : Oper} {gp pre post : List W} (ho : ops[k]? = some o) (hg : guardPre ops o = some gp) (hgp : σ.has gp) (h : Step P N σ o pre post) (r : At P N ops (k + 1) (σ.puts post) (fun t s => K (⟨gp ++ pre, post⟩ :: t) s)) : At P N ops k σ K := by
  have hk : k < ops.toList.length := by rw [Array.length_toList]; exact (Array.getElem?_eq_some_iff.1 ho).1
  have e : ops.toList.drop k = o :: ops.toList.drop (k + 1) := by
    rw [List.drop_eq_getElem_cons hk]
    congr 1
    have := (Array.getElem?_eq_some_iff.1 ho).2
    simpa using this
  unfold At
  rw [e]
  exact Run.cons _ (TrOk.of hg h.1) (has2 hgp h.2) r
end
end Go.Sy
end
