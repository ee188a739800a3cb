/- append(b, s...) of a string. -/
import Derived.Test.YthjmbojkpkbedaaSMsgRi
import Derived.Lib.AppendStr
set_option linter.unusedVariables false
set_option linter.unusedSimpArgs false
namespace Go.Sy
section
variable {P : Program}
theorem app_core_s {e es k : Nat} {G : Gh} {w : World} {ob ob' : Nat → Ob} (H : Hold G w ob) (hk : ob k = .free) (kill : Nat → Prop) (hkill : ¬ kill k) {v : Value} {xs ys : List V} {M1 : Nat → Nat → Nat → Prop} {news : List Value} {R : Value → World → Prop}
    (hrun : ∀ cells, w.ownsRow 0 e es v xs.length cells → ∃ v' w', R v' w' ∧ w'.ownsRow 0 e es v' (xs.length + ys.length) (cells ++ news) ∧ w.grownBy w' v.ownBlock ∧ (v'.ownBlock = v.ownBlock ∨ v'.ownBlock = some w.heap.size))
    (h1 : Row w G.I G.J v e es xs M1) (s5 : ∀ u ∈ news, u.oneCell' = true) (s6 : ∀ (k : Nat) (x : V), ys[k]? = some x → (cl x).length = es) (s7 : ∀ x ∈ ys, (cl x).all gO = true)
    (s8' : ∀ (k : Nat) (x : V), ys[k]? = some x → ∀ (j : Nat) (y : V), (cl x)[j]? = some y → RepN w G.I G.J (fun _ => False) (news.getD (k * es + j) undef) y)
    (hv : ∀ b, v.ownBlock = some b → ∃ i, kill i ∧ G.F i b) (k1 : ∀ a j b, M1 a j b → ∃ i, kill i ∧ G.F i b) (g1 : ∀ a j b, M1 a j b → v.ownBlock ≠ some b)
    (d1 : ∀ a j a' j' b, M1 a j b → M1 a' j' b → a = a' ∧ j = j') (n1 : ∀ a j b, M1 a j b → ∃ x y, xs[a]? = some x ∧ (cl x)[j]? = some y)
    (o1 : ob' k = .arr e es (xs ++ ys)) (o2 : ∀ i, kill i → ob' i = .dead) (o3 : ∀ i, i ≠ k → ¬ kill i → ob' i = ob i) :
    ∃ v' w' G' r, R v' w' ∧ Hold G' w' ob' ∧ Fr G w G' w' ∧ G'.ρ k = some r ∧ r.sl v' := by
  obtain ⟨M2, hM2⟩ : ∃ M2 : Nat → Nat → Nat → Prop, M2 = fun _ _ _ => False := ⟨_, rfl⟩
  have hF : ∀ a j b, ¬ M2 a j b := fun a j b h => by rw [hM2] at h; exact h
  have k2 : ∀ a j b, M2 a j b → ∃ i, kill i ∧ G.F i b := fun a j b h => (hF a j b h).elim
  have g2 : ∀ a j b, M2 a j b → v.ownBlock ≠ some b := fun a j b h => (hF a j b h).elim
  have d12 : ∀ a j a' j' b, M1 a j b → M2 a' j' b → False := fun _ _ a j b _ h => hF a j b h
  have d2 : ∀ a j a' j' b, M2 a j b → M2 a' j' b → a = a' ∧ j = j' := fun a j _ _ b h => (hF a j b h).elim
  have n2 : ∀ a j b, M2 a j b → ∃ x y, ys[a]? = some x ∧ (cl x)[j]? = some y := fun a j b h => (hF a j b h).elim
  have s8 : ∀ (k : Nat) (x : V), ys[k]? = some x → ∀ (j : Nat) (y : V), (cl x)[j]? = some y → RepN w G.I G.J (M2 k j) (news.getD (k * es + j) undef) y := fun k x hx j y hy => by rw [hM2]; exact s8' k x hx j y hy
  obtain ⟨cells, c1, c2, c3, c4, c5⟩ := h1
  obtain ⟨v', w', r1, r2, r3, r4⟩ := hrun cells c1
  have hlt : ∀ b, v.ownBlock = some b → b < w.heap.size := fun b hb => by obtain ⟨i, _, h⟩ := hv b hb; exact H.flt i b h
  have klt1 : ∀ a j b, M1 a j b → b < w.heap.size := fun a j b h => by obtain ⟨i, _, h⟩ := k1 a j b h; exact H.flt i b h
  have klt2 : ∀ a j b, M2 a j b → b < w.heap.size := fun a j b h => by obtain ⟨i, _, h⟩ := k2 a j b h; exact H.flt i b h
  let M : Nat → Nat → Nat → Prop := fun a j b => if a < xs.length then M1 a j b else M2 (a - xs.length) j b
  have hMlt : ∀ a j b, M a j b → b < w.heap.size := by
    intro a j b h
    simp only [M] at h
    split at h
    · exact klt1 _ _ _ h
    · exact klt2 _ _ _ h
  have hMg : ∀ a j b, M a j b → v.ownBlock ≠ some b := by
    intro a j b h
    simp only [M] at h
    split at h
    · exact g1 _ _ _ h
    · exact g2 _ _ _ h
  have hMk : ∀ a j b, M a j b → ∃ i, kill i ∧ G.F i b := by
    intro a j b h
    simp only [M] at h
    split at h
    · exact k1 _ _ _ h
    · exact k2 _ _ _ h
  have hg' : ∀ a j b, M a j b → v'.ownBlock ≠ some b := by
    intro a j b h e
    rcases r4 with r4 | r4
    · exact hMg a j b h (by rw [← r4]; exact e)
    · have := hMlt a j b h
      rw [r4] at e
      simp at e
      omega
  have hlen := c1.1
  have hrow : (∀ v x, RepG w G.I G.J v x → RepG w' G.I G.J v x) → Row w' G.I G.J v' e es (xs ++ ys) M := by
    intro LG
    refine ⟨cells ++ news, by rw [List.length_append]; exact r2, fun u hu => ?_, fun a x hx => ?_, fun x hx => ?_, fun a x hx j y hy => ?_⟩
    · rcases List.mem_append.1 hu with h | h
      · exact c2 u h
      · exact s5 u h
    · rw [List.getElem?_append] at hx
      split at hx
      · exact c3 a x hx
      · exact s6 _ x hx
    · rcases List.mem_append.1 hx with h | h
      · exact c4 x h
      · exact s7 x h
    · rw [List.getElem?_append] at hx
      by_cases ha : a < xs.length
      · rw [if_pos ha] at hx
        have hj : j < es := by rw [← c3 a x hx]; exact (List.getElem?_eq_some_iff.1 hy).1
        have hlt := idx_lt ha (Nat.le_refl _) hj
        have e1 : (cells ++ news).getD (a * es + j) undef = cells.getD (a * es + j) undef := by
          rw [List.getD_eq_getElem?_getD, List.getElem?_append_left (by omega), ← List.getD_eq_getElem?_getD]
        have e2 : M a j = M1 a j := by funext b; simp [M, ha]
        rw [e1, e2]
        exact (c5 a x hx j y hy).lift LG (fun b hb => r3.block b (klt1 _ _ _ hb) (fun e => g1 _ _ _ hb e.symm))
      · rw [if_neg ha] at hx
        have hj : j < es := by rw [← s6 _ x hx]; exact (List.getElem?_eq_some_iff.1 hy).1
        have e0 : a * es = xs.length * es + (a - xs.length) * es := by rw [← Nat.add_mul]; congr 1; omega
        have e1 : (cells ++ news).getD (a * es + j) undef = news.getD ((a - xs.length) * es + j) undef := by
          rw [List.getD_eq_getElem?_getD, List.getElem?_append_right (by omega), ← List.getD_eq_getElem?_getD]
          congr 1
          omega
        have e2 : M a j = M2 (a - xs.length) j := by funext b; simp [M, ha]
        rw [e1, e2]
        exact (s8 _ x hx j y hy).lift LG (fun b hb => r3.block b (klt2 _ _ _ hb) (fun e => g2 _ _ _ hb e.symm))
  have hnd : ∀ a j a' j' b, M a j b → M a' j' b → a = a' ∧ j = j' := by
    intro a j a' j' b h h'
    simp only [M] at h h'
    split at h
    · split at h'
      · exact d1 _ _ _ _ _ h h'
      · exact (d12 _ _ _ _ _ h h').elim
    · split at h'
      · exact (d12 _ _ _ _ _ h' h).elim
      · obtain ⟨q1, q2⟩ := d2 _ _ _ _ _ h h'
        exact ⟨by omega, q2⟩
  have hnb : ∀ a j b, M a j b → ∃ x y, (xs ++ ys)[a]? = some x ∧ (cl x)[j]? = some y := by
    intro a j b h
    simp only [M] at h
    split at h
    · rename_i ha
      obtain ⟨x, y, h1, h2⟩ := n1 _ _ _ h
      exact ⟨x, y, by rw [List.getElem?_append_left ha]; exact h1, h2⟩
    · rename_i ha
      obtain ⟨x, y, h1, h2⟩ := n2 _ _ _ h
      exact ⟨x, y, by rw [List.getElem?_append_right (by omega)]; exact h1, h2⟩
  have hvlt : ∀ b, v'.ownBlock = some b → b < w'.heap.size := fun b hb => (r2.lt b hb).2
  have LG : ∀ v x, RepG w G.I G.J v x → RepG w' G.I G.J v x := fun v x h => h.mono (fun _ h => h) (fun _ h => h) (fun b hb => by
    have hj : G.J b := hb.elim (H.ij b) id
    refine r3.block b (H.lt b hj) (fun e => ?_)
    obtain ⟨i, _, h⟩ := hv b e.symm
    exact H.fj i b h hj)
  obtain ⟨q1, _⟩ := own_of_row (ρ := G.ρ) (hrow LG) (F := fun b => v'.ownBlock = some b ∨ ∃ a j, M a j b) (fun b => Iff.rfl) hg' hnd hnb
  have := H.mv hk kill hkill (w' := w') (ob' := ob') r3.os r3.tape r3.output r3.size (fun b hb hf => r3.block b hb (fun e => by
      obtain ⟨i, hi, h⟩ := hv b e.symm
      exact hf i hi h)) (RI.of v' es) (fun b => v'.ownBlock = some b ∨ ∃ a j, M a j b) (fun b hb => by
      rcases hb with hb | ⟨a, j, hb⟩
      · rcases r4 with r4 | r4
        · exact .inl (hv b (by rw [← r4]; exact hb))
        · rw [r4] at hb
          simp at hb
          exact .inr (by omega)
      · exact .inl (hMk a j b hb)) (fun b hb => by
      rcases hb with hb | ⟨a, j, hb⟩
      · exact hvlt b hb
      · exact Nat.lt_of_lt_of_le (hMlt a j b hb) r3.size) (.arr e es (xs ++ ys)) (fun LG' => (own_of_row (hrow LG') (fun b => Iff.rfl) hg' hnd hnb).2) o1 o2 o3
  exact ⟨v', w', _, _, r1, this.1, this.2, by simp [Gh.mv], q1⟩
open Go.Lib in
theorem run_app_str {t u ty e : Nat} {i : TypeInfo} (ht : P.underlying t = some (.slice e)) (hu : P.underlying u = some .string) (hi : P.info? e = some i) (hz : i.zero = some (.int .u8 0)) (hsize : i.size = 1) (hby : i.bytes = 1) {w : World} {v : Value} {n : Nat} {cells : List Value} (s : ByteArray)
    (hown : w.ownsRow 0 e 1 v n cells) (hb : n + s.size ≤ 140737488355328) :
    ∃ v' w', (Builtin.append_ #[t, u] ty #[v, .string s]).run P w = .ok v' w' ∧ w'.ownsRow 0 e 1 v' (n + s.size) (cells ++ strCells s) ∧ w.grownBy w' v.ownBlock ∧ (v'.ownBlock = v.ownBlock ∨ v'.ownBlock = some w.heap.size) := by
  have hm : n + s.size ≤ maxLen := by simp only [maxLen]; omega
  obtain ⟨v', w', h1, h2, h3, h4⟩ := run_append_own_string (P := P) w 0 t u ty e i ht hu hi hz hsize hby v n cells hown s hm hb (Nat.zero_le _)
  refine ⟨v', w', h1, h2, h3, ?_⟩
  rcases hown.2 with ⟨rfl, rfl⟩ | ⟨g, cap, cur, rfl, hbg, hg, hnc, hcm, hcs, htake⟩
  · by_cases hs : s.size = 0
    · exact .inl (by rw [h4.2 ⟨rfl, hs⟩])
    · have hr := run_append_nil_string (P := P) w t u ty e i (.int .u8 0) ht hu hi hz s (by omega) (by omega) (by rw [hby]; omega)
      rw [h1] at hr
      injection hr with e1 e2
      exact .inr (by rw [e1]; rfl)
  · by_cases hroom : n + s.size ≤ cap
    · have hr := run_append_room_string (P := P) w t u ty e i ht hu hi hsize g n cap cur hg s hroom (by rw [hcs]; omega)
      rw [h1] at hr
      injection hr with e1 e2
      exact .inl (by rw [e1]; rfl)
    · have hxl : cells.length = n := by simpa using hown.1
      have holds : ∀ j u, cells[j]? = some u → w.cell? ((⟨g, 0, none⟩ : Addr).add j) = some u := hown.cells (g := g) rfl
      have hr := run_append_grow_string (P := P) w t u ty e i (.int .u8 0) ht hu hi hz ⟨g, 0, none⟩ n cap cells (by rw [hsize]; simpa using hxl) holds s (by omega) (by omega) (by rw [hby]; exact growslice_fits (by omega) (by omega))
      rw [h1] at hr
      injection hr with e1 e2
      exact .inr (by rw [e1]; rfl)
def u8El (P : Program) (e : Nat) : Option (Option Value × Nat × Nat) := (P.info? e).map fun i => (i.zero, i.size, i.bytes)
theorem strCells_u8 (b : ByteArray) : ∀ (k : Nat) (x : V), (b.data.toList.map encU8)[k]? = some x → ∀ (j : Nat) (y : V), (cl x)[j]? = some y → ∀ {w : World} {I J : Nat → Prop}, RepN w I J (fun _ => False) ((Go.Lib.strCells b).getD (k * 1 + j) undef) y := by
  intro k x hx j y hy w I J
  rw [List.getElem?_map] at hx
  obtain ⟨c, hc, rfl⟩ := Option.map_eq_some_iff.1 hx
  have e : cl (encU8 c) = [encU8 c] := rfl
  rw [e] at hy
  cases j with
  | zero =>
    simp only [List.getElem?_cons_zero, Option.some.injEq] at hy
    subst hy
    unfold Go.Lib.strCells
    rw [List.getD_eq_getElem?_getD, Nat.mul_one, Nat.add_zero, List.getElem?_map, hc]
    exact repN_of_G rfl (.int _ _)
  | succ j => simp at hy
variable {N : Cx} {ops : Array Oper}
theorem ok_append_str {o : Oper} {s x : Operand} {t u e d k : Nat} {σ : Sg} {S : V} {b : ByteArray} {xs zs : List V} {kill1 : List Nat} (ho : o.op = .call { callee := .builtin .append, args := #[s, x], argTypes := #[t, u] }) (hd : o.dst = some d) (hn : d < N.n)
    (ht : P.underlying t = some (.slice e)) (hu : P.underlying u = some .string) (hi : u8El P e = some (some (.int .u8 0), 1, 1)) (hs : σ.ev s = S) (hx : σ.ev x = .str b) (hf : FirstIs σ.ob S e 1 xs kill1)
    (hk : notIn k kill1 = true) (hz : xs ++ b.data.toList.map encU8 = zs) (hb : xs.length + b.size ≤ 140737488355328) :
    CoreOk P N o (opw s S ++ opw x (.str b) ++ obW σ.ob (obK S) ++ [.o k .free]) ((killW kill1 ++ [.o k (.arr e 1 zs)]) ++ [.t d (.ref k)]) :=
  eff_ok hd hn (fun z hz => by
    simp only [killW, List.mem_append, List.mem_map, List.mem_singleton] at hz
    rcases hz with ⟨i, _, rfl⟩ | rfl
    · exact ⟨_, _, rfl⟩
    · exact ⟨_, _, rfl⟩) fun G w σ' a H _ he hp => by
    subst hz
    have hk1 := notIn_iff hk
    obtain ⟨hp, hp5⟩ := has_append.1 hp
    obtain ⟨hp, hp3⟩ := has_append.1 hp
    obtain ⟨hp1, hp2⟩ := has_append.1 hp
    have h1 := he s
    rw [opw_ev hs hp1] at h1
    have h2 := he x
    rw [opw_ev hx hp2] at h2
    have e2 := Rep.inv_str h2
    obtain ⟨M1, a1, a2, a3, a4, a5, a6⟩ := first_row H (hf.congr (obW_has hp3)) h1
    unfold u8El at hi
    obtain ⟨inf, hinf, he3⟩ := Option.map_eq_some_iff.1 hi
    simp only [Prod.mk.injEq] at he3
    obtain ⟨z1, z2, z3⟩ := he3
    have hsz : (b.data.toList.map encU8).length = b.size := by rw [List.length_map, Array.length_toList]; rfl
    obtain ⟨v', w', G', r, r1, r2, r3, r4, r5⟩ := app_core_s (e := e) (es := 1) H (k := k) hp5.1 (fun i => i ∈ kill1) hk1 (ob' := (σ'.puts (killW kill1 ++ [.o k (.arr e 1 (xs ++ b.data.toList.map encU8))])).ob) (v := a.eval s) (ys := b.data.toList.map encU8) (news := Go.Lib.strCells b)
      (R := fun v' w' => (Builtin.append_ #[t, u] o.type #[a.eval s, .string b]).run P w = .ok v' w')
      (fun cells hc => by rw [hsz]; exact run_app_str (P := P) (ty := o.type) ht hu hinf z1 z2 z3 b hc hb) a1 (Go.Lib.strCells_oneCell b)
      (fun k x hx => by obtain ⟨c, hc, rfl⟩ := Option.map_eq_some_iff.1 ((List.getElem?_map ..).symm.trans hx); rfl)
      (fun x hx => by obtain ⟨c, hc, rfl⟩ := List.mem_map.1 hx; rfl)
      (fun k x hx j y hy => strCells_u8 b k x hx j y hy)
      a2 a3 a4 a5 a6 (by rw [kill_ob]; simp) (fun i hi => by rw [kill_ob]; have : i ≠ k := fun e => hk1 (e ▸ hi); simp only; rw [if_neg this, if_pos hi]) (fun i h1 h2 => by rw [kill_ob]; simp only; rw [if_neg h1, if_neg h2])
    refine ⟨v', w', G', ?_, r2, r3, .ref k r v' r4 r5⟩
    simp only [execOp, ho, resolve, invoke, builtin, Sem.run_bind, Sem.run_pure, Result.andThen_ok, List.map_toArray, List.map_cons, List.map_nil, e2, r1]
variable {k : Nat} {σ : Sg} {K : List Tr → Sg → Prop}
theorem At.appStr {t u d e : Nat} {s x : Operand} {S : V} {b : ByteArray} {xs : List V} (j : Nat) (kill1 : List Nat) (zs : List V) (hg : goes ops σ k = true) (ho : opd (opAt ops k) = (.call { callee := .builtin .append, args := #[s, x], argTypes := #[t, u] }, some d)) (ht : (slE P t N.n d, u8El P e) = (some (e, 1), some (some (.int .u8 0), 1, 1))) (hu : P.underlying u = some .string)
    (hv : [σ.ev s, σ.ev x] = [S, .str b]) (hf : FirstIs σ.ob S e 1 xs kill1) (hk : notIn j kill1 = true) (hj : σ.ob j = .free) (hz : xs ++ b.data.toList.map encU8 = zs) (hb : xs.length + b.size ≤ 140737488355328)
    (r : At P N ops (k + 1) (σ.puts ((killW kill1 ++ [.o j (.arr e 1 zs)]) ++ [.t d (.ref j)])) (fun t s' => K (⟨(gpOf ops σ (opAt ops k)).getD [] ++ (opw s S ++ opw x (.str b) ++ obW σ.ob (obK S) ++ [.o j .free]), (killW kill1 ++ [.o j (.arr e 1 zs)]) ++ [.t d (.ref j)]⟩ :: t) s')) : At P N ops k σ K := by
  simp only [Prod.mk.injEq] at ht
  obtain ⟨a1, a2, a3⟩ := slE_of ht.1
  simp only [List.cons.injEq, and_true] at hv
  exact At.step2 hg ⟨ok_append_str (opd1 ho) (opd2 ho) a3 a1 hu ht.2 hv.1 hv.2 hf hk hz hb, has2 (has2 (has2 (opw_has hv.1) (opw_has hv.2)) (obW_self σ _)) ⟨hj, trivial⟩⟩ r
theorem Sub.tsl {N : Cx} {σ : Sg} (i j t es : Nat) (xs : List V) (cs : List V) (h : (σ.ob i, cs[j]?) = (.box t cs, some (.sl true es xs))) : Sub N σ (σ.put (.o i (.box t (cs.set j (.sl false es xs))))) := by
  simp only [Prod.mk.injEq] at h
  obtain ⟨h, hn⟩ := h
  intro G0 w0 a w s
  obtain ⟨G, H, ht, h1, h2, f, h4⟩ := s
  refine ⟨G, ⟨H.ij, H.lt, fun k => ?_, H.flt, H.fj, H.dis⟩, ht, h1, h2, f, h4⟩
  by_cases e : k = i
  · subst e
    have h5 := H.own k
    rw [h] at h5
    obtain ⟨r, g, cur, q1, q2, q3, q4, q5, q6⟩ := h5
    have : (σ.put (.o k (.box t (cs.set j (.sl false es xs))))).ob k = .box t (cs.set j (.sl false es xs)) := by simp [Sg.put]
    rw [this]
    refine ⟨r, g, cur, q1, q2, q3, by simpa using q4, fun m x hx => ?_, q6⟩
    rw [List.getElem?_set] at hx
    split at hx
    · rename_i e
      subst e
      split at hx
      · obtain rfl := Option.some.inj hx
        have := q5 j (.sl true es xs) hn
        exact cv_rep H es this
      · cases hx
    · exact q5 m x hx
  · have : (σ.put (.o i (.box t (cs.set j (.sl false es xs))))).ob k = σ.ob k := by simp [Sg.put, e]
    rw [this]
    exact H.own k
end
end Go.Sy

