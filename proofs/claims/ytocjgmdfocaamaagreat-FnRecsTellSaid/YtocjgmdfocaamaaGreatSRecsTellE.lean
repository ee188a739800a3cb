/- The rules of single operations, part 2: what is read and written in boxes, new boxes, structs. -/
import Derived.Test.YtocjgmdfocaamaaGreatSRecsTellD
import Derived.Laws.NewBlocks
import Derived.Great.BuildSlice
import Derived.Maps.AppendAt
set_option linter.unusedVariables false
set_option linter.unusedSimpArgs false
namespace Go.Sy
section
variable {P : Program} {N : Cx} {ops : Array Oper}
theorem run_load1 {t : TypeId} (hA : isA P t = some false) {w : World} {ad : Addr} {v : Value} (h : w.cell? ad = some v) : (Instr.loadAt t (.pointer (some ad))).run P w = .ok v w := by
  simp [Instr.loadAt, Instr.sureAddr, loadVar, run_isA hA, load, Sem.run, h]
theorem run_loadN {t : TypeId} {n : Nat} (hA : isA P t = some true) (hs : szOf P t = some n) {w : World} {ad : Addr} (us : List Value) (hn : us.length = n) (h : ∀ (j : Nat) (v : Value), us[j]? = some v → w.cell? (ad.add j) = some v) : (Instr.loadAt t (.pointer (some ad))).run P w = .ok (.agg us.toArray) w := by
  subst hn
  simp [Instr.loadAt, Instr.sureAddr, loadVar, run_isA hA, run_sz hs, run_loadCells_list (P := P) w ad us h]
def loadV (b : Bool) (n off : Nat) (cs : List V) : Option V :=
  match b with
  | true => if off + n ≤ cs.length then some (.agg ((cs.drop off).take n)) else none
  | false => cs[off]?
theorem load_of {t : TypeId} {b : Bool} {n : Nat} (hA : isA P t = some b) (hs : szOf P t = some n) {G : Gh} {w : World} {ad : Addr} {off : Nat} {cs : List V} {v : V} (u : Nat → Value)
    (hu : ∀ (j : Nat) (x : V), cs[j]? = some x → w.cell? (ad.add j) = some (u j) ∧ G.Rep w (u j) x) (hv : loadV b n off cs = some v) :
    ∃ z, (Instr.loadAt t (.pointer (some (ad.add off)))).run P w = .ok z w ∧ G.Rep w z v := by
  cases b with
  | false =>
    obtain ⟨h1, h2⟩ := hu off v hv
    exact ⟨u off, run_load1 hA h1, h2⟩
  | true =>
    simp only [loadV] at hv
    split at hv
    · rename_i hl
      obtain rfl := Option.some.inj hv
      have hget : ∀ j, j < n → ∃ x, cs[off + j]? = some x := fun j hj => ⟨_, List.getElem?_eq_getElem (by omega)⟩
      refine ⟨_, run_loadN hA hs ((List.range n).map fun j => u (off + j)) (by simp) (fun j x hx => ?_), ?_⟩
      · rw [List.getElem?_map] at hx
        obtain ⟨k, hk, rfl⟩ := Option.map_eq_some_iff.1 hx
        have hj : j < n := by have := (List.getElem?_eq_some_iff.1 hk).1; simpa using this
        obtain rfl : j = k := by simpa [List.getElem?_range hj] using hk
        obtain ⟨x, hx⟩ := hget j hj
        rw [add_add]
        exact (hu _ x hx).1
      · refine .agg _ _ (by simp; omega) (fun j x hx => ?_)
        rw [List.getElem?_take] at hx
        split at hx
        · rename_i hj
          rw [List.getElem?_drop] at hx
          have : (((List.range n).map fun j => u (off + j)).toArray).getD j undef = u (off + j) := by simp [Array.getD, hj]
          rw [this]
          exact (hu _ x hx).2
        · cases hx
    · cases hv
theorem box_of {G : Gh} {w : World} {ob : Nat → Ob} (H : Hold G w ob) {i tb : Nat} {cs : List V} (hob : ob i = .box tb cs) :
    ∃ r g cur, G.ρ i = some r ∧ r.g = some g ∧ w.heap[g]? = some (.cells cur tb (0, 0)) ∧ cur.size = cs.length ∧ (∀ (j : Nat) (x : V), cs[j]? = some x → G.Rep w (cur.getD j undef) x) ∧ ∀ b, G.F i b ↔ b = g := by
  have h := H.own i
  rw [hob] at h
  exact h
theorem ok_load {o : Oper} {x : Operand} {t : TypeId} {d i off tb n : Nat} {b : Bool} {σ : Sg} {cs : List V} {v : V} (ho : o.op = .load t x) (hd : o.dst = some d) (hn : d < N.n) (hx : σ.ev x = .ptr i 0 off) (hob : σ.ob i = .box tb cs)
    (hA : isA P t = some b) (hs : szOf P t = some n) (hv : loadV b n off cs = some v) : CoreOk P N o (opw x (.ptr i 0 off) ++ [.o i (.box tb cs)]) [.t d v] :=
  val_ok hd hn fun G w σ' a H he hp => by
    obtain ⟨hp1, hp2⟩ := has_append.1 hp
    have h1 := he x
    rw [opw_ev hx hp1] at h1
    obtain ⟨r, g, e1, e2, e⟩ := Rep.inv_ptr h1
    obtain ⟨r', g', cur, f1, f2, f3, f4, f5, f6⟩ := box_of H (show σ'.ob i = .box tb cs from hp2.1)
    rw [e1] at f1
    obtain rfl := Option.some.inj f1
    rw [e2] at f2
    obtain rfl := Option.some.inj f2
    have ea : (⟨g, 0 * r.es + off, none⟩ : Addr) = (⟨g, 0, none⟩ : Addr).add off := by rw [add_lit]; simp
    obtain ⟨z, h3, h4⟩ := load_of hA hs (G := G) (w := w) (ad := ⟨g, 0, none⟩) (off := off) (cs := cs) (fun j => cur.getD j undef) (fun j x hx => by
      refine ⟨?_, f5 j x hx⟩
      rw [add_lit, Nat.zero_add, cell_of_row w g j cur tb (0, 0) f3]
      have : j < cur.size := by rw [f4]; exact (List.getElem?_eq_some_iff.1 hx).1
      simp [Array.getD, this]) hv
    refine ⟨z, ?_, h4⟩
    simp only [execOp, ho, e, ea, Sem.run_bind, h3, Result.andThen_ok, Sem.run_pure]
theorem ok_loadVp {o : Oper} {x : Operand} {t : TypeId} {d es k off n : Nat} {p b : Bool} {σ : Sg} {xs : List V} {y v : V} (ho : o.op = .load t x) (hd : o.dst = some d) (hn : d < N.n) (hx : σ.ev x = .vp p es xs k off) (hy : xs[k]? = some y)
    (hA : isA P t = some b) (hs : szOf P t = some n) (hv : loadV b n off (cl y) = some v) : CoreOk P N o (opw x (.vp p es xs k off)) [.t d v] :=
  val_ok hd hn fun G w σ' a H he hp => by
    have h1 := he x
    rw [opw_ev hx hp] at h1
    have h2 := Rep.inv_vp h1
    have hz : ∃ z, a.eval x = z := ⟨_, rfl⟩
    obtain ⟨z, hz⟩ := hz
    rw [hz] at h2
    cases h2 with
    | vp ad _ _ _ _ _ u hp' hl hu ho' hq' hr =>
      obtain ⟨q, h3, h4⟩ := load_of hA hs (G := G) (w := w) (ad := ad.add (k * es)) (off := off) (cs := cl y) (fun j => u k j) (fun j x hx => by
        refine ⟨?_, .g (hr k y hy j x hx)⟩
        rw [add_add]
        exact hu k y hy j x hx) hv
      refine ⟨q, ?_, h4⟩
      rw [add_add] at h3
      simp only [execOp, ho, hz, Sem.run_bind, h3, Result.andThen_ok, Sem.run_pure]
def oneV : V → Bool
  | .un | .agg _ | .tup _ | .own .. => false
  | _ => true
def cellsV : V → Option (List V)
  | .agg cs => if cs.all oneV then some cs else none
  | .un | .tup _ | .own .. => none
  | x => some [x]
theorem Rep.oneCell {ρ : Nat → Option RI} {w : World} {I J : Nat → Prop} {v : Value} {x : V} (h : Rep ρ w I J v x) (hx : oneV x = true) : v.oneCell' = true := by
  cases h with
  | g h => cases h <;> simp [oneV] at hx <;> rfl
  | agg => simp [oneV] at hx
  | tup => simp [oneV] at hx
  | ref i r v h hv =>
    unfold RI.sl at hv
    split at hv
    · rw [hv.1]; rfl
    · rw [hv]; rfl
  | sub i off len r v h hv =>
    obtain ⟨_, A, e, _⟩ := hv
    rw [e]; rfl
  | ptr => rfl
theorem Rep.cells {ρ : Nat → Option RI} {w : World} {I J : Nat → Prop} {v : Value} {x : V} (h : Rep ρ w I J v x) {ys : List V} (hx : cellsV x = some ys) :
    v.cells.size = ys.length ∧ (∀ (j : Nat) (y : V), ys[j]? = some y → Rep ρ w I J (v.cells.getD j undef) y) ∧ ∀ u ∈ v.cells.toList, u.oneCell' = true := by
  by_cases ha : ∃ cs, x = .agg cs
  · obtain ⟨cs, rfl⟩ := ha
    obtain ⟨a, rfl, h1, h2⟩ := Rep.inv_agg h
    simp only [cellsV] at hx
    split at hx
    · rename_i hall
      obtain rfl := Option.some.inj hx
      refine ⟨h1, h2, fun u hu => ?_⟩
      simp only [Value.cells] at hu
      obtain ⟨j, hj⟩ := List.getElem?_of_mem hu
      have hlt : j < a.size := by simpa using (List.getElem?_eq_some_iff.1 hj).1
      have hlt' : j < cs.length := by omega
      have h3 := h2 j _ (List.getElem?_eq_getElem hlt')
      have : a.getD j undef = u := by
        have : a[j]? = some u := by simpa using hj
        simp [Array.getD_eq_getD_getElem?, this]
      rw [this] at h3
      exact h3.oneCell ((List.all_eq_true.1 hall) _ (List.getElem_mem hlt'))
    · cases hx
  · have hone : oneV x = true ∧ ys = [x] := by
      cases x <;> simp_all [cellsV, oneV]
    obtain ⟨h1, rfl⟩ := hone
    have h2 := h.oneCell h1
    have hc : v.cells = #[v] := by cases v <;> simp_all [Value.oneCell', Value.cells]
    rw [hc]
    refine ⟨rfl, fun j y hy => ?_, fun u hu => ?_⟩
    · cases j with
      | zero => simp at hy; subst hy; exact h
      | succ j => simp at hy
    · simp at hu; subst hu; exact h2
theorem run_storeAt {t : TypeId} {n : Nat} (hs : szOf P t = some n) {w : World} {v : Value} (hv : v.cells.size = n) {g off tb : Nat} {cur : Array Value} (hg : w.heap[g]? = some (.cells cur tb (0, 0))) (hf : off + n ≤ cur.size) (h1 : ∀ u ∈ v.cells.toList, u.oneCell' = true) :
    (Instr.storeAt t (.pointer (some ⟨g, off, none⟩)) v).run P w = .ok () (w.setRow g (cur.toList.take off ++ v.cells.toList ++ cur.toList.drop (off + n)).toArray) := by
  have h := run_storeCells_at P g off tb v.cells.toList 0 cur w hg (by simpa [hv] using hf) h1
  simp only [Nat.add_zero, Array.length_toList, hv] at h
  simp [Instr.storeAt, Instr.sureAddr, storeVar, run_sz hs, hv, h]
def storeV (off : Nat) (ys cs : List V) : Option (List V) := if off + ys.length ≤ cs.length then some (cs.take off ++ ys ++ cs.drop (off + ys.length)) else none
theorem getD_splice {off : Nat} {vs : List Value} {cur : Array Value} (hf : off + vs.length ≤ cur.size) (j : Nat) : ((cur.toList.take off ++ vs ++ cur.toList.drop (off + vs.length)).toArray).getD j undef = if j < off then cur.getD j undef else if j < off + vs.length then vs.toArray.getD (j - off) undef else cur.getD j undef := by
  simp only [Array.getD_eq_getD_getElem?, List.getElem?_toArray, List.append_assoc, List.getElem?_append, List.length_take, List.getElem?_take, Array.length_toList, List.getElem?_drop, Nat.min_eq_left (show off ≤ cur.size by omega)]
  by_cases h1 : j < off
  · simp [h1]
  · by_cases h2 : j < off + vs.length
    · simp [h1, h2, show j - off < vs.length by omega]
    · simp [h1, h2, show ¬ j - off < vs.length by omega, show off + vs.length + (j - off - vs.length) = j by omega]
theorem rep_splice {ρ : Nat → Option RI} {w : World} {I J : Nat → Prop} {off : Nat} {ys cs cs' : List V} {vs : List Value} {cur : Array Value} (hcs : cur.size = cs.length) (hvs : vs.length = ys.length)
    (h1 : ∀ (j : Nat) (x : V), cs[j]? = some x → Rep ρ w I J (cur.getD j undef) x) (h2 : ∀ (j : Nat) (y : V), ys[j]? = some y → Rep ρ w I J (vs.toArray.getD j undef) y) (hs : storeV off ys cs = some cs') :
    cs'.length = cs.length ∧ ∀ (j : Nat) (x : V), cs'[j]? = some x → Rep ρ w I J (((cur.toList.take off ++ vs ++ cur.toList.drop (off + vs.length)).toArray).getD j undef) x := by
  unfold storeV at hs
  split at hs
  · rename_i hl
    obtain rfl := Option.some.inj hs
    refine ⟨by simp; omega, fun j x hx => ?_⟩
    rw [getD_splice (by omega)]
    rw [List.append_assoc, List.getElem?_append, List.length_take, Nat.min_eq_left (by omega)] at hx
    by_cases h3 : j < off
    · rw [if_pos h3] at hx ⊢
      rw [List.getElem?_take, if_pos h3] at hx
      exact h1 j x hx
    · rw [if_neg h3] at hx ⊢
      rw [List.getElem?_append] at hx
      by_cases h4 : j < off + vs.length
      · rw [if_pos (by omega)] at hx
        rw [if_pos h4]
        exact h2 _ x hx
      · rw [if_neg (by omega), List.getElem?_drop] at hx
        rw [if_neg h4]
        have : off + ys.length + (j - off - ys.length) = j := by omega
        rw [this] at hx
        exact h1 j x hx
  · cases hs
theorem Hold.boxset {G : Gh} {w : World} {ob ob' : Nat → Ob} (H : Hold G w ob) {i tb g : Nat} {cs cs' : List V} {r : RI} {cur cur' : Array Value} (hρ : G.ρ i = some r) (hr : r.g = some g) (hg : w.heap[g]? = some (.cells cur tb (0, 0))) (hF : ∀ b, G.F i b ↔ b = g)
    (hs : cur'.size = cs'.length) (hrep : ∀ (j : Nat) (x : V), cs'[j]? = some x → G.Rep w (cur'.getD j undef) x) (h1 : ob' i = .box tb cs') (h2 : ∀ k, k ≠ i → ob' k = ob k) : Hold G (w.setRow g cur') ob' ∧ Fr G w G (w.setRow g cur') := by
  refine Hold.step H rfl rfl rfl rfl rfl (by simp) (fun _ _ h => h) (fun k => k = i) (fun k hk => ⟨h2 k hk, rfl, rfl⟩) (fun b hb hf => setRow_other w g b cur' (fun e => hf i rfl ((hF b).2 e))) (fun LG L k hk => ?_) (fun k b hk h => ?_) (fun k b hk h => ?_) (fun k l b hk hl _ _ => by rw [hk, hl])
  · subst hk
    rw [h1, hρ]
    exact ⟨r, g, cur', rfl, hr, setRow_heap w g cur cur' tb (0, 0) hg, hs, fun j x hx => L _ _ (hrep j x hx), hF⟩
  · exact .inl ⟨k, hk, h⟩
  · simpa using H.flt k b h
theorem ok_store {o : Oper} {x y : Operand} {t : TypeId} {i off tb n : Nat} {σ : Sg} {cs cs' ys : List V} {v : V} (ho : o.op = .store t x y) (hd : o.dst = none) (hx : σ.ev x = .ptr i 0 off) (hy : σ.ev y = v) (hob : σ.ob i = .box tb cs)
    (hs : szOf P t = some n) (hc : cellsV v = some ys) (hn : ys.length = n) (hv : storeV off ys cs = some cs') : CoreOk P N o (opw x (.ptr i 0 off) ++ opw y v ++ [.o i (.box tb cs)]) [.o i (.box tb cs')] :=
  sto_ok hd (fun z hz => by simp at hz; exact ⟨_, _, hz⟩) fun G w σ' a H he hp => by
    obtain ⟨hp12, hp3⟩ := has_append.1 hp
    obtain ⟨hp1, hp2⟩ := has_append.1 hp12
    have h1 := he x
    rw [opw_ev hx hp1] at h1
    have h2 := he y
    rw [opw_ev hy hp2] at h2
    obtain ⟨r, g, e1, e2, e⟩ := Rep.inv_ptr h1
    obtain ⟨r', g', cur, f1, f2, f3, f4, f5, f6⟩ := box_of H (show σ'.ob i = .box tb cs from hp3.1)
    rw [e1] at f1
    obtain rfl := Option.some.inj f1
    rw [e2] at f2
    obtain rfl := Option.some.inj f2
    obtain ⟨c1, c2, c3⟩ := Rep.cells h2 hc
    have hfit : off + ys.length ≤ cs.length := by
      unfold storeV at hv
      split at hv
      · assumption
      · cases hv
    have ea : (⟨g, 0 * r.es + off, none⟩ : Addr) = ⟨g, off, none⟩ := by simp
    rw [ea] at e
    have hst := run_storeAt (P := P) hs (w := w) (v := a.eval y) (by omega) f3 (off := off) (by omega) c3
    obtain ⟨s1, s2⟩ := rep_splice (vs := (a.eval y).cells.toList) (off := off) f4 (by simpa using c1) f5 (by simpa using c2) hv
    have hlen : (a.eval y).cells.toList.length = n := by simp; omega
    rw [hlen] at s2
    refine ⟨_, G, by simp only [execOp, ho, e, Sem.run_bind, hst, Result.andThen_ok, Sem.run_pure], H.boxset (cs := cs) e1 e2 f3 f6 (ob' := (σ'.puts [.o i (.box tb cs')]).ob) (cs' := cs') ?_ s2 ?_ (fun k hk => ?_)⟩
    · simp; omega
    · simp [Sg.puts, Sg.put]
    · simp [Sg.puts, Sg.put, hk]
def Gh.new (G : Gh) (k : Nat) (r : RI) (g : Nat) : Gh where
  ρ := fun i => if i = k then some r else G.ρ i
  I := G.I
  J := G.J
  F := fun i b => if i = k then b = g else G.F i b
theorem Hold.free {G : Gh} {w : World} {ob : Nat → Ob} (H : Hold G w ob) {k : Nat} (hk : ob k = .free) : G.ρ k = none ∧ ∀ b, ¬ G.F k b := by
  have h := H.own k
  rw [hk] at h
  exact h
theorem Hold.new {G : Gh} {w : World} {ob ob' : Nat → Ob} (H : Hold G w ob) {k : Nat} (hk : ob k = .free) (cur : Array Value) (t : TypeId) (r : RI) (x : Ob) (h1 : ob' k = x) (h2 : ∀ i, i ≠ k → ob' i = ob i)
    (hx : (∀ v x, RepG w G.I G.J v x → RepG (w.alloc (.cells cur t)) G.I G.J v x) → (∀ v x, G.Rep w v x → (G.new k r w.heap.size).Rep (w.alloc (.cells cur t)) v x) → (w.alloc (.cells cur t)).heap[w.heap.size]? = some (.cells cur t (0, 0)) → (G.new k r w.heap.size).Own (w.alloc (.cells cur t)) (some r) (fun b => b = w.heap.size) x) :
    Hold (G.new k r w.heap.size) (w.alloc (.cells cur t)) ob' ∧ Fr G w (G.new k r w.heap.size) (w.alloc (.cells cur t)) := by
  obtain ⟨f1, f2⟩ := H.free hk
  refine Hold.step H rfl rfl rfl rfl rfl (by simp) (fun i r' h => ?_) (fun i => i = k) (fun i hi => ⟨h2 i hi, by simp [Gh.new, hi], by funext b; simp [Gh.new, hi]⟩) (fun b hb _ => heap_alloc_old w _ b hb) (fun LG L i hi => ?_) (fun i b hi h => ?_) (fun i b hi h => ?_) (fun i j b hi hj _ _ => by rw [hi, hj])
  · simp only [Gh.new]
    by_cases hi : i = k
    · subst hi; rw [f1] at h; cases h
    · rw [if_neg hi]; exact h
  · subst hi
    have := hx LG L (heap_alloc_new w _)
    rw [h1]
    simpa [Gh.new] using this
  · simp only [Gh.new, if_pos hi] at h
    exact .inr (by omega)
  · simp only [Gh.new, if_pos hi] at h
    simp; omega
theorem ok_box {o : Oper} {x : Operand} {t : TypeId} {d k : Nat} {σ : Sg} {v : V} {cs : List V} (ho : o.op = .box t x) (hd : o.dst = some d) (hn : d < N.n) (hx : σ.ev x = v) (hc : cellsV v = some cs) : CoreOk P N o (opw x v ++ [.o k .free]) ([.o k (.box t cs)] ++ [.t d (.ptr k 0 0)]) :=
  eff_ok hd hn (fun z hz => by simp at hz; exact ⟨_, _, hz⟩) fun G w σ' a H _ he hp => by
    obtain ⟨hp1, hp2⟩ := has_append.1 hp
    have h1 := he x
    rw [opw_ev hx hp1] at h1
    obtain ⟨c1, c2, c3⟩ := Rep.cells h1 hc
    refine ⟨.pointer (some ⟨w.heap.size, 0, none⟩), w.alloc (.cells (a.eval x).cells t), G.new k ⟨some w.heap.size, 0, 1, 0⟩ w.heap.size, ?_, ?_⟩
    · simp [execOp, ho, Instr.box, newVar, newRow]
    · obtain ⟨q1, q2⟩ := H.new (k := k) hp2.1 (a.eval x).cells t ⟨some w.heap.size, 0, 1, 0⟩ (.box t cs) (ob' := (σ'.puts [.o k (.box t cs)]).ob) (by simp [Sg.puts, Sg.put]) (fun i hi => by simp [Sg.puts, Sg.put, hi]) (fun LG L hh =>
        ⟨_, _, _, rfl, rfl, hh, c1, fun j y hy => L _ _ (c2 j y hy), fun b => Iff.rfl⟩)
      refine ⟨q1, q2, ?_⟩
      exact Rep.ptr k 0 0 ⟨some w.heap.size, 0, 1, 0⟩ w.heap.size (by simp [Gh.new]) rfl
def zeroCs (P : Program) (t : TypeId) : Option (List V) := ((P.info? t).bind (·.zero)).map fun z => z.cells.toList.map toV
theorem run_zero {t : TypeId} {cs : List V} (h : zeroCs P t = some cs) (w : World) : ∃ z, (zeroValue t).run P w = .ok z w ∧ cs = z.cells.toList.map toV := by
  unfold zeroCs at h
  obtain ⟨z, h1, rfl⟩ := Option.map_eq_some_iff.1 h
  obtain ⟨i, h2, h3⟩ := Option.bind_eq_some_iff.1 h1
  exact ⟨z, by simp [zeroValue, typeInfo, h2, h3], rfl⟩
theorem rep_toV (G : Gh) (w : World) (z : Array Value) : ∀ (j : Nat) (y : V), (z.toList.map toV)[j]? = some y → G.Rep w (z.getD j undef) y := by
  intro j y hy
  rw [List.getElem?_map] at hy
  obtain ⟨u, hu, rfl⟩ := Option.map_eq_some_iff.1 hy
  have : z.getD j undef = u := by
    have : z[j]? = some u := by simpa using hu
    simp [Array.getD_eq_getD_getElem?, this]
  rw [this]
  exact toV_rep G w u
theorem ok_alloc {o : Oper} {t : TypeId} {d k : Nat} {cs : List V} (ho : o.op = .alloc t) (hd : o.dst = some d) (hn : d < N.n) (hz : zeroCs P t = some cs) : CoreOk P N o [.o k .free] ([.o k (.box t cs)] ++ [.t d (.ptr k 0 0)]) :=
  eff_ok hd hn (fun z hz => by simp at hz; exact ⟨_, _, hz⟩) fun G w σ' a H _ he hp => by
    obtain ⟨z, hz1, rfl⟩ := run_zero hz w
    refine ⟨.pointer (some ⟨w.heap.size, 0, none⟩), w.alloc (.cells z.cells t), G.new k ⟨some w.heap.size, 0, 1, 0⟩ w.heap.size, ?_, ?_⟩
    · simp [execOp, ho, Instr.alloc, hz1, newVar, newRow]
    · obtain ⟨q1, q2⟩ := H.new (k := k) hp.1 z.cells t ⟨some w.heap.size, 0, 1, 0⟩ (.box t (z.cells.toList.map toV)) (ob' := (σ'.puts [.o k (.box t (z.cells.toList.map toV))]).ob) (by simp [Sg.puts, Sg.put]) (fun i hi => by simp [Sg.puts, Sg.put, hi]) (fun LG L hh =>
        ⟨_, _, _, rfl, rfl, hh, by simp, rep_toV _ _ _, fun b => Iff.rfl⟩)
      refine ⟨q1, q2, ?_⟩
      exact Rep.ptr k 0 0 ⟨some w.heap.size, 0, 1, 0⟩ w.heap.size (by simp [Gh.new]) rfl
def fillV (place : Nat → Option (Nat × Nat)) (cells : List V) : List (Nat × V) → Option (List V)
  | [] => some cells
  | (i, v) :: rest =>
    match place i, cellsV v with
    | some (off, size), some ys => if ys.length = size then (storeV off ys cells).bind fun c => fillV place c rest else none
    | _, _ => none
theorem foldl_set (off : Nat) : ∀ (l : List Value) (j0 : Nat) (cs : Array Value), (((l.zipIdx j0).foldl (fun cs (c, j) => cs.setIfInBounds (off + j) c) cs).size = cs.size) ∧
    ∀ j, off + j0 + l.length ≤ cs.size → ((l.zipIdx j0).foldl (fun cs (c, j) => cs.setIfInBounds (off + j) c) cs).getD j undef = if off + j0 ≤ j ∧ j < off + j0 + l.length then l.getD (j - (off + j0)) undef else cs.getD j undef
  | [], j0, cs => ⟨rfl, fun j _ => by simp; omega⟩
  | c :: l, j0, cs => by
    simp only [List.zipIdx_cons, List.foldl_cons]
    obtain ⟨h1, h2⟩ := foldl_set off l (j0 + 1) (cs.setIfInBounds (off + j0) c)
    refine ⟨by rw [h1]; simp, fun j hj => ?_⟩
    simp only [List.length_cons] at hj
    rw [h2 j (by simp; omega), getD_set _ _ _ _ _ (by omega)]
    simp only [List.length_cons]
    by_cases a : j = off + j0
    · subst a
      rw [if_neg (by omega), if_pos rfl, if_pos (by omega), Nat.sub_self]
      rfl
    · rw [if_neg a]
      by_cases b : off + (j0 + 1) ≤ j ∧ j < off + (j0 + 1) + l.length
      · rw [if_pos b, if_pos (by omega), show j - (off + j0) = (j - (off + (j0 + 1))) + 1 by omega]
        rfl
      · rw [if_neg b, if_neg (by omega)]
theorem storeV_get {off : Nat} {ys cs cs' : List V} (h : storeV off ys cs = some cs') : cs'.length = cs.length ∧ off + ys.length ≤ cs.length ∧ ∀ j, cs'[j]? = if off ≤ j ∧ j < off + ys.length then ys[j - off]? else cs[j]? := by
  unfold storeV at h
  split at h
  · rename_i hl
    obtain rfl := Option.some.inj h
    refine ⟨by simp; omega, hl, fun j => ?_⟩
    rw [List.append_assoc, List.getElem?_append, List.length_take, Nat.min_eq_left (by omega)]
    by_cases h1 : j < off
    · rw [if_pos h1, if_neg (by omega), List.getElem?_take, if_pos h1]
    · rw [if_neg h1, List.getElem?_append]
      by_cases h2 : j - off < ys.length
      · rw [if_pos h2, if_pos (by omega)]
      · rw [if_neg h2, if_neg (by omega), List.getElem?_drop]
        congr 1
        omega
  · cases h
def PartsRep (G : Gh) (w : World) : List (Nat × Value) → List (Nat × V) → Prop
  | [], [] => True
  | (i, v) :: l, (j, x) :: k => i = j ∧ G.Rep w v x ∧ PartsRep G w l k
  | _, _ => False
theorem fill_of {G : Gh} {w : World} {place : Nat → Option (Nat × Nat)} : ∀ (ps : List (Nat × Value)) (vs : List (Nat × V)) (cells : Array Value) (cs cs' : List V), PartsRep G w ps vs → cells.size = cs.length →
    (∀ (j : Nat) (y : V), cs[j]? = some y → G.Rep w (cells.getD j undef) y) → fillV place cs vs = some cs' →
    ∃ cells', Instr.fill place cells ps = some cells' ∧ cells'.size = cs'.length ∧ ∀ (j : Nat) (y : V), cs'[j]? = some y → G.Rep w (cells'.getD j undef) y
  | [], [], cells, cs, cs', _, hs, hr, h => by
    obtain rfl := Option.some.inj h
    exact ⟨cells, rfl, hs, hr⟩
  | (i, v) :: ps, (j, x) :: vs, cells, cs, cs', hp, hs, hr, h => by
    obtain ⟨rfl, hv, hp⟩ := hp
    simp only [fillV] at h
    split at h
    · rename_i off size ys hpl hc
      split at h
      · rename_i hlen
        obtain ⟨c1, hst, h⟩ := Option.bind_eq_some_iff.1 h
        obtain ⟨s1, s2, s3⟩ := storeV_get hst
        obtain ⟨q1, q2, _⟩ := Rep.cells hv hc
        have hf := foldl_set off v.cells.toList 0 cells
        simp only [Instr.fill, hpl]
        rw [if_neg (by simp; omega)]
        have hconv : (v.cells.zipIdx.foldl (fun cs (c, j) => cs.setIfInBounds (off + j) c) cells) = ((v.cells.toList.zipIdx 0).foldl (fun cs (c, j) => cs.setIfInBounds (off + j) c) cells) := by
          rw [← Array.foldl_toList]
          simp
        rw [hconv]
        refine fill_of ps vs _ c1 cs' hp (by rw [hf.1]; omega) (fun j y hy => ?_) h
        rw [hf.2 j (by simp; omega)]
        rw [s3] at hy
        simp only [Nat.add_zero, Array.length_toList] at *
        by_cases hj : off ≤ j ∧ j < off + ys.length
        · rw [if_pos hj] at hy
          rw [if_pos (by omega)]
          have := q2 _ y hy
          show Sy.Rep _ _ _ _ _ _
          simpa [Array.getD_eq_getD_getElem?, List.getD_eq_getElem?_getD] using this
        · rw [if_neg hj] at hy
          rw [if_neg (by omega)]
          exact hr j y hy
      · cases h
    · cases h
  | [], _ :: _, _, _, _, h, _, _, _ => h.elim
  | _ :: _, [], _, _, _, h, _, _, _ => h.elim
def placesOf (P : Program) (t : TypeId) : Option (List (Nat × Nat)) :=
  match P.underlying t with
  | some (.struct fields) => fields.toList.mapM fun f => (P.info? f.type).map fun i => (f.offset, i.size)
  | _ => none
def partsW : List (Nat × Operand) → List (Nat × V) → List W
  | (_, x) :: l, (_, v) :: k => opw x v ++ partsW l k
  | _, _ => []
def partsEv (σ : Sg) : List (Nat × Operand) → List (Nat × V)
  | [] => []
  | (i, x) :: l => (i, σ.ev x) :: partsEv σ l
theorem partsW_rep {G : Gh} {w : World} {σ σ' : Sg} {a : Act} (he : ∀ y, G.Rep w (a.eval y) (σ'.ev y)) : ∀ (l : List (Nat × Operand)), σ'.has (partsW l (partsEv σ l)) → PartsRep G w (l.map fun (i, x) => (i, a.eval x)) (partsEv σ l)
  | [], _ => trivial
  | (i, x) :: l, h => by
    simp only [partsEv, partsW] at h
    obtain ⟨h1, h2⟩ := has_append.1 h
    refine ⟨rfl, ?_, partsW_rep he l h2⟩
    have := he x
    rwa [opw_ev rfl h1] at this
theorem partsW_has (σ : Sg) : ∀ (l : List (Nat × Operand)), σ.has (partsW l (partsEv σ l))
  | [] => trivial
  | (i, x) :: l => has_append.2 ⟨opw_has rfl, partsW_has σ l⟩
theorem ok_build {o : Oper} {t : TypeId} {parts : Array (Nat × Operand)} {d : Nat} {σ : Sg} {zs cs : List V} {places : List (Nat × Nat)} {vs : List (Nat × V)} (ho : o.op = .build t parts) (hd : o.dst = some d) (hn : d < N.n) (hvs : vs = partsEv σ parts.toList)
    (hz : zeroCs P t = some zs) (hp : placesOf P t = some places) (hf : fillV (places[·]?) zs vs = some cs) : CoreOk P N o (partsW parts.toList vs) [.t d (.agg cs)] :=
  val_ok hd hn fun G w σ' a H he hpre => by
    subst hvs
    have hr := partsW_rep he parts.toList hpre
    unfold zeroCs at hz
    obtain ⟨z, h1, rfl⟩ := Option.map_eq_some_iff.1 hz
    obtain ⟨it, h2, h3⟩ := Option.bind_eq_some_iff.1 h1
    obtain ⟨cells, f1, f2, f3⟩ := fill_of (place := (places[·]?)) _ _ z.cells _ cs hr (by simp) (rep_toV G w z.cells) hf
    unfold placesOf at hp
    split at hp
    · rename_i fields hu
      have hb : P.built t (parts.map fun (i, x) => (i, a.eval x)).toList = some cells := by
        unfold Program.built
        simp only [h2, hu, h3, hp]
        rw [Array.toList_map]
        have : (fun x : Nat => places.toArray[x]?) = (fun x : Nat => places[x]?) := by funext x; simp
        rw [this]
        exact f1
      refine ⟨.agg cells, ?_, .agg cells cs f2 f3⟩
      simp only [execOp, ho, Sem.run_bind, run_build w t _ cells hb, Result.andThen_ok, Sem.run_pure]
    · cases hp
end
end Go.Sy

