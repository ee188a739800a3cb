/- The rules of single operations, part 3: slices. -/
import Derived.Test.YtocjgmdfocaamaaGreatSRecsTellE
set_option linter.unusedVariables false
set_option linter.unusedSimpArgs false
namespace Go.Sy
section
variable {P : Program} {N : Cx} {ops : Array Oper}
theorem arr_of {G : Gh} {w : World} {ob : Nat → Ob} (H : Hold G w ob) {i e es : Nat} {xs : List V} (hob : ob i = .arr e es xs) :
    ∃ r, G.ρ i = some r ∧ r.es = es ∧ r.len = xs.length ∧ ((r.g = none ∧ xs = [] ∧ (∀ b, ¬ G.F i b) ∧ r.cap = 0) ∨ ∃ g cur M, r.g = some g ∧ Arr w G.I G.J M (G.F i) g r.cap cur e es xs) := by
  have h := H.own i
  rw [hob] at h
  exact h
theorem elemTy {t e : Nat} (hu : P.underlying t = some (.slice e)) {n : Nat} (hs : szOf P e = some n) {w : World} {A : Addr} {len c : Nat} {k : IntKind} {i : Int} (h0 : 0 ≤ i) (h1 : i < len) :
    (Instr.indexAt t (.slice (some A) len c) (.int k i)).run P w = .ok (.pointer (some (A.add (i.toNat * n)))) w := by
  simp [Instr.indexAt, asIntOf, run_underlying hu, run_sz hs, h0, h1]
theorem ok_indexSl {o : Oper} {x y : Operand} {t e es d : Nat} {σ : Sg} {p : Bool} {xs : List V} {k : IntKind} {i : Int} (ho : o.op = .indexAddr t x y) (hd : o.dst = some d) (hn : d < N.n) (hu : P.underlying t = some (.slice e)) (hs : szOf P e = some es)
    (hx : σ.ev x = .sl p es xs) (hy : σ.ev y = .int k i) (h0 : 0 ≤ i) (h1 : i.toNat < xs.length) : CoreOk P N o (opw x (.sl p es xs) ++ opw y (.int k i)) [.t d (.vp p es xs i.toNat 0)] :=
  val_ok hd hn fun G w σ' a H he hp => by
    obtain ⟨hp1, hp2⟩ := has_append.1 hp
    have g1 := he x
    rw [opw_ev hx hp1] at g1
    have g2 := he y
    rw [opw_ev hy hp2] at g2
    have g3 := Rep.inv_sl g1
    have hz : ∃ z, a.eval x = z := ⟨_, rfl⟩
    obtain ⟨z, hz⟩ := hz
    rw [hz] at g3
    cases g3 with
    | slE A c => simp at h1
    | sl ad m c _ _ _ u hm hc hmx hp' hl hu' ho' hq' hr =>
      subst hm
      refine ⟨_, ?_, .g (.vp ad p es xs i.toNat 0 u hp' hl hu' ho' hq' hr)⟩
      simp only [execOp, ho, hz, Rep.inv_int g2, Sem.run_bind, elemTy hu hs h0 (show i < xs.length by omega), Result.andThen_ok, Sem.run_pure, Nat.add_zero]
theorem ok_indexRef {o : Oper} {x y : Operand} {t e es d i : Nat} {σ : Sg} {xs : List V} {k : IntKind} {n : Int} (ho : o.op = .indexAddr t x y) (hd : o.dst = some d) (hn : d < N.n) (hu : P.underlying t = some (.slice e)) (hs : szOf P e = some es)
    (hx : σ.ev x = .ref i) (hob : σ.ob i = .arr e es xs) (hy : σ.ev y = .int k n) (h0 : 0 ≤ n) (h1 : n.toNat < xs.length) : CoreOk P N o (opw x (.ref i) ++ opw y (.int k n) ++ [.o i (.arr e es xs)]) [.t d (.ptr i n.toNat 0)] :=
  val_ok hd hn fun G w σ' a H he hp => by
    obtain ⟨hp12, hp3⟩ := has_append.1 hp
    obtain ⟨hp1, hp2⟩ := has_append.1 hp12
    have g1 := he x
    rw [opw_ev hx hp1] at g1
    have g2 := he y
    rw [opw_ev hy hp2] at g2
    obtain ⟨r, e1, e2⟩ := Rep.inv_ref g1
    obtain ⟨r', f1, f2, f3, f4⟩ := arr_of H (show σ'.ob i = .arr e es xs from hp3.1)
    rw [e1] at f1
    obtain rfl := Option.some.inj f1
    rcases f4 with ⟨f4, f5, _⟩ | ⟨g, cur, M, f4, f5⟩
    · subst f5; simp at h1
    · unfold RI.sl at e2
      rw [f4] at e2
      simp only at e2
      refine ⟨_, ?_, .ptr i n.toNat 0 r g e1 f4⟩
      rw [f2]
      simp only [execOp, ho, e2, Rep.inv_int g2, Sem.run_bind, elemTy hu hs h0 (show n < r.len by omega), Result.andThen_ok, Sem.run_pure, add_lit, Nat.zero_add, Nat.add_zero]
def plain : V → Bool
  | .own .. => false
  | _ => true
theorem RepN.plain {w : World} {I J : Nat → Prop} {M : Nat → Prop} {v : Value} {x : V} (h : RepN w I J M v x) (hx : plain x = true) : RepG w I J v x ∧ ∀ b, ¬ M b := by
  cases x <;> simp [Sy.plain] at hx <;> exact h
theorem idx_lt {k j es len cap : Nat} (h1 : k < len) (h2 : len ≤ cap) (h3 : j < es) : k * es + j < cap * es := by
  have : (k + 1) * es ≤ cap * es := Nat.mul_le_mul_right _ (by omega)
  rw [Nat.add_mul] at this
  omega
theorem ok_loadEl {o : Oper} {x : Operand} {t : TypeId} {d i e es k off n : Nat} {b : Bool} {σ : Sg} {xs : List V} {y v : V} (ho : o.op = .load t x) (hd : o.dst = some d) (hn : d < N.n) (hx : σ.ev x = .ptr i k off) (hob : σ.ob i = .arr e es xs) (hy : xs[k]? = some y)
    (hpl : (cl y).all plain = true) (hA : isA P t = some b) (hs : szOf P t = some n) (hv : loadV b n off (cl y) = some v) : CoreOk P N o (opw x (.ptr i k off) ++ [.o i (.arr e es xs)]) [.t d v] :=
  val_ok hd hn fun G w σ' a H he hp => by
    obtain ⟨hp1, hp2⟩ := has_append.1 hp
    have h1 := he x
    rw [opw_ev hx hp1] at h1
    obtain ⟨r, g, e1, e2, e3⟩ := Rep.inv_ptr h1
    obtain ⟨r', f1, f2, f3, f4⟩ := arr_of H (show σ'.ob i = .arr e es xs from hp2.1)
    rw [e1] at f1
    obtain rfl := Option.some.inj f1
    rcases f4 with ⟨f4, f5, _⟩ | ⟨g', cur, M, f4, f5⟩
    · subst f5; simp at hy
    · rw [e2] at f4
      obtain rfl := Option.some.inj f4
      rw [f2] at e3
      have hk : k < xs.length := (List.getElem?_eq_some_iff.1 hy).1
      obtain ⟨z, h3, h4⟩ := load_of hA hs (G := G) (w := w) (ad := ⟨g, k * es, none⟩) (off := off) (cs := cl y) (fun j => cur.getD (k * es + j) undef) (fun j x hx => by
        have hj : j < es := by rw [← f5.hl k y hy]; exact (List.getElem?_eq_some_iff.1 hx).1
        refine ⟨?_, .g (RepN.plain (f5.rep k y hy j x hx) ((List.all_eq_true.1 hpl) _ (List.mem_of_getElem? hx))).1⟩
        rw [add_lit, cell_of_row w g _ cur e (0, 0) f5.heap]
        have : k * es + j < cur.size := by rw [f5.size]; exact idx_lt hk f5.le hj
        simp [Array.getD, this]) hv
      rw [add_lit] at h3
      refine ⟨z, ?_, h4⟩
      simp only [execOp, ho, e3, Sem.run_bind, h3, Result.andThen_ok, Sem.run_pure]
theorem Rep.ground {ρ : Nat → Option RI} {w : World} {I J : Nat → Prop} {v : Value} {x : V} (h : Rep ρ w I J v x) (hx : gV x = true) : RepG w I J v x := by
  cases h with
  | g h => exact h
  | agg => simp [gV] at hx
  | tup => simp [gV] at hx
  | ref => simp [gV] at hx
  | sub => simp [gV] at hx
  | ptr => simp [gV] at hx
def putEl (es off : Nat) (ys : List V) (y : V) : Option V :=
  match es with
  | 1 => match y, ys with
    | .agg _, _ => none
    | _, [z] => if off = 0 then some z else none
    | _, _ => none
  | _ => match y with
    | .agg cs => (storeV off ys cs).map .agg
    | _ => none
theorem putEl_cl {es off : Nat} {ys : List V} {y y' : V} (h : putEl es off ys y = some y') (hl : (cl y).length = es) (hg : ys.all gV = true) : (cl y').length = es ∧ off + ys.length ≤ es ∧ ∀ j : Nat, (cl y')[j]? = if off ≤ j ∧ j < off + ys.length then ys[j - off]? else (cl y)[j]? := by
  unfold putEl at h
  split at h
  · split at h
    · cases h
    · rename_i z _
      split at h
      · rename_i h0
        obtain rfl := Option.some.inj h
        subst h0
        simp only [List.all_cons, List.all_nil, Bool.and_true] at hg
        have hz : cl z = [z] := by cases z <;> simp [gV] at hg <;> rfl
        have hy : ∃ q, cl y = [q] := by
          cases hq : cl y with
          | nil => rw [hq] at hl; simp at hl
          | cons q l =>
            rw [hq] at hl
            simp at hl
            exact ⟨q, by rw [hl]⟩
        obtain ⟨q, hy⟩ := hy
        rw [hz, hy]
        refine ⟨rfl, by simp, fun j => ?_⟩
        cases j with
        | zero => simp
        | succ j => simp
      · cases h
    · cases h
  · split at h
    · rename_i cs
      obtain ⟨c1, hst, rfl⟩ := Option.map_eq_some_iff.1 h
      obtain ⟨s1, s2, s3⟩ := storeV_get hst
      simp only [cl] at hl ⊢
      exact ⟨by omega, by omega, s3⟩
    · cases h
theorem ok_storeEl {o : Oper} {x y : Operand} {t : TypeId} {i e es k off n : Nat} {σ : Sg} {xs xs' ys : List V} {v q q' : V} (ho : o.op = .store t x y) (hd : o.dst = none) (hx : σ.ev x = .ptr i k off) (hy : σ.ev y = v) (hob : σ.ob i = .arr e es xs)
    (hs : szOf P t = some n) (hc : cellsV v = some ys) (hg : ys.all gV = true) (hn : ys.length = n) (hq : xs[k]? = some q) (hpl : (((cl q).drop off).take n).all plain = true) (hq' : putEl es off ys q = some q') (hxs : xs' = xs.set k q') :
    CoreOk P N o (opw x (.ptr i k off) ++ opw y v ++ [.o i (.arr e es xs)]) [.o i (.arr e es xs')] :=
  sto_ok hd (fun z hz => by simp at hz; exact ⟨_, _, hz⟩) fun G w σ' a H he hp => by
    subst hxs
    obtain ⟨hp12, hp3⟩ := has_append.1 hp
    obtain ⟨hp1, hp2⟩ := has_append.1 hp12
    have h1 := he x
    rw [opw_ev hx hp1] at h1
    have h2 := he y
    rw [opw_ev hy hp2] at h2
    obtain ⟨r, g, e1, e2, e3⟩ := Rep.inv_ptr h1
    obtain ⟨r', f1, f2, f3, f4⟩ := arr_of H (show σ'.ob i = .arr e es xs from hp3.1)
    rw [e1] at f1
    obtain rfl := Option.some.inj f1
    rcases f4 with ⟨f4, f5, _⟩ | ⟨g', cur, M, f4, f5⟩
    · subst f5; simp at hq
    rw [e2] at f4
    obtain rfl := Option.some.inj f4
    rw [f2] at e3
    have hk : k < xs.length := (List.getElem?_eq_some_iff.1 hq).1
    obtain ⟨p1, p2, p3⟩ := putEl_cl hq' (f5.hl k q hq) hg
    obtain ⟨c1, c2, c3⟩ := Rep.cells h2 hc
    have hcap := Nat.mul_le_mul_right es f5.le
    have hkk : (k + 1) * es ≤ xs.length * es := Nat.mul_le_mul_right _ (by omega)
    rw [Nat.add_mul] at hkk
    have hst := run_storeAt (P := P) hs (w := w) (v := a.eval y) (by omega) f5.heap (off := k * es + off) (by rw [f5.size]; omega) c3
    have hlen : (a.eval y).cells.toList.length = n := by simp; omega
    have hgd := fun j => getD_splice (off := k * es + off) (vs := (a.eval y).cells.toList) (cur := cur) (by rw [f5.size, hlen]; omega) j
    rw [hlen] at hgd
    generalize hcur' : (cur.toList.take (k * es + off) ++ (a.eval y).cells.toList ++ cur.toList.drop (k * es + off + n)).toArray = cur' at hst hgd
    refine ⟨w.setRow g cur', G, by simp only [execOp, ho, e3, Sem.run_bind, hst, Result.andThen_ok, Sem.run_pure], ?_⟩
    have hsz' : cur'.size = cur.size := by rw [← hcur']; simp [f5.size]; omega
    refine Hold.step H rfl rfl rfl rfl rfl (by simp) (fun _ _ h => h) (fun l => l = i) (fun l (hl : ¬ l = i) => ⟨by simp [Sg.puts, Sg.put, hl], rfl, rfl⟩) (fun b hb hf => setRow_other w g b cur' (fun e => hf i rfl ((f5.fo b).2 (.inl e)))) (fun LG L l hl => ?_) (fun l b hl h => .inl ⟨l, hl, h⟩) (fun l b hl h => by simpa using H.flt l b h) (fun l l' b hl hl' _ _ => by rw [hl, hl'])
    subst hl
    have hob' : (σ'.puts [W.o l (Ob.arr e es (xs.set k q'))]).ob l = .arr e es (xs.set k q') := by simp [Sg.puts, Sg.put]
    rw [hob', e1]
    refine ⟨r, rfl, f2, by simpa using f3, .inr ⟨g, cur', M, e2, ?_⟩⟩
    have hno : ∀ j, off ≤ j → j < off + n → ∀ b, ¬ M k j b := by
      intro j hj1 hj2 b hb
      obtain ⟨x1, y1, hx1, hy1⟩ := f5.nb k j b hb
      rw [hq] at hx1
      obtain rfl := Option.some.inj hx1
      refine (RepN.plain (f5.rep k q hq j y1 hy1) ((List.all_eq_true.1 hpl) _ ?_)).2 b hb
      refine List.mem_of_getElem? (i := j - off) ?_
      rw [List.getElem?_take, if_pos (by omega), List.getElem?_drop, show off + (j - off) = j by omega]
      exact hy1
    have hidx : ∀ k' j, k' < xs.length → j < es → k' ≠ k → ¬ (k * es + off ≤ k' * es + j ∧ k' * es + j < k * es + off + n) := by
      intro k' j h1 h2 h3
      rcases Nat.lt_or_gt_of_ne h3 with h4 | h4
      · have : (k' + 1) * es ≤ k * es := Nat.mul_le_mul_right _ (by omega)
        rw [Nat.add_mul] at this
        omega
      · have : (k + 1) * es ≤ k' * es := Nat.mul_le_mul_right _ (by omega)
        rw [Nat.add_mul] at this
        omega
    refine ⟨setRow_heap w g cur cur' e (0, 0) f5.heap, by rw [hsz']; exact f5.size, by simpa using f5.le, f5.max, fun k' x' hx' => ?_, fun j hj => ?_, fun x' hx' => ?_, fun k' x' hx' j y' hy' => ?_, f5.fo, f5.ng, f5.nd, fun k' j b h => ?_⟩
    · rw [List.getElem?_set] at hx'
      by_cases hkk' : k = k'
      · rw [if_pos hkk', if_pos (by omega)] at hx'
        obtain rfl := Option.some.inj hx'; exact p1
      · rw [if_neg hkk'] at hx'
        exact f5.hl k' x' hx'
    · rw [List.length_set] at hj
      rw [hgd]
      split
      · exact f5.one j hj
      · split
        · rename_i hj1 hj2
          have hm : (a.eval y).cells.toList[j - (k * es + off)]? = some ((a.eval y).cells.toList.toArray.getD (j - (k * es + off)) undef) := by
            have : j - (k * es + off) < (a.eval y).cells.size := by omega
            simp [Array.getD, this]
          exact c3 _ (List.mem_of_getElem? hm)
        · exact f5.one j hj
    · rcases List.mem_or_eq_of_mem_set hx' with hx' | rfl
      · exact f5.gr x' hx'
      · rw [List.all_eq_true]
        intro z hz
        obtain ⟨j, hj⟩ := List.getElem?_of_mem hz
        rw [p3] at hj
        split at hj
        · have := (List.all_eq_true.1 hg) z (List.mem_of_getElem? hj)
          cases z <;> simp_all [gO, gV]
        · exact (List.all_eq_true.1 (f5.gr q (List.mem_of_getElem? hq))) z (List.mem_of_getElem? hj)
    · rw [List.getElem?_set] at hx'
      by_cases hkk' : k = k'
      · subst hkk'
        rw [if_pos rfl, if_pos hk] at hx'
        obtain rfl := Option.some.inj hx'
        rw [p3] at hy'
        by_cases hj : off ≤ j ∧ j < off + ys.length
        · rw [if_pos hj] at hy'
          rw [hgd, if_neg (by omega), if_pos (by omega)]
          have hgy : gV y' = true := (List.all_eq_true.1 hg) _ (List.mem_of_getElem? hy')
          have h5 := c2 _ y' hy'
          have h6 : (a.eval y).cells.toList.toArray.getD (k * es + j - (k * es + off)) undef = (a.eval y).cells.getD (j - off) undef := by
            rw [show k * es + j - (k * es + off) = j - off by omega]
          rw [h6]
          have h7 := LG _ _ (Rep.ground h5 hgy)
          have h8 := hno j hj.1 (by omega)
          cases y' <;> simp [gV] at hgy <;> exact ⟨h7, h8⟩
        · rw [if_neg hj] at hy'
          have h5 := (f5.rep k q hq j y' hy').lift LG (fun b hb => setRow_other w g b cur' (fun e => by subst e; exact f5.ng _ _ hb))
          have hjes : j < es := by rw [← f5.hl k q hq]; exact (List.getElem?_eq_some_iff.1 hy').1
          rw [hgd]
          by_cases h7 : k * es + j < k * es + off
          · rw [if_pos h7]; exact h5
          · rw [if_neg h7, if_neg (by omega)]; exact h5
      · rw [if_neg hkk'] at hx'
        have hk' : k' < xs.length := (List.getElem?_eq_some_iff.1 hx').1
        have hjes : j < es := by rw [← f5.hl k' x' hx']; exact (List.getElem?_eq_some_iff.1 hy').1
        have h5 := (f5.rep k' x' hx' j y' hy').lift LG (fun b hb => setRow_other w g b cur' (fun e => by subst e; exact f5.ng _ _ hb))
        have h6 := hidx k' j hk' hjes (Ne.symm hkk')
        rw [hgd]
        by_cases h7 : k' * es + j < k * es + off
        · rw [if_pos h7]; exact h5
        · rw [if_neg h7, if_neg (by omega)]; exact h5
    · obtain ⟨x1, y1, hx1, hy1⟩ := f5.nb k' j b h
      by_cases hkk' : k = k'
      · subst hkk'
        rw [hq] at hx1
        obtain rfl := Option.some.inj hx1
        refine ⟨q', y1, by simp [hk], ?_⟩
        rw [p3, if_neg (fun hj => hno j hj.1 (by omega) b h)]
        exact hy1
      · exact ⟨x1, y1, by rw [List.getElem?_set, if_neg hkk']; exact hx1, hy1⟩
end
end Go.Sy

