/- Bytes made of a string, to be written: an object of its own kind. -/
import Derived.Test.YtdpcdcogbmkffaaSParcelSo
set_option linter.unusedVariables false
set_option linter.unusedSimpArgs false
namespace Go.Sy
section
variable {P : Program} {N : Cx}
theorem raw_of {G : Gh} {w : World} {ob : Nat → Ob} (H : Hold G w ob) {i e : Nat} {l : List UInt8} (hob : ob i = .raw e l) :
    ∃ r g cur fz, G.ρ i = some r ∧ r.es = 1 ∧ r.len = l.length ∧ r.g = some g ∧ w.heap[g]? = some (.cells cur e fz) ∧ cur.size ≤ fz.1 ∧ l.length ≤ cur.size ∧ (∀ (j : Nat) (b : UInt8), l[j]? = some b → cur.getD j undef = .int .u8 (b.toNat : Int)) ∧ ∀ b, G.F i b ↔ b = g := by
  have h := H.own i
  rw [hob] at h
  exact h
theorem ok_s2bO {o : Oper} {x : Operand} {s t e d k : Nat} {σ : Sg} {b : ByteArray} (hs : P.underlying s = some .string) (ht : P.underlying t = some (.slice e)) (he : P.underlying e = some (.int .u8)) (ho : o.op = .convert s t x) (hd : o.dst = some d) (hn : d < N.n)
    (hx : σ.ev x = .str b) : CoreOk P N o (opw x (.str b) ++ [.o k .free]) ([.o k (.raw e b.data.toList)] ++ [.t d (.ref k)]) :=
  eff_ok hd hn (fun z hz => by simp at hz; exact ⟨_, _, hz⟩) fun G w σ' a H _ hev hp => by
    obtain ⟨hp1, hp2⟩ := has_append.1 hp
    have h1 := hev x
    rw [opw_ev hx hp1] at h1
    have e1 := Rep.inv_str h1
    generalize hc : grownCap w b.size 0 e = c
    have hge : b.size ≤ c := hc ▸ grownCap_ge w b.size 0 e
    generalize hro : bytesRow b c = row
    have hrow : row.size = c := by rw [← hro]; simp [bytesRow]; have : b.data.size = b.size := rfl; omega
    have hrun := run_bytes_of_string (P := P) w s t e b hs ht he
    rw [hc, hro] at hrun
    generalize hw : w.drew.alloc (.cells row e (row.size, row.size + 1)) = w' at hrun
    have hsz : w'.heap.size = w.heap.size + 1 := by rw [← hw]; simp
    have hblk : ∀ k, k < w.heap.size → w'.heap[k]? = w.heap[k]? := by
      intro k hk
      rw [← hw]
      show (w.heap.push _)[k]? = _
      rw [Array.getElem?_push, if_neg (by omega)]
    have hnew : w'.heap[w.heap.size]? = some (.cells row e (row.size, row.size + 1)) := by
      rw [← hw]
      show (w.heap.push _)[w.heap.size]? = _
      simp
    obtain ⟨f1, f2⟩ := H.free hp2.1
    have S := Hold.step (G' := G.new k ⟨some w.heap.size, c, 1, b.size⟩ w.heap.size) (w' := w') (ob' := (σ'.puts [.o k (.raw e b.data.toList)]).ob) H rfl rfl (by rw [← hw]; rfl) (by rw [← hw]; rfl) (by rw [← hw]; rfl) (by omega) (fun i r' h => by
        simp only [Gh.new]
        by_cases hi : i = k
        · subst hi; rw [f1] at h; cases h
        · rw [if_neg hi]; exact h) (fun i => i = k) (fun i hi => ⟨by simp [Sg.puts, Sg.put, hi], by simp [Gh.new, hi], by funext b; simp [Gh.new, hi]⟩) (fun b hb _ => hblk b hb) (fun LG L i hi => by
        subst hi
        have hob : (σ'.puts [.o i (.raw e b.data.toList)]).ob i = .raw e b.data.toList := by simp [Sg.puts, Sg.put]
        rw [hob]
        refine ⟨⟨some w.heap.size, c, 1, b.size⟩, w.heap.size, row, (row.size, row.size + 1), by simp [Gh.new], rfl, ?_, rfl, hnew, Nat.le_refl _, ?_, fun j u hu => ?_, fun q => by simp [Gh.new]⟩
        · show b.size = _
          rw [Array.length_toList]; rfl
        · rw [Array.length_toList, hrow]; exact hge
        · have hk : j < b.size := by
            have := (List.getElem?_eq_some_iff.1 hu).1
            simpa using this
          rw [← hro]
          have h2 : b.data[j]? = some u := by simpa using hu
          have h3 : j < b.data.size := hk
          have h4 : b.data[j] = u := by rw [Array.getElem?_eq_getElem h3] at h2; exact Option.some.inj h2
          simp [bytesRow, Array.getD_eq_getD_getElem?, Array.getElem?_append, hk, h2]
          rw [h4]) (fun i b hi h => by
        simp only [Gh.new, if_pos hi] at h
        exact .inr (by omega)) (fun i b hi h => by
        simp only [Gh.new, if_pos hi] at h
        omega) (fun i j b hi hj _ _ => by rw [hi, hj])
    refine ⟨.slice (some ⟨w.heap.size, 0, none⟩) b.size c, w', _, by simp only [execOp, ho, e1, Sem.run_bind, hrun, Sem.run_pure, Result.andThen_ok], S.1, S.2, ?_⟩
    exact .ref k ⟨some w.heap.size, c, 1, b.size⟩ _ (by simp [Gh.new]) rfl
theorem ok_idxRaw {o : Oper} {x y : Operand} {t e e' d i : Nat} {σ : Sg} {l : List UInt8} {k : IntKind} {n : Int} (ho : o.op = .indexAddr t x y) (hd : o.dst = some d) (hn : d < N.n) (hu : P.underlying t = some (.slice e)) (hs : szOf P e = some 1)
    (hx : σ.ev x = .ref i) (hob : σ.ob i = .raw e' l) (hy : σ.ev y = .int k n) (h0 : 0 ≤ n) (h1 : n.toNat < l.length) : CoreOk P N o (opw x (.ref i) ++ opw y (.int k n) ++ [.o i (.raw e' l)]) [.t d (.ptr i n.toNat 0)] :=
  val_ok hd hn fun G w σ' a H he hp => by
    obtain ⟨hp12, hp3⟩ := has_append.1 hp
    obtain ⟨hp1, hp2⟩ := has_append.1 hp12
    have g1 := he x
    rw [opw_ev hx hp1] at g1
    have g2 := he y
    rw [opw_ev hy hp2] at g2
    obtain ⟨r, e1, e2⟩ := Rep.inv_ref g1
    obtain ⟨r', g, cur, fz, f1, f2, f3, f4, f5, _⟩ := raw_of H (show σ'.ob i = .raw e' l from hp3.1)
    rw [e1] at f1
    obtain rfl := Option.some.inj f1
    unfold RI.sl at e2
    rw [f4] at e2
    simp only at e2
    refine ⟨_, ?_, .ptr i n.toNat 0 r g e1 f4⟩
    rw [f2]
    simp only [execOp, ho, e2, Rep.inv_int g2, Sem.run_bind, elemTy hu hs h0 (show n < r.len by omega), Result.andThen_ok, Sem.run_pure, add_lit, Nat.zero_add, Nat.add_zero]
theorem ok_ldRaw {o : Oper} {x : Operand} {t : TypeId} {d i k e : Nat} {σ : Sg} {l : List UInt8} {b : UInt8} (ho : o.op = .load t x) (hd : o.dst = some d) (hn : d < N.n) (hx : σ.ev x = .ptr i k 0) (hob : σ.ob i = .raw e l) (hA : isA P t = some false) (hb : l[k]? = some b) :
    CoreOk P N o (opw x (.ptr i k 0) ++ [.o i (.raw e l)]) [.t d (encU8 b)] :=
  val_ok hd hn fun G w σ' a H he hp => by
    obtain ⟨hp1, hp2⟩ := has_append.1 hp
    have h1 := he x
    rw [opw_ev hx hp1] at h1
    obtain ⟨r, g, e1, e2, e3⟩ := Rep.inv_ptr h1
    obtain ⟨r', g', cur, fz, f1, f2, f3, f4, f5, f6, f7, f8, f9⟩ := raw_of H (show σ'.ob i = .raw e l from hp2.1)
    rw [e1] at f1
    obtain rfl := Option.some.inj f1
    rw [e2] at f4
    obtain rfl := Option.some.inj f4
    have hk : k < l.length := (List.getElem?_eq_some_iff.1 hb).1
    have hc : w.cell? ⟨g, k * r.es + 0, none⟩ = some (.int .u8 (b.toNat : Int)) := by
      rw [f2, Nat.mul_one, Nat.add_zero, cell_of_row w g k cur e fz f5, ← f8 k b hb]
      have : k < cur.size := by omega
      simp [Array.getD, this]
    refine ⟨_, ?_, .g (.int _ _)⟩
    simp only [execOp, ho, e3, Sem.run_bind, run_load1 hA hc, Result.andThen_ok, Sem.run_pure]
theorem ok_stRaw {o : Oper} {x y : Operand} {t : TypeId} {i k e : Nat} {σ : Sg} {l : List UInt8} {b : UInt8} (ho : o.op = .store t x y) (hd : o.dst = none) (hx : σ.ev x = .ptr i k 0) (hy : σ.ev y = encU8 b) (hob : σ.ob i = .raw e l) (hs : szOf P t = some 1) (hk : k < l.length) :
    CoreOk P N o (opw x (.ptr i k 0) ++ opw y (encU8 b) ++ [.o i (.raw e l)]) [.o i (.raw e (l.set k b))] :=
  sto_ok hd (fun z hz => by simp at hz; exact ⟨_, _, hz⟩) fun G w σ' a H he hp => by
    obtain ⟨hp12, hp3⟩ := has_append.1 hp
    obtain ⟨hp1, hp2⟩ := has_append.1 hp12
    have h1 := he x
    rw [opw_ev hx hp1] at h1
    have h2 := he y
    rw [opw_ev hy hp2] at h2
    have h2' := Rep.inv_int h2
    obtain ⟨r, g, e1, e2, e3⟩ := Rep.inv_ptr h1
    obtain ⟨r', g', cur, fz, f1, f2, f3, f4, f5, f6, f7, f8, f9⟩ := raw_of H (show σ'.ob i = .raw e l from hp3.1)
    rw [e1] at f1
    obtain rfl := Option.some.inj f1
    rw [e2] at f4
    obtain rfl := Option.some.inj f4
    rw [f2, Nat.mul_one, Nat.add_zero] at e3
    have hk2 : k < cur.size := by omega
    have hst : (Instr.storeAt t (.pointer (some ⟨g, k, none⟩)) (.int .u8 (b.toNat : Int))).run P w = .ok () (w.setRow g (cur.setIfInBounds k (.int .u8 (b.toNat : Int)))) := by
      have hcell : w.cell? ⟨g, k, none⟩ = some cur[k] := by simp [World.cell?, f5, hk2]
      have hfro : w.frozen? ⟨g, k, none⟩ = false := by
        obtain ⟨lo, hi⟩ := fz
        simp only [World.frozen?, f5, Bool.and_eq_false_iff, decide_eq_false_iff_not]
        left
        simp only at f6
        omega
      have e0 : (⟨g, k, none⟩ : Addr).add 0 = ⟨g, k, none⟩ := by unfold Addr.add; rw [if_pos rfl]
      have hs1 : (store ((⟨g, k, none⟩ : Addr).add 0) (.int .u8 (b.toNat : Int))).run P w = .ok () (w.setRow g (cur.setIfInBounds k (.int .u8 (b.toNat : Int)))) := by
        rw [e0, run_store P w _ _ _ (by rfl), hcell]
        simp [hfro, setCell_eq_setRow w g k cur e fz _ f5]
      have hcs : (Value.int .u8 (b.toNat : Int)).cells.toList = [.int .u8 (b.toNat : Int)] := rfl
      have hcs2 : (Value.int .u8 (b.toNat : Int)).cells.size = 1 := rfl
      simp only [Instr.storeAt, Instr.sureAddr, storeVar, run_sz hs, hcs2, hcs, storeCells, Sem.run_bind, Sem.run_pure, Result.andThen_ok, hs1, ne_eq, not_true_eq_false, if_false]
    have hheap : (w.setRow g (cur.setIfInBounds k (.int .u8 (b.toNat : Int)))).heap[g]? = some (.cells (cur.setIfInBounds k (.int .u8 (b.toNat : Int))) e fz) := setRow_heap w g cur _ e fz f5
    have S := Hold.step (G' := G) (w' := w.setRow g (cur.setIfInBounds k (.int .u8 (b.toNat : Int)))) (ob' := (σ'.puts [.o i (.raw e (l.set k b))]).ob) H rfl rfl rfl rfl rfl (by simp [World.setRow]) (fun _ _ h => h) (fun j => j = i) (fun j hj => ⟨by simp [Sg.puts, Sg.put, hj], rfl, rfl⟩) (fun q hq hn => setRow_other w g q _ (fun eq => hn i rfl ((f9 q).2 eq))) (fun LG L j hj => by
        subst hj
        have hob2 : (σ'.puts [.o j (.raw e (l.set k b))]).ob j = .raw e (l.set k b) := by simp [Sg.puts, Sg.put]
        rw [hob2]
        refine ⟨r, g, _, fz, e1, f2, by rw [List.length_set]; exact f3, e2, hheap, by rw [Array.size_setIfInBounds]; exact f6, by rw [List.length_set, Array.size_setIfInBounds]; exact f7, fun m u hu => ?_, f9⟩
        rw [Array.getD_eq_getD_getElem?, Array.getElem?_setIfInBounds]
        by_cases q : k = m
        · subst q
          rw [List.getElem?_set, if_pos rfl, if_pos hk] at hu
          obtain rfl := Option.some.inj hu
          simp [hk2]
        · rw [List.getElem?_set_ne q] at hu
          rw [if_neg q, ← f8 m u hu, Array.getD_eq_getD_getElem?]) (fun j q hj h => .inl ⟨j, hj, h⟩) (fun j q hj h => by have := H.flt j q h; simpa [World.setRow] using this) (fun a' b' q ha hb _ _ => by rw [ha, hb])
    refine ⟨_, G, by simp only [execOp, ho, e3, h2', Sem.run_bind, hst, Result.andThen_ok, Sem.run_pure], S.1, S.2⟩
theorem ok_b2sRaw {o : Oper} {x : Operand} {s t e d i : Nat} {σ : Sg} {l : List UInt8} (hs : P.underlying s = some (.slice e)) (he : P.underlying e = some (.int .u8)) (ht : P.underlying t = some .string) (ho : o.op = .convert s t x) (hd : o.dst = some d) (hn : d < N.n)
    (hx : σ.ev x = .ref i) (hob : σ.ob i = .raw e l) : CoreOk P N o (opw x (.ref i) ++ [.o i (.raw e l)]) [.t d (.str (strOf l))] :=
  val_ok hd hn fun G w σ' a H hev hp => by
    obtain ⟨hp1, hp2⟩ := has_append.1 hp
    have h1 := hev x
    rw [opw_ev hx hp1] at h1
    obtain ⟨r, e1, e2⟩ := Rep.inv_ref h1
    obtain ⟨r', g', cur, fz, f1, f2, f3, f4, f5, f6, f7, f8, f9⟩ := raw_of H (show σ'.ob i = .raw e l from hp2.1)
    rw [e1] at f1
    obtain rfl := Option.some.inj f1
    unfold RI.sl at e2
    rw [f4] at e2
    simp only at e2
    rw [f3] at e2
    refine ⟨.string (strOf l), ?_, .g (.str _)⟩
    have := run_convert_bytes_back (P := P) w s t e ⟨g', 0, none⟩ r.cap l hs he ht (fun j hj => by
      rw [add_lit, Nat.zero_add, cell_of_row w g' j cur e fz f5]
      have h3 := f8 j _ (List.getElem?_eq_getElem hj)
      have : j < cur.size := by omega
      simpa [Array.getD, this] using h3)
    simp only [execOp, ho, e2, Sem.run_bind, this, Sem.run_pure, Result.andThen_ok]
    rfl
end
section
variable {P : Program} {N : Cx} {ops : Array Oper} {K : List Tr → Sg → Prop} {k : Nat} {σ : Sg}
theorem At.s2bO {s t e d : Nat} {x : Operand} {b : ByteArray} (j : Nat) (hg : goes ops σ k = true) (ho : opd (opAt ops k) = (.convert s t x, some d)) (ht : (P.underlying s, P.underlying t, P.underlying e, Nat.blt d N.n) = (some .string, some (.slice e), some (.int .u8), true)) (hv : σ.ev x = .str b) (hj : σ.ob j = .free)
    (r : At P N ops (k + 1) (σ.puts ([.o j (.raw e b.data.toList)] ++ [.t d (.ref j)])) (fun t s => K (⟨(gpOf ops σ (opAt ops k)).getD [] ++ (opw x (.str b) ++ [.o j .free]), [.o j (.raw e b.data.toList)] ++ [.t d (.ref j)]⟩ :: t) s)) : At P N ops k σ K := by
  simp only [Prod.mk.injEq] at ht
  exact At.step2 hg ⟨ok_s2bO (N := N) ht.1 ht.2.1 ht.2.2.1 (opd1 ho) (opd2 ho) (by simpa using ht.2.2.2) hv, has2 (opw_has hv) ⟨hj, trivial⟩⟩ r
theorem At.idxRaw {t d e e' j : Nat} {x y : Operand} {l : List UInt8} {kd : IntKind} {i : Int} (hg : goes ops σ k = true) (ho : opd (opAt ops k) = (.indexAddr t x y, some d)) (ht : slE P t N.n d = some (e, 1)) (hv : [σ.ev x, σ.ev y] = [.ref j, .int kd i]) (hob : σ.ob j = .raw e' l) (h0 : 0 ≤ i) (h1 : i.toNat < l.length)
    (r : At P N ops (k + 1) (σ.puts [.t d (.ptr j i.toNat 0)]) (fun t s => K (⟨(gpOf ops σ (opAt ops k)).getD [] ++ (opw x (.ref j) ++ opw y (.int kd i) ++ [.o j (.raw e' l)]), [.t d (.ptr j i.toNat 0)]⟩ :: t) s)) : At P N ops k σ K := by
  obtain ⟨a1, a2, a3⟩ := slE_of ht
  simp only [List.cons.injEq, and_true] at hv
  exact At.step2 hg ⟨ok_idxRaw (N := N) (opd1 ho) (opd2 ho) a3 a1 a2 hv.1 hob hv.2 h0 h1, has2 (has2 (opw_has hv.1) (opw_has hv.2)) ⟨hob, trivial⟩⟩ r
theorem At.ldRaw {t d i e j : Nat} {x : Operand} {l : List UInt8} (b : UInt8) (hg : goes ops σ k = true) (ho : opd (opAt ops k) = (.load t x, some d)) (ht : ldT P t N.n d = some (false, 1)) (hx : σ.ev x = .ptr i j 0) (hob : σ.ob i = .raw e l) (hy : l[j]? = some b)
    (r : At P N ops (k + 1) (σ.puts [.t d (encU8 b)]) (fun t s => K (⟨(gpOf ops σ (opAt ops k)).getD [] ++ (opw x (.ptr i j 0) ++ [.o i (.raw e l)]), [.t d (encU8 b)]⟩ :: t) s)) : At P N ops k σ K := by
  obtain ⟨a1, a2, a3⟩ := ldT_of ht
  exact At.step2 hg ⟨ok_ldRaw (N := N) (opd1 ho) (opd2 ho) a3 hx hob a1 hy, has2 (opw_has hx) ⟨hob, trivial⟩⟩ r
theorem At.stRaw {t i e j : Nat} {x y : Operand} {l : List UInt8} (b : UInt8) (hg : goes ops σ k = true) (ho : opd (opAt ops k) = (.store t x y, none)) (hx : [σ.ev x, σ.ev y] = [.ptr i j 0, encU8 b]) (hob : σ.ob i = .raw e l) (hs : szOf P t = some 1) (hj : j < l.length)
    (r : At P N ops (k + 1) (σ.puts [.o i (.raw e (l.set j b))]) (fun t s => K (⟨(gpOf ops σ (opAt ops k)).getD [] ++ (opw x (.ptr i j 0) ++ opw y (encU8 b) ++ [.o i (.raw e l)]), [.o i (.raw e (l.set j b))]⟩ :: t) s)) : At P N ops k σ K := by
  simp only [List.cons.injEq, and_true] at hx
  exact At.step2 hg ⟨ok_stRaw (N := N) (opd1 ho) (opd2 ho) hx.1 hx.2 hob hs hj, has2 (has2 (opw_has hx.1) (opw_has hx.2)) ⟨hob, trivial⟩⟩ r
theorem At.b2sRaw {s t e d i : Nat} {x : Operand} {l : List UInt8} (hg : goes ops σ k = true) (ho : opd (opAt ops k) = (.convert s t x, some d)) (ht : (P.underlying s, P.underlying e, P.underlying t, Nat.blt d N.n) = (some (.slice e), some (.int .u8), some .string, true)) (hv : σ.ev x = .ref i) (hob : σ.ob i = .raw e l)
    (r : At P N ops (k + 1) (σ.puts [.t d (.str (strOf l))]) (fun t s => K (⟨(gpOf ops σ (opAt ops k)).getD [] ++ (opw x (.ref i) ++ [.o i (.raw e l)]), [.t d (.str (strOf l))]⟩ :: t) s)) : At P N ops k σ K := by
  simp only [Prod.mk.injEq] at ht
  exact At.step2 hg ⟨ok_b2sRaw (N := N) ht.1 ht.2.1 ht.2.2.1 (opd1 ho) (opd2 ho) (by simpa using ht.2.2.2) hv hob, has2 (opw_has hv) ⟨hob, trivial⟩⟩ r
end
theorem par_lt {n : Int} {m k : Nat} (h : n = (m : Int)) (q : (k : Int) < 2 * n) : k < 2 * m := by omega
theorem par_ge {n : Int} {m k : Nat} (h : n = (m : Int)) (q : ¬ (k : Int) < 2 * n) : 2 * m ≤ k := by omega
theorem raw_pos {x : ByteArray} (h : x.size ≠ 0) : 0 < x.data.toList.length := by
  rw [Array.length_toList]; show 0 < x.size; omega
theorem atF_bd {code : List UInt8} {i : Int} (h : 0 ≤ i) : 0 ≤ atF code i ∧ atF code i ≤ 255 := by
  unfold atF
  split
  · have := UInt8.toNat_lt ((code[i.toNat]?).getD 0); omega
  · omega
theorem st_small {s : ByteArray} (hs : s.size ≤ 1000) (a : Bool) (k : Nat) : SmallP (stP s.data.toList a k) := by
  have hl : s.data.toList.length = s.size := Array.length_toList
  have hok := st_ok (l := s.data.toList) (by omega) a k
  have h1 := prc_cat hok
  have h2 := prc_nums hok
  exact ⟨by omega, by omega, by omega⟩
theorem xor_u8 (a b : UInt8) : bitI .xor .u8 (a.toNat : Int) (b.toNat : Int) = some ((a ^^^ b).toNat : Int) := by
  have ha := UInt8.toNat_lt a
  have hb := UInt8.toNat_lt b
  have e1 : (BitVec.ofInt 8 (a.toNat : Int)).toNat = a.toNat := by rw [BitVec.ofInt_natCast, BitVec.toNat_ofNat]; omega
  have e2 : (BitVec.ofInt 8 (b.toNat : Int)).toNat = b.toNat := by rw [BitVec.ofInt_natCast, BitVec.toNat_ofNat]; omega
  have e3 : bitI .xor .u8 (a.toNat : Int) (b.toNat : Int) = some (IntKind.u8.wrap (((BitVec.ofInt 8 (a.toNat : Int) ^^^ BitVec.ofInt 8 (b.toNat : Int)).toNat : Nat) : Int)) := rfl
  rw [e3, BitVec.toNat_xor, e1, e2, UInt8.toNat_xor]
  have h8 : a.toNat ^^^ b.toNat < 2 ^ 8 := Nat.xor_lt_two_pow ha hb
  congr 1
  simp [IntKind.wrap, IntKind.bits, IntKind.signed]
  omega
theorem strOf_list2 (l : List UInt8) : (strOf l).toList = l := by rw [ByteArray.toList_eq]; rfl
theorem par_ne {x : ByteArray} {e : UInt8} (he : x.data.toList[0]? = some e) : (strOf (x.data.toList.set 0 (e ^^^ 1))).size = x.size ∧ (strOf (x.data.toList.set 0 (e ^^^ 1))).toList ≠ x.toList := by
  refine ⟨by rw [strOf_size, List.length_set, Array.length_toList]; rfl, ?_⟩
  rw [strOf_list2, ByteArray.toList_eq]
  intro h
  have hlt := (List.getElem?_eq_some_iff.1 he).1
  have q : (x.data.toList.set 0 (e ^^^ 1))[0]? = some (e ^^^ 1) := by rw [List.getElem?_set, if_pos rfl, if_pos hlt]
  rw [h, he] at q
  have q2 := Option.some.inj q
  have q3 : e ^^^ e = e ^^^ (e ^^^ 1) := by rw [← q2]
  rw [← UInt8.xor_assoc, UInt8.xor_self, UInt8.zero_xor] at q3
  exact absurd q3 (by decide)
end Go.Sy

