/- Arrays in a box: an element's address, an element out of an array's value, whole arrays. -/
import Derived.Test.YtdpcdcogbmkffaaSParcelPa
set_option linter.unusedVariables false
set_option linter.unusedSimpArgs false
namespace Go.Sy
section
variable {P : Program} {N : Cx}
theorem ok_indexArr {o : Oper} {x y : Operand} {t e es d i len off : Nat} {σ : Sg} {k : IntKind} {n : Int} (ho : o.op = .indexAddr t x y) (hd : o.dst = some d) (hn : d < N.n) (hu : P.underlying t = some (.array len e)) (hs : szOf P e = some es)
    (hx : σ.ev x = .ptr i 0 off) (hy : σ.ev y = .int k n) (h0 : 0 ≤ n) (h1 : n.toNat < len) : CoreOk P N o (opw x (.ptr i 0 off) ++ opw y (.int k n)) [.t d (.ptr i 0 (off + n.toNat * es))] :=
  val_ok hd hn fun G w σ' a H he hp => by
    obtain ⟨hp1, hp2⟩ := has_append.1 hp
    have g1 := he x
    rw [opw_ev hx hp1] at g1
    have g2 := he y
    rw [opw_ev hy hp2] at g2
    obtain ⟨r, g, e1, e2, e⟩ := Rep.inv_ptr g1
    refine ⟨_, ?_, .ptr i 0 (off + n.toNat * es) r g e1 e2⟩
    have h2 : n < (len : Int) := by omega
    simp [execOp, ho, e, Rep.inv_int g2, Instr.indexAt, Instr.sureAddr, asIntOf, run_underlying hu, run_sz hs, h0, h2, add_lit]
theorem ok_indexAgg {o : Oper} {x y : Operand} {t e d len : Nat} {σ : Sg} {k : IntKind} {n : Int} {cs : List V} {v : V} (ho : o.op = .index t x y) (hd : o.dst = some d) (hn : d < N.n) (hu : P.underlying t = some (.array len e)) (hs : szOf P e = some 1) (hA : isA P e = some false)
    (hx : σ.ev x = .agg cs) (hy : σ.ev y = .int k n) (h0 : 0 ≤ n) (h1 : n.toNat < len) (hv : cs[n.toNat]? = some v) : CoreOk P N o (opw x (.agg cs) ++ opw y (.int k n)) [.t d v] :=
  val_ok hd hn fun G w σ' a H he hp => by
    obtain ⟨hp1, hp2⟩ := has_append.1 hp
    have g1 := he x
    rw [opw_ev hx hp1] at g1
    have g2 := he y
    rw [opw_ev hy hp2] at g2
    obtain ⟨b, e1, e2, e3⟩ := Rep.inv_agg g1
    have h2 : n < (len : Int) := by omega
    have h3 : n.toNat < b.size := by rw [e2]; exact (List.getElem?_eq_some_iff.1 hv).1
    refine ⟨b.getD n.toNat undef, ?_, e3 _ _ hv⟩
    simp [execOp, ho, e1, Rep.inv_int g2, Instr.index, asIntOf, run_underlying hu, run_sz hs, h0, h2, part, run_isA hA, h3, Array.getD]
end
def arE (P : Program) (t n d : Nat) : Option Nat :=
  match P.underlying t with
  | some (.array len e) => match szOf P e, isA P e, Nat.blt d n with
    | some 1, some false, true => some len
    | _, _, _ => none
  | _ => none
theorem arE_of {P : Program} {t n d len : Nat} (h : arE P t n d = some len) : ∃ e, P.underlying t = some (.array len e) ∧ szOf P e = some 1 ∧ isA P e = some false ∧ d < n := by
  unfold arE at h
  split at h
  · rename_i len' e hu
    split at h
    · rename_i h1 h2 h3
      obtain rfl := Option.some.inj h
      exact ⟨e, hu, h1, h2, by simpa using h3⟩
    · cases h
  · cases h
section
variable {P : Program} {N : Cx} {ops : Array Oper} {K : List Tr → Sg → Prop} {k : Nat} {σ : Sg}
theorem At.idxArr {t d i len : Nat} {x y : Operand} {kd : IntKind} {n : Int} (hg : goes ops σ k = true) (ho : opd (opAt ops k) = (.indexAddr t x y, some d)) (ht : arE P t N.n d = some len) (hv : [σ.ev x, σ.ev y] = [.ptr i 0 0, .int kd n]) (h0 : 0 ≤ n) (h1 : n.toNat < len)
    (r : At P N ops (k + 1) (σ.puts [.t d (.ptr i 0 n.toNat)]) (fun t s => K (⟨(gpOf ops σ (opAt ops k)).getD [] ++ (opw x (.ptr i 0 0) ++ opw y (.int kd n)), [.t d (.ptr i 0 n.toNat)]⟩ :: t) s)) : At P N ops k σ K := by
  obtain ⟨e, a1, a2, _, a3⟩ := arE_of ht
  simp only [List.cons.injEq, and_true] at hv
  have := ok_indexArr (N := N) (opd1 ho) (opd2 ho) a3 a1 a2 hv.1 hv.2 h0 h1
  rw [Nat.mul_one, Nat.zero_add] at this
  exact At.step2 hg ⟨this, has2 (opw_has hv.1) (opw_has hv.2)⟩ r
theorem At.idxAgg {t d len : Nat} {x y : Operand} {kd : IntKind} {n : Int} {cs : List V} (v : V) (hg : goes ops σ k = true) (ho : opd (opAt ops k) = (.index t x y, some d)) (ht : arE P t N.n d = some len) (hv : [σ.ev x, σ.ev y] = [.agg cs, .int kd n]) (h0 : 0 ≤ n) (h1 : n.toNat < len) (hc : cs[n.toNat]? = some v)
    (r : At P N ops (k + 1) (σ.puts [.t d v]) (fun t s => K (⟨(gpOf ops σ (opAt ops k)).getD [] ++ (opw x (.agg cs) ++ opw y (.int kd n)), [.t d v]⟩ :: t) s)) : At P N ops k σ K := by
  obtain ⟨e, a1, a2, a4, a3⟩ := arE_of ht
  simp only [List.cons.injEq, and_true] at hv
  exact At.step2 hg ⟨ok_indexAgg (N := N) (opd1 ho) (opd2 ho) a3 a1 a2 a4 hv.1 hv.2 h0 h1 hc, has2 (opw_has hv.1) (opw_has hv.2)⟩ r
theorem At.ldB {t d i off tb m : Nat} {x : Operand} {b : Bool} {cs : List V} (v : V) (hg : goes ops σ k = true) (ho : opd (opAt ops k) = (.load t x, some d)) (ht : ldT P t N.n d = some (b, m)) (hx : σ.ev x = .ptr i 0 off) (hob : σ.ob i = .box tb cs) (hv : loadV b m off cs = some v)
    (r : At P N ops (k + 1) (σ.puts [.t d v]) (fun t s => K (⟨(gpOf ops σ (opAt ops k)).getD [] ++ (opw x (.ptr i 0 off) ++ [.o i (.box tb cs)]), [.t d v]⟩ :: t) s)) : At P N ops k σ K := by
  obtain ⟨a1, a2, a3⟩ := ldT_of ht
  exact At.step2 hg ⟨ok_load (N := N) (opd1 ho) (opd2 ho) a3 hx hob a1 a2 hv, has2 (opw_has hx) ⟨hob, trivial⟩⟩ r
theorem At.stB {t i off tb m : Nat} {x y : Operand} {cs ys : List V} {v : V} (cs' : List V) (hg : goes ops σ k = true) (ho : opd (opAt ops k) = (.store t x y, none)) (hx : [σ.ev x, σ.ev y] = [.ptr i 0 off, v]) (hob : σ.ob i = .box tb cs) (hs : szOf P t = some m) (hc : cellsV v = some ys) (hn : ys.length = m) (hv : storeV off ys cs = some cs')
    (r : At P N ops (k + 1) (σ.puts [.o i (.box tb cs')]) (fun t s => K (⟨(gpOf ops σ (opAt ops k)).getD [] ++ (opw x (.ptr i 0 off) ++ opw y v ++ [.o i (.box tb cs)]), [.o i (.box tb cs')]⟩ :: t) s)) : At P N ops k σ K := by
  simp only [List.cons.injEq, and_true] at hx
  exact At.step2 hg ⟨ok_store (N := N) (opd1 ho) (opd2 ho) hx.1 hx.2 hob hs hc hn hv, has2 (has2 (opw_has hx.1) (opw_has hx.2)) ⟨hob, trivial⟩⟩ r
end
def bldA (P : Program) (t : TypeId) (σ : Sg) (parts : Array (Nat × Operand)) : Option (List V) :=
  match zeroCs P t, P.underlying t with
  | some zs, some (.array _ e) => match szOf P e with
    | some es => fillV (fun i => some (i * es, es)) zs (partsEv σ parts.toList)
    | none => none
  | _, _ => none
section
variable {P : Program} {N : Cx}
theorem ok_buildA {o : Oper} {t : TypeId} {parts : Array (Nat × Operand)} {d : Nat} {σ : Sg} {cs : List V} (ho : o.op = .build t parts) (hd : o.dst = some d) (hn : d < N.n) (hf : bldA P t σ parts = some cs) : CoreOk P N o (partsW parts.toList (partsEv σ parts.toList)) [.t d (.agg cs)] :=
  val_ok hd hn fun G w σ' a H he hpre => by
    have hr := partsW_rep he parts.toList hpre
    unfold bldA at hf
    split at hf
    · rename_i zs len e hz hu
      split at hf
      · rename_i es hs
        unfold zeroCs at hz
        obtain ⟨z, h1, rfl⟩ := Option.map_eq_some_iff.1 hz
        obtain ⟨it, h2, h3⟩ := Option.bind_eq_some_iff.1 h1
        unfold szOf at hs
        obtain ⟨ie, h4, rfl⟩ := Option.map_eq_some_iff.1 hs
        obtain ⟨cells, f1, f2, f3⟩ := fill_of (place := fun i => some (i * ie.size, ie.size)) _ _ z.cells _ cs hr (by simp) (rep_toV G w z.cells) hf
        have hb : P.built t (parts.map fun (i, x) => (i, a.eval x)).toList = some cells := by
          unfold Program.built
          simp only [h2, hu, h3, h4]
          rw [Array.toList_map]
          exact f1
        refine ⟨.agg cells, ?_, .agg cells cs f2 f3⟩
        simp only [execOp, ho, Sem.run_bind, run_build w t _ cells hb, Result.andThen_ok, Sem.run_pure]
      · cases hf
    · cases hf
end
section
variable {P : Program} {N : Cx} {ops : Array Oper} {K : List Tr → Sg → Prop} {k : Nat} {σ : Sg}
theorem At.bldA {t d : Nat} {parts : Array (Nat × Operand)} (cs : List V) (hg : goes ops σ k = true) (ho : opd (opAt ops k) = (.build t parts, some d)) (hn : Nat.blt d N.n = true) (hf : Go.Sy.bldA P t σ parts = some cs)
    (r : At P N ops (k + 1) (σ.puts [.t d (.agg cs)]) (fun t' s => K (⟨(gpOf ops σ (opAt ops k)).getD [] ++ partsW parts.toList (partsEv σ parts.toList), [.t d (.agg cs)]⟩ :: t') s)) : At P N ops k σ K :=
  At.step2 hg ⟨ok_buildA (N := N) (opd1 ho) (opd2 ho) (by simpa using hn) hf, partsW_has σ _⟩ r
end
def spN (n : Nat) (l : List Int) : List V := (List.range n).map fun i => encI (atI l i)
theorem atI_get {l : List Int} {n : Nat} {e : Int} (h : l[n]? = some e) : atI l n = e := by unfold atI; rw [h]; rfl
theorem spN_len (n : Nat) (l : List Int) : (spN n l).length = n := by simp [spN]
theorem spGet {N n : Nat} {l : List Int} {e : Int} (hn : n < N) (h : l[n]? = some e) : (spN N l)[n]? = some (.int .i64 e) := by
  unfold spN
  rw [List.getElem?_map, List.getElem?_range hn]
  show some (encI (atI l n)) = _
  rw [atI_get h]; rfl
theorem spSet {N n : Nat} {l : List Int} {e : Int} (hn : n < N) (hl : N ≤ l.length) : storeV n [.int .i64 e] (spN N l) = some (spN N (l.set n e)) := by
  unfold storeV
  rw [if_pos (by rw [spN_len]; simp; omega)]
  congr 1
  apply List.ext_getElem?
  intro i
  by_cases hi : i < N
  case neg =>
    rw [List.getElem?_eq_none (by simp [spN_len]; omega), List.getElem?_eq_none (by rw [spN_len]; omega)]
  have e1 : (spN N (l.set n e))[i]? = some (encI (atI (l.set n e) i)) := by
    unfold spN; rw [List.getElem?_map, List.getElem?_range hi]; rfl
  have e2 : (spN N l)[i]? = some (encI (atI l i)) := by
    unfold spN; rw [List.getElem?_map, List.getElem?_range hi]; rfl
  rw [e1]
  have hk : (spN N l).length = N := spN_len N l
  by_cases h1 : i < n
  · rw [List.append_assoc, List.getElem?_append_left (by rw [List.length_take]; omega), List.getElem?_take_of_lt h1, e2]
    congr 2
    unfold atI
    rw [List.getElem?_set_ne (by omega)]
  by_cases h2 : i = n
  · subst h2
    rw [List.append_assoc, List.getElem?_append_right (by rw [List.length_take]; omega), List.length_take, show i - min i (spN N l).length = 0 by omega]
    show some (V.int .i64 e) = _
    rw [atI_get (show (l.set i e)[i]? = some e by rw [List.getElem?_set, if_pos rfl, if_pos (by omega)])]
    rfl
  · rw [List.getElem?_append_right (by rw [List.length_append, List.length_take]; simp; omega), List.length_append, List.length_take, List.getElem?_drop]
    rw [show n + [V.int IntKind.i64 e].length + (i - (min n (spN N l).length + [V.int IntKind.i64 e].length)) = i by simp; omega, e2]
    congr 2
    unfold atI
    rw [List.getElem?_set_ne (by omega)]
def sp8 (l : List Int) : List V := [.int .i64 (atI l 0), .int .i64 (atI l 1), .int .i64 (atI l 2), .int .i64 (atI l 3), .int .i64 (atI l 4), .int .i64 (atI l 5), .int .i64 (atI l 6), .int .i64 (atI l 7)]
def sp64 (l : List Int) : List V := [.int .i64 (atI l 0), .int .i64 (atI l 1), .int .i64 (atI l 2), .int .i64 (atI l 3), .int .i64 (atI l 4), .int .i64 (atI l 5), .int .i64 (atI l 6), .int .i64 (atI l 7), .int .i64 (atI l 8), .int .i64 (atI l 9), .int .i64 (atI l 10), .int .i64 (atI l 11), .int .i64 (atI l 12), .int .i64 (atI l 13), .int .i64 (atI l 14), .int .i64 (atI l 15), .int .i64 (atI l 16), .int .i64 (atI l 17), .int .i64 (atI l 18), .int .i64 (atI l 19), .int .i64 (atI l 20), .int .i64 (atI l 21), .int .i64 (atI l 22), .int .i64 (atI l 23), .int .i64 (atI l 24), .int .i64 (atI l 25), .int .i64 (atI l 26), .int .i64 (atI l 27), .int .i64 (atI l 28), .int .i64 (atI l 29), .int .i64 (atI l 30), .int .i64 (atI l 31), .int .i64 (atI l 32), .int .i64 (atI l 33), .int .i64 (atI l 34), .int .i64 (atI l 35), .int .i64 (atI l 36), .int .i64 (atI l 37), .int .i64 (atI l 38), .int .i64 (atI l 39), .int .i64 (atI l 40), .int .i64 (atI l 41), .int .i64 (atI l 42), .int .i64 (atI l 43), .int .i64 (atI l 44), .int .i64 (atI l 45), .int .i64 (atI l 46), .int .i64 (atI l 47), .int .i64 (atI l 48), .int .i64 (atI l 49), .int .i64 (atI l 50), .int .i64 (atI l 51), .int .i64 (atI l 52), .int .i64 (atI l 53), .int .i64 (atI l 54), .int .i64 (atI l 55), .int .i64 (atI l 56), .int .i64 (atI l 57), .int .i64 (atI l 58), .int .i64 (atI l 59), .int .i64 (atI l 60), .int .i64 (atI l 61), .int .i64 (atI l 62), .int .i64 (atI l 63)]
theorem sp8_eq (l : List Int) : sp8 l = spN 8 l := rfl
theorem sp64_eq (l : List Int) : sp64 l = spN 64 l := rfl
theorem sp8Get {n : Nat} {l : List Int} {e : Int} (hn : n < 8) (h : l[n]? = some e) : (sp8 l)[n]? = some (.int .i64 e) := spGet hn h
theorem sp64Get {n : Nat} {l : List Int} {e : Int} (hn : n < 64) (h : l[n]? = some e) : (sp64 l)[n]? = some (.int .i64 e) := by rw [sp64_eq]; exact spGet hn h
theorem sp8Set {n : Nat} {l : List Int} {e : Int} (hn : n < 8) (hl : 8 ≤ l.length) : storeV n [.int .i64 e] (sp8 l) = some (sp8 (l.set n e)) := by rw [sp8_eq, sp8_eq]; exact spSet hn hl
theorem sp64Set {n : Nat} {l : List Int} {e : Int} (hn : n < 64) (hl : 64 ≤ l.length) : storeV n [.int .i64 e] (sp64 l) = some (sp64 (l.set n e)) := by rw [sp64_eq, sp64_eq]; exact spSet hn hl
end Go.Sy

