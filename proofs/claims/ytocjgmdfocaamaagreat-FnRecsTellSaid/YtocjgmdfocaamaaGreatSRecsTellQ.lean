/- A region that parts and meets again at one bool. -/
import Derived.Test.YtocjgmdfocaamaaGreatSRecsTellP
set_option linter.unusedVariables false
set_option linter.unusedSimpArgs false
namespace Go.Sy
section
variable {P : Program} {N : Cx}
def cutS (σ : Sg) (L : List (Nat × Nat)) (mask : List Bool) (d : Nat) (b : Bool) : Sg := (mk (keepT σ (hOf L) 0 mask) (keepO σ (hOf L) L)).put (.t d (.bool b))
theorem Sub.cut {σ s : Sg} (L : List (Nat × Nat)) (mask : List Bool) (d : Nat) (b : Bool) (hL : (okL L && fixes N.m L) = true) (ht : keepT s (hOf L) 0 mask = keepT σ (hOf L) 0 mask) (ho : keepO s (hOf L) L = keepO σ (hOf L) L) (hd : s.tm d = .bool b) : Sub N s (cutS σ L mask d b) := by
  intro G0 w0 a w h
  obtain ⟨G, H, ht', h1, h2, h3, h4⟩ := h
  simp only [Bool.and_eq_true, fixes, List.all_eq_true, List.mem_range, beq_iff_eq] at hL
  refine ⟨G.ren L, ?_, fun t => ?_, h1, h2, h3.ren h4.1 hL.2, h4⟩
  · have : (cutS σ L mask d b).ob = obRen s.ob L := by
      funext j
      show lkO (keepO σ (hOf L) L) j = _
      rw [← ho, obRen]
      exact lkO_keep s _ s.ob L j
    rw [this]
    exact H.ren hL.1
  · show (G.ren L).Rep w _ (if t = d then .bool b else lkT (keepT σ (hOf L) 0 mask) t)
    split
    · rename_i e
      subst e
      have h5 := ht' t
      rw [hd] at h5
      exact Rep.ren (x := .bool b) (Gh.ren_rho hL.1) h5
    · rw [← ht]
      rcases lkT_keep s (hOf L) mask 0 t with h | h
      · rw [h]; exact .g (.un _)
      · rw [h, Nat.zero_add]
        exact Rep.ren (Gh.ren_rho hL.1) (ht' t)
theorem AW.condT {c : Operand} {x y : Code} {σ : Sg} {K : Exit → Sg → Prop} (b : Bool) (hc : σ.ev c = .bool b) (hb : b = true) (h : AW P N x σ K) : AW P N (.cond c x y) σ K :=
  AW.cond b hc (fun _ => h) (fun e => by rw [hb] at e; cases e)
theorem AW.condF {c : Operand} {x y : Code} {σ : Sg} {K : Exit → Sg → Prop} (b : Bool) (hc : σ.ev c = .bool b) (hb : b = false) (h : AW P N y σ K) : AW P N (.cond c x y) σ K :=
  AW.cond b hc (fun e => by rw [hb] at e; cases e) (fun _ => h)
theorem AW.cut {c : Code} {σ : Sg} {K : Exit → Sg → Prop} (L : List (Nat × Nat)) (mask : List Bool) (d : Nat) (b : Bool) (hc : AW P N c σ (fun e s => e = .normal ∧ Sub N s (cutS σ L mask d b))) (hk : K .normal (cutS σ L mask d b)) : AW P N c σ K := by
  intro G0 w0 a w s
  refine wp_mono (hc G0 w0 a w s) ?_
  rintro e a' w' ⟨σ', ⟨rfl, h1⟩, h2⟩
  exact ⟨_, hk, h1 G0 w0 a' w' h2⟩
end
def mvH (i k : Nat) : Nat → Option Nat := fun j => if j = i then some k else some j
def Sg.mv (σ : Sg) (i k : Nat) : Sg := ⟨fun t => (σ.tm t).ren (mvH i k), fun j => if j = k then (σ.ob i).ren (mvH i k) else if j = i then .dead else (σ.ob j).ren (mvH i k)⟩
def Gh.mvO (G : Gh) (i k : Nat) : Gh := { G with ρ := fun j => if j = k then G.ρ i else G.ρ j, F := fun j b => if j = k then G.F i b else j ≠ i ∧ G.F j b }
theorem Sub.mv {N : Cx} {σ : Sg} (i k : Nat) (hf : isFree (σ.ob k) = true) (hne : i ≠ k) : Sub N σ (σ.mv i k) := by
  intro G0 w0 a w s
  obtain ⟨G, H, ht, h1, h2, f, h4⟩ := s
  have hk : σ.ob k = .free := by cases h : σ.ob k <;> rw [h] at hf <;> first | rfl | cases hf
  have hr := H.free hk
  have hh : ∀ a b r, mvH i k a = some b → G.ρ a = some r → (G.mvO i k).ρ b = some r := by
    intro a b r e hr'
    unfold mvH at e
    split at e
    · rename_i ha
      subst ha
      obtain rfl := Option.some.inj e
      show (if k = k then _ else _) = _
      rw [if_pos rfl]
      exact hr'
    · obtain rfl := Option.some.inj e
      show (if a = k then _ else _) = _
      rw [if_neg (fun e => by subst e; rw [hr.1] at hr'; cases hr')]
      exact hr'
  have hF : ∀ j b, (G.mvO i k).F j b → ∃ j', G.F j' b := by
    intro j b h
    simp only [Gh.mvO] at h
    split at h
    · exact ⟨_, h⟩
    · exact ⟨_, h.2⟩
  refine ⟨G.mvO i k, ⟨H.ij, H.lt, fun j => ?_, fun j b h => ?_, fun j b h => ?_, fun j j' b q1 q2 => ?_⟩, fun t => Rep.ren hh (ht t), h1, h2, ⟨f.os, f.tape, f.output, f.sz, f.blk, fun j r h => ?_, f.I, f.J, f.In, f.Jn, fun j b h => ?_⟩, h4⟩
  · show OwnOb (G.mvO i k).ρ w G.I G.J ((G.mvO i k).ρ j) ((G.mvO i k).F j) ((σ.mv i k).ob j)
    by_cases e : j = k
    · have := OwnOb.ren hh (H.own i)
      simpa [Gh.mvO, Sg.mv, e] using this
    · by_cases e2 : j = i
      · have e3 : (σ.mv i k).ob j = .dead := by simp [Sg.mv, e2, hne]
        rw [e3]
        intro b hb
        simp [Gh.mvO, e, e2, hne] at hb
      · have := OwnOb.ren hh (H.own j)
        simpa [Gh.mvO, Sg.mv, e, e2] using this
  · obtain ⟨j', h⟩ := hF j b h
    exact H.flt j' b h
  · obtain ⟨j', h⟩ := hF j b h
    exact H.fj j' b h
  · simp only [Gh.mvO] at q1 q2
    split at q1
    · split at q2
      · rename_i e1 e2; rw [e1, e2]
      · have := H.dis _ _ b q1 q2.2
        exact (q2.1 this.symm).elim
    · split at q2
      · have := H.dis _ _ b q1.2 q2
        exact (q1.1 this).elim
      · exact H.dis _ _ b q1.2 q2.2
  · have := f.rho j r h
    show (if j = k then _ else _) = _
    rw [if_neg (fun e => by subst e; rw [hr.1] at this; cases this)]
    exact this
  · obtain ⟨j', h⟩ := hF j b h
    exact f.F j' b h
theorem Sub.un1 {N : Cx} {σ : Sg} (i j t : Nat) (cs : List V) (h : σ.ob i = .box t cs) : Sub N σ (σ.put (.o i (.box t (cs.set j .un)))) := by
  intro G0 w0 a w s
  obtain ⟨G, H, ht, h1, h2, f, h4⟩ := s
  refine ⟨G, ⟨H.ij, H.lt, fun k => ?_, H.flt, H.fj, H.dis⟩, ht, h1, h2, f, h4⟩
  by_cases e : k = i
  · subst e
    have h5 := H.own k
    rw [h] at h5
    obtain ⟨r, g, cur, q1, q2, q3, q4, q5, q6⟩ := h5
    have : (σ.put (.o k (.box t (cs.set j .un)))).ob k = .box t (cs.set j .un) := by simp [Sg.put]
    rw [this]
    refine ⟨r, g, cur, q1, q2, q3, by simpa using q4, fun m x hx => ?_, q6⟩
    rw [List.getElem?_set] at hx
    split at hx
    · split at hx
      · obtain rfl := Option.some.inj hx
        exact .g (.un _)
      · cases hx
    · exact q5 m x hx
  · have : (σ.put (.o i (.box t (cs.set j .un)))).ob k = σ.ob k := by simp [Sg.put, e]
    rw [this]
    exact H.own k
section
variable {P : Program} {N : Cx} {ops : Array Oper} {K : List Tr → Sg → Prop} {k : Nat} {σ : Sg}
theorem At.litK {t d e es bytes n : Nat} {parts : Array (Nat × Operand)} (q : Nat × Nat) (j : Nat) (kill : List Nat) (cs cs' zs xs : List V) (fl : List (Nat × Nat × List V)) (hg : goes ops σ k = true) (ho : opd (opAt ops k) = (.buildSlice t n parts, some d)) (ht : (slE P t N.n d, elInfo P e, zeroCs P e, decide (0 < n) && decide (n * es ≤ 16777216)) = (some (e, es), some (es, bytes), some zs, true))
    (hf : (fillV (fun i => some (i * es, es)) (zerosV n zs) (partsEv σ parts.toList), convL q σ.ob cs, notIn j kill && nodupB kill, chunk es n cs') = (some cs, some (cs', kill), true, xs)) (hfl : kill.map σ.ob = fl.map fun p => Ob.arr p.1 p.2.1 p.2.2) (hfs : ∀ p ∈ fl, ∀ x ∈ p.2.2, (cl x).all gS = true) (hj : σ.ob j = .free)
    (r : At P N ops (k + 1) (σ.puts ((killW kill ++ [.o j (.arr e es xs)]) ++ [.t d (.ref j)])) (fun t s => K (⟨(gpOf ops σ (opAt ops k)).getD [] ++ (partsW parts.toList (partsEv σ parts.toList) ++ obW σ.ob kill ++ [.o j .free]), (killW kill ++ [.o j (.arr e es xs)]) ++ [.t d (.ref j)]⟩ :: t) s)) : At P N ops k σ K := by
  refine At.lit q j kill cs cs' zs xs hg ho ht hf (fun i hi e' es' ys h x hx => ?_) hj r
  obtain ⟨m, hm⟩ := List.getElem?_of_mem hi
  have h1 : (kill.map σ.ob)[m]? = some (σ.ob i) := by rw [List.getElem?_map, hm]; rfl
  rw [hfl, List.getElem?_map] at h1
  obtain ⟨p, hp, h2⟩ := Option.map_eq_some_iff.1 h1
  rw [h] at h2
  injection h2 with _ _ h3
  subst h3
  exact hfs p (List.mem_of_getElem? hp) x hx
end
mutual
def V.nz (es : Nat) : V → V
  | .nil => .sl false es []
  | .agg cs => .agg (nzL es cs)
  | .ref i => .ref i
  | .sub i a b => .sub i a b
  | .ptr i a b => .ptr i a b
  | .tup cs => .tup cs
  | .un => .un
  | .int k n => .int k n
  | .bool b => .bool b
  | .str s => .str s
  | .sl p es xs => .sl p es xs
  | .own e es xs => .own e es xs
  | .vp p es xs k off => .vp p es xs k off
  | .np => .np
  | .fn f => .fn f
def nzL (es : Nat) : List V → List V
  | [] => []
  | x :: l => x.nz es :: nzL es l
end
theorem nzL_get (es : Nat) : ∀ (l : List V) (j : Nat), (nzL es l)[j]? = (l[j]?).map (V.nz es)
  | [], j => by simp [nzL]
  | x :: l, 0 => by simp [nzL]
  | x :: l, j + 1 => by simp [nzL, nzL_get es l j]
theorem nzL_length (es : Nat) : ∀ (l : List V), (nzL es l).length = l.length
  | [] => rfl
  | x :: l => by simp [nzL, nzL_length es l]
theorem nz_rep {G : Gh} {w : World} {v : Value} {x : V} (es : Nat) (h : G.Rep w v x) : G.Rep w v (x.nz es) := by
  unfold Gh.Rep at h ⊢
  induction h with
  | g h =>
    cases h <;> simp only [V.nz] <;> refine .g ?_
    · exact .un _
    · exact .int _ _
    · exact .bool _
    · exact .str _
    · exact .slE _ _ _ _
    · exact .slE _ _ _ _
    · exact .sl _ _ _ _ _ _ _ ‹_› ‹_› ‹_› ‹_› ‹_› ‹_› ‹_› ‹_› ‹_›
    · exact .vp _ _ _ _ _ _ _ ‹_› ‹_› ‹_› ‹_› ‹_› ‹_›
    · exact .np
    · exact .fn _
  | agg a cs hn _ ih =>
    simp only [V.nz]
    refine .agg a _ (by rw [nzL_length]; exact hn) (fun j x hx => ?_)
    rw [nzL_get, Option.map_eq_some_iff] at hx
    obtain ⟨y, hy, rfl⟩ := hx
    exact ih j y hy
  | tup a cs hn h ih => exact .tup a cs hn h
  | ref i r v h1 h2 => exact .ref i r v h1 h2
  | sub i off len r v h1 h2 => exact .sub i off len r v h1 h2
  | ptr i k off r g h1 h2 => exact .ptr i k off r g h1 h2
theorem FnSpec.nz {P : Program} {f : Nat} {As : List V} {T : List Ob} {R : V} {T' : List Ob} (es : Nat) (h : FnSpec P f (nzL es As) T R T') : FnSpec P f As T R T' := by
  intro G w args H hs hr
  refine h G w args H (by rw [nzL_length]; exact hs) (fun k x hx => ?_)
  rw [nzL_get, Option.map_eq_some_iff] at hx
  obtain ⟨y, hy, rfl⟩ := hx
  exact nz_rep es (hr k y hy)
theorem Sub.nsl {N : Cx} {σ : Sg} (i j t es : Nat) (cs : List V) (h : (σ.ob i, cs[j]?) = (.box t cs, some .nil)) : Sub N σ (σ.put (.o i (.box t (cs.set j (.sl false es []))))) := by
  simp only [Prod.mk.injEq] at h
  obtain ⟨h, hn⟩ := h
  intro G0 w0 a w s
  obtain ⟨G, H, ht, h1, h2, f, h4⟩ := s
  refine ⟨G, ⟨H.ij, H.lt, fun k => ?_, H.flt, H.fj, H.dis⟩, ht, h1, h2, f, h4⟩
  by_cases e : k = i
  · subst e
    have h5 := H.own k
    rw [h] at h5
    obtain ⟨r, g, cur, q1, q2, q3, q4, q5, q6⟩ := h5
    have : (σ.put (.o k (.box t (cs.set j (.sl false es []))))).ob k = .box t (cs.set j (.sl false es [])) := by simp [Sg.put]
    rw [this]
    refine ⟨r, g, cur, q1, q2, q3, by simpa using q4, fun m x hx => ?_, q6⟩
    rw [List.getElem?_set] at hx
    split at hx
    · rename_i e
      subst e
      split at hx
      · obtain rfl := Option.some.inj hx
        have := q5 j .nil hn
        exact nz_rep es this
      · cases hx
    · exact q5 m x hx
  · have : (σ.put (.o i (.box t (cs.set j (.sl false es []))))).ob k = σ.ob k := by simp [Sg.put, e]
    rw [this]
    exact H.own k
theorem sayJ {n : Int} (m : Int) (e : n = m) (h : -9223372036854775808 ≤ m ∧ m ≤ 9223372036854775807) : V.int .i64 (IntKind.i64.wrap n) = V.int .i64 m := by
  subst e
  exact sayI n h
theorem sayB {b v : Bool} (h : b = v) : V.bool b = V.bool v := by rw [h]
theorem sayNT {b : Bool} (h : V.bool b = .bool false) : V.bool (!b) = .bool true := by injection h with h; rw [h]; rfl
theorem sayNF {b : Bool} (h : V.bool b = .bool true) : V.bool (!b) = .bool false := by injection h with h; rw [h]; rfl
theorem sayET {α : Type} [BEq α] [LawfulBEq α] {a b : α} (h : a = b) : V.bool (a == b) = .bool true := by rw [h]; simp
theorem sayEF {α : Type} [BEq α] [LawfulBEq α] {a b : α} (h : ¬ a = b) : V.bool (a == b) = .bool false := by rw [beq_eq_false_iff_ne.2 h]
theorem sayUT {α : Type} [BEq α] [LawfulBEq α] {a b : α} (h : ¬ a = b) : V.bool (a != b) = .bool true := by rw [bne_iff_ne.2 h]
theorem sayUF {α : Type} [BEq α] [LawfulBEq α] {a b : α} (h : a = b) : V.bool (a != b) = .bool false := by rw [h]; simp
theorem flatEnts {l : List Ent} : ∀ x ∈ l.map encEnt, (cl x).all gS = true := fun _ h => flatEnt h
theorem ofOk_iff {n : Int} : ofOk n = true ↔ n = 1 ∨ n = 3 ∨ n = 5 := by simp [ofOk, or_assoc]
end Go.Sy

