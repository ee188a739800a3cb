/- The walk's steps again, with what the kernel reckons by itself left out: short forms for printed texts. -/
import Derived.Test.YtocjgmdfocaamaaGreatSRecsTellX
set_option linter.unusedVariables false
set_option linter.unusedSimpArgs false
namespace Go.Sy
section
variable {P : Program} {N : Cx} {ops : Array Oper} {K : List Tr → Sg → Prop} {k : Nat} {σ : Sg}
theorem getD_get {α : Type} {o : Option α} (h : o.isSome = true) (d : α) : o.getD d = o.get h := by
  obtain ⟨x, rfl⟩ := Option.isSome_iff_exists.1 h
  rfl
theorem At.a (m : Nat) (r : At P N ops (k + m) ((autoS P N.n ops k m σ).getD ([], σ)).2 (fun t s => K (((autoS P N.n ops k m σ).getD ([], σ)).1 ++ t) s)) (h : (autoS P N.n ops k m σ).isSome = true := by kernel_rfl) : At P N ops k σ K := by
  rw [getD_get h] at r
  exact At.auto m h r
theorem At.sI (d : Nat) (n : Int) (hb : -9223372036854775808 ≤ n ∧ n ≤ 9223372036854775807) (r : At P N ops k (σ.put (.t d (.int .i64 n))) K) (h : σ.tm d = .int .i64 (IntKind.i64.wrap n) := by kernel_rfl) : At P N ops k σ K := At.say d _ _ h (sayI n hb) r
theorem At.sJ (d : Nat) (n m : Int) (e : n = m) (hb : -9223372036854775808 ≤ m ∧ m ≤ 9223372036854775807) (r : At P N ops k (σ.put (.t d (.int .i64 m))) K) (h : σ.tm d = .int .i64 (IntKind.i64.wrap n) := by kernel_rfl) : At P N ops k σ K := At.say d _ _ h (sayJ m e hb) r
theorem At.sL {α : Type} (d : Nat) (f : α → V) (l : List α) (r : At P N ops k (σ.put (.t d (.int .i64 (l.length : Int)))) K) (h : σ.tm d = .int .i64 (((l.map f).length : Nat) : Int) := by kernel_rfl) : At P N ops k σ K := At.say d _ _ h (sayLen f l) r
theorem At.sB (d : Nat) (b v : Bool) (e : V.bool b = V.bool v) (r : At P N ops k (σ.put (.t d (.bool v))) K) (h : σ.tm d = .bool b := by kernel_rfl) : At P N ops k σ K := At.say d _ _ h e r
theorem At.iSl (t d : Nat) (x y : Operand) (p : Bool) (es : Nat) (xs : List V) (kd : IntKind) (i : Int) (e : Nat) (h0 : 0 ≤ i) (h1 : i.toNat < xs.length)
    (r : At P N ops (k + 1) (σ.puts [.t d (.vp p es xs i.toNat 0)]) (fun t s => K (⟨(gpOf ops σ (opAt ops k)).getD [] ++ (opw x (.sl p es xs) ++ opw y (.int kd i)), [.t d (.vp p es xs i.toNat 0)]⟩ :: t) s)) (hg : goes ops σ k = true := by kernel_rfl) (ho : opd (opAt ops k) = (.indexAddr t x y, some d) := by kernel_rfl) (ht : slE P t N.n d = some (e, es) := by kernel_rfl) (hv : [σ.ev x, σ.ev y] = [.sl p es xs, .int kd i] := by kernel_rfl) : At P N ops k σ K := At.idxSl hg ho ht hv h0 h1 r
theorem At.iRf (t d : Nat) (x y : Operand) (j : Nat) (xs : List V) (kd : IntKind) (i : Int) (e es : Nat) (h0 : 0 ≤ i) (h1 : i.toNat < xs.length)
    (r : At P N ops (k + 1) (σ.puts [.t d (.ptr j i.toNat 0)]) (fun t s => K (⟨(gpOf ops σ (opAt ops k)).getD [] ++ (opw x (.ref j) ++ opw y (.int kd i) ++ [.o j (.arr e es xs)]), [.t d (.ptr j i.toNat 0)]⟩ :: t) s)) (hg : goes ops σ k = true := by kernel_rfl) (ho : opd (opAt ops k) = (.indexAddr t x y, some d) := by kernel_rfl) (ht : slE P t N.n d = some (e, es) := by kernel_rfl) (hv : [σ.ev x, σ.ev y] = [.ref j, .int kd i] := by kernel_rfl) (hob : σ.ob j = .arr e es xs := by kernel_rfl) : At P N ops k σ K := At.idxRef hg ho ht hv hob h0 h1 r
theorem At.lVp (t d : Nat) (x : Operand) (p : Bool) (es : Nat) (xs : List V) (j off : Nat) (b : Bool) (m : Nat) (y v : V) (hy : xs[j]? = some y)
    (r : At P N ops (k + 1) (σ.puts [.t d v]) (fun t s => K (⟨(gpOf ops σ (opAt ops k)).getD [] ++ opw x (.vp p es xs j off), [.t d v]⟩ :: t) s)) (hg : goes ops σ k = true := by kernel_rfl) (ho : opd (opAt ops k) = (.load t x, some d) := by kernel_rfl) (ht : ldT P t N.n d = some (b, m) := by kernel_rfl) (hx : σ.ev x = .vp p es xs j off := by kernel_rfl) (hv : loadV b m off (cl y) = some v := by kernel_rfl) : At P N ops k σ K := At.ldVp y v hg ho ht hx hy hv r
theorem At.lEl (t d : Nat) (x : Operand) (i e es : Nat) (xs : List V) (j off : Nat) (b : Bool) (m : Nat) (y v : V) (hy : xs[j]? = some y)
    (r : At P N ops (k + 1) (σ.puts [.t d v]) (fun t s => K (⟨(gpOf ops σ (opAt ops k)).getD [] ++ (opw x (.ptr i j off) ++ [.o i (.arr e es xs)]), [.t d v]⟩ :: t) s)) (hg : goes ops σ k = true := by kernel_rfl) (ho : opd (opAt ops k) = (.load t x, some d) := by kernel_rfl) (ht : ldT P t N.n d = some (b, m) := by kernel_rfl) (hx : σ.ev x = .ptr i j off := by kernel_rfl) (hob : σ.ob i = .arr e es xs := by kernel_rfl) (hv : (loadV b m off (cl y), (cl y).all plain) = (some v, true) := by kernel_rfl) : At P N ops k σ K := At.ldEl y v hg ho ht hx hob hy hv r
theorem At.sEl (t i e es j off : Nat) (x y : Operand) (xs xs' ys : List V) (v q q' : V) (hq : xs[j]? = some q) (hxs : xs' = xs.set j q')
    (r : At P N ops (k + 1) (σ.puts [.o i (.arr e es xs')]) (fun t s => K (⟨(gpOf ops σ (opAt ops k)).getD [] ++ (opw x (.ptr i j off) ++ opw y v ++ [.o i (.arr e es xs)]), [.o i (.arr e es xs')]⟩ :: t) s)) (hg : goes ops σ k = true := by kernel_rfl) (ho : opd (opAt ops k) = (.store t x y, none) := by kernel_rfl) (hx : [σ.ev x, σ.ev y] = [.ptr i j off, v] := by kernel_rfl) (hob : σ.ob i = .arr e es xs := by kernel_rfl) (hc : (szOf P t, cellsV v) = (some ys.length, some ys) := by kernel_rfl)
    (hq' : (putEl es off ys q, ys.all gV && (((cl q).drop off).take ys.length).all plain) = (some q', true) := by kernel_rfl) : At P N ops k σ K := At.stEl q q' hg ho hx hob hc hq hq' hxs r
theorem At.c {f : Nat} {As : List V} {T T' : List Ob} {R : V} (hs : FnSpec P f As T R T') (hcall : ∀ args w, (callFunc f args).run P w = .ok (.enter f args) w) (q : Bool) (L M : List (Nat × Nat)) (ro : List (Nat × Nat × List V)) (hro : RoOk σ.ob L ro)
    (r : At P N ops (k + 1) (σ.puts (backW q T' (L ++ M) (L ++ M) ++ dstW (opAt ops k).dst (R.bk q (L ++ M)))) (fun t s => K (⟨(gpOf ops σ (opAt ops k)).getD [] ++ (argsW (argsAt ops k) (evs σ (argsAt ops k)) ++ obW σ.ob (L.map Prod.fst) ++ obW σ.ob (ro.map Prod.fst) ++ freeW M), backW q T' (L ++ M) (L ++ M) ++ dstW (opAt ops k).dst (R.bk q (L ++ M))⟩ :: t) s)) (hg : goes ops σ k = true := by kernel_rfl) (ho : (callOf (opAt ops k)).map Prod.fst = some f := by kernel_rfl)
    (hA : viewL L ro (evs σ (argsAt ops k)) = As := by kernel_rfl) (hT : (L.map fun p => (σ.ob p.1).ren (hOf L)) = T := by kernel_rfl)
    (hL : ((match (opAt ops k).dst with
      | some d => decide (d < N.n)
      | none => true) && (okL (L ++ M) && (L.map Prod.snd == List.range T.length) && L.all (fun p => live (σ.ob p.1)) && (!q || ro.isEmpty)) && M.all (fun p => isFree (σ.ob p.1))) = true := by kernel_rfl) : At P N ops k σ K := At.call hs hcall q L M ro hg ho hA hT hL hro r
theorem KF.m {m : Nat} {rs : List ResultVar} {R : V} {T' : List Ob} {e : Exit} (L : List (Nat × Nat)) (vs : List V) (he : e = .normal ∨ e = .ret := by first | exact .inr rfl | exact .inl rfl) (h1 : (okL L && fixes m L) = true := by kernel_rfl) (h2 : resV P σ rs = some vs := by kernel_rfl) (h3 : R = (resOf vs).ren (hOf L) := by kernel_rfl) (h4 : L.map Prod.snd = List.range T'.length := by kernel_rfl) (h5 : T' = L.map fun p => (σ.ob p.1).ren (hOf L) := by kernel_rfl) : KF P m rs R T' e σ := KF.mk he L vs h1 h2 h3 h4 h5
theorem Sub.o (L : List (Nat × Nat)) (mask : List Bool) {tl : List V} {ol : List (Nat × Ob)} (hL : (okL L && fixes N.m L) = true := by kernel_rfl) (ht : tl = keepT σ (hOf L) 0 mask := by kernel_rfl) (ho : ol = keepO σ (hOf L) L := by kernel_rfl) : Sub N σ (Go.Sy.mk tl ol) := Sub.of L mask tl ol hL ht ho
end
section
variable {P : Program} {N : Cx} {σ : Sg} {K : Exit → Sg → Prop}
theorem AW.cD {c : Operand} {x y : Code} (p : Prop) [Decidable p] (h1 : p → AW P N x σ K) (h2 : ¬ p → AW P N y σ K) (hc : σ.ev c = .bool (decide p) := by kernel_rfl) : AW P N (.cond c x y) σ K :=
  AW.cond _ hc (fun h => h1 (of_decide_eq_true h)) (fun h => h2 (of_decide_eq_false h))
theorem AW.cE {α : Type} [BEq α] [LawfulBEq α] {c : Operand} {x y : Code} (a b : α) (h1 : a = b → AW P N x σ K) (h2 : ¬ a = b → AW P N y σ K) (hc : σ.ev c = .bool (a == b) := by kernel_rfl) : AW P N (.cond c x y) σ K :=
  AW.cond _ hc (fun h => h1 (eq_of_beq h)) (fun h => h2 (ne_of_beq_false h))
theorem AW.cU {α : Type} [BEq α] [LawfulBEq α] {c : Operand} {x y : Code} (a b : α) (h1 : ¬ a = b → AW P N x σ K) (h2 : a = b → AW P N y σ K) (hc : σ.ev c = .bool (a != b) := by kernel_rfl) : AW P N (.cond c x y) σ K :=
  AW.cond _ hc (fun h => h1 (bne_iff_ne.1 h)) (fun h => h2 (by simpa using h))
theorem AW.cB {c : Operand} {x y : Code} (b : Bool) (h1 : b = true → AW P N x σ K) (h2 : b = false → AW P N y σ K) (hc : σ.ev c = .bool b := by kernel_rfl) : AW P N (.cond c x y) σ K := AW.cond _ hc h1 h2
theorem AW.cNB {c : Operand} {x y : Code} (b : Bool) (h1 : b = false → AW P N x σ K) (h2 : b = true → AW P N y σ K) (hc : σ.ev c = .bool (!b) := by kernel_rfl) : AW P N (.cond c x y) σ K := AW.cond _ hc (fun h => h1 (by simpa using h)) (fun h => h2 (by simpa using h))
theorem AW.r {c : Code} {id : Nat} {ops : Array Oper} (h : At P N ops 0 σ (fun _ s => thenK (fun s' => AW P N c s' K) K .normal s)) : AW P N (.seq (.region id ops false) c) σ K := AW.seq (AW.region (At.start h))
end
end Go.Sy

