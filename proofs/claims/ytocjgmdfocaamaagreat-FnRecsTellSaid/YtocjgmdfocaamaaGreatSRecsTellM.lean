/- The walk's steps that want a word of ours. -/
import Derived.Test.YtocjgmdfocaamaaGreatSRecsTellL
set_option linter.unusedVariables false
set_option linter.unusedSimpArgs false
namespace Go.Sy
def opAt (ops : Array Oper) (k : Nat) : Oper := ops.toList.getD k ⟨none, .alloc 0, 0, "", #[], none⟩
def opd (o : Oper) : Op × Option Tmp := (o.op, o.dst)
def gpOf (ops : Array Oper) (σ : Sg) (o : Oper) : Option (List W) :=
  match o.guard with
  | none => some []
  | some (j, b) => match ((ops[j]?).bind (·.dst) : Option Tmp) with
    | some t => match stepG.skips (σ.tm t) b with
      | some false => some [.t t (.bool b)]
      | _ => none
    | none => none
def goes (ops : Array Oper) (σ : Sg) (k : Nat) : Bool := Nat.blt k ops.size && (gpOf ops σ (opAt ops k)).isSome
section
variable {P : Program} {N : Cx} {ops : Array Oper} {K : List Tr → Sg → Prop} {k : Nat} {σ : Sg}
theorem At.step2 {pre post : List W} (hg : goes ops σ k = true) (h : Step P N σ (opAt ops k) pre post) (r : At P N ops (k + 1) (σ.puts post) (fun t s => K (⟨(gpOf ops σ (opAt ops k)).getD [] ++ pre, post⟩ :: t) s)) : At P N ops k σ K := by
  simp only [goes, Bool.and_eq_true] at hg
  obtain ⟨h1, h2⟩ := hg
  have hk : k < ops.size := by simpa using h1
  have ho : ops[k]? = some (opAt ops k) := by
    unfold opAt
    rw [List.getD_eq_getElem?_getD, Array.getElem?_toList, Array.getElem?_eq_getElem hk]
    rfl
  obtain ⟨gp, hgp⟩ := Option.isSome_iff_exists.1 h2
  rw [hgp] at r
  refine At.step ho (gp := gp) ?_ ?_ h r
  · unfold gpOf at hgp
    unfold guardPre
    split at hgp
    · rename_i hgd; rw [hgd]; exact hgp
    · rename_i j b hgd
      rw [hgd]
      split at hgp
      · rename_i t ht
        simp only [ht]
        split at hgp
        · exact hgp
        · cases hgp
      · cases hgp
  · unfold gpOf at hgp
    split at hgp
    · obtain rfl := Option.some.inj hgp; trivial
    · split at hgp
      · split at hgp
        · rename_i hs
          obtain rfl := Option.some.inj hgp
          exact ⟨skips_false hs, trivial⟩
        · cases hgp
      · cases hgp
theorem opd1 {o : Oper} {a : Op} {d : Option Tmp} (h : opd o = (a, d)) : o.op = a := by rw [← (show (opd o).1 = o.op from rfl), h]
theorem opd2 {o : Oper} {a : Op} {d : Option Tmp} (h : opd o = (a, d)) : o.dst = d := by rw [← (show (opd o).2 = o.dst from rfl), h]
def slE (P : Program) (t n d : Nat) : Option (Nat × Nat) :=
  match P.underlying t with
  | some (.slice e) => match szOf P e with
    | some es => match Nat.blt d n with
      | true => some (e, es)
      | false => none
    | none => none
  | _ => none
theorem slE_of {t n d e es : Nat} (h : slE P t n d = some (e, es)) : P.underlying t = some (.slice e) ∧ szOf P e = some es ∧ d < n := by
  unfold slE at h
  split at h
  · rename_i e' hu
    split at h
    · rename_i es' hs
      split at h
      · rename_i hn
        simp only [Option.some.injEq, Prod.mk.injEq] at h
        obtain ⟨rfl, rfl⟩ := h
        exact ⟨hu, hs, by simpa using hn⟩
      · cases h
    · cases h
  · cases h
theorem At.idxSl {t d e es : Nat} {x y : Operand} {p : Bool} {xs : List V} {kd : IntKind} {i : Int} (hg : goes ops σ k = true) (ho : opd (opAt ops k) = (.indexAddr t x y, some d)) (ht : slE P t N.n d = some (e, es)) (hv : [σ.ev x, σ.ev y] = [.sl p es xs, .int kd i]) (h0 : 0 ≤ i) (h1 : i.toNat < xs.length)
    (r : At P N ops (k + 1) (σ.puts [.t d (.vp p es xs i.toNat 0)]) (fun t s => K (⟨(gpOf ops σ (opAt ops k)).getD [] ++ (opw x (.sl p es xs) ++ opw y (.int kd i)), [.t d (.vp p es xs i.toNat 0)]⟩ :: t) s)) : At P N ops k σ K := by
  obtain ⟨a1, a2, a3⟩ := slE_of ht
  simp only [List.cons.injEq, and_true] at hv
  exact At.step2 hg ⟨ok_indexSl (opd1 ho) (opd2 ho) a3 a1 a2 hv.1 hv.2 h0 h1, has2 (opw_has hv.1) (opw_has hv.2)⟩ r
theorem At.idxRef {t d e es j : Nat} {x y : Operand} {xs : List V} {kd : IntKind} {i : Int} (hg : goes ops σ k = true) (ho : opd (opAt ops k) = (.indexAddr t x y, some d)) (ht : slE P t N.n d = some (e, es)) (hv : [σ.ev x, σ.ev y] = [.ref j, .int kd i]) (hob : σ.ob j = .arr e es xs) (h0 : 0 ≤ i) (h1 : i.toNat < xs.length)
    (r : At P N ops (k + 1) (σ.puts [.t d (.ptr j i.toNat 0)]) (fun t s => K (⟨(gpOf ops σ (opAt ops k)).getD [] ++ (opw x (.ref j) ++ opw y (.int kd i) ++ [.o j (.arr e es xs)]), [.t d (.ptr j i.toNat 0)]⟩ :: t) s)) : At P N ops k σ K := by
  obtain ⟨a1, a2, a3⟩ := slE_of ht
  simp only [List.cons.injEq, and_true] at hv
  exact At.step2 hg ⟨ok_indexRef (opd1 ho) (opd2 ho) a3 a1 a2 hv.1 hob hv.2 h0 h1, has2 (has2 (opw_has hv.1) (opw_has hv.2)) ⟨hob, trivial⟩⟩ r
def ldT (P : Program) (t n d : Nat) : Option (Bool × Nat) :=
  match isA P t with
  | some b => match szOf P t with
    | some m => match Nat.blt d n with
      | true => some (b, m)
      | false => none
    | none => none
  | none => none
theorem ldT_of {t n d m : Nat} {b : Bool} (h : ldT P t n d = some (b, m)) : isA P t = some b ∧ szOf P t = some m ∧ d < n := by
  unfold ldT at h
  split at h
  · rename_i b' hu
    split at h
    · rename_i es' hs
      split at h
      · rename_i hn
        simp only [Option.some.injEq, Prod.mk.injEq] at h
        obtain ⟨rfl, rfl⟩ := h
        exact ⟨hu, hs, by simpa using hn⟩
      · cases h
    · cases h
  · cases h
theorem At.ldVp {t d es j off m : Nat} {x : Operand} {p b : Bool} {xs : List V} (y v : V) (hg : goes ops σ k = true) (ho : opd (opAt ops k) = (.load t x, some d)) (ht : ldT P t N.n d = some (b, m)) (hx : σ.ev x = .vp p es xs j off) (hy : xs[j]? = some y) (hv : loadV b m off (cl y) = some v)
    (r : At P N ops (k + 1) (σ.puts [.t d v]) (fun t s => K (⟨(gpOf ops σ (opAt ops k)).getD [] ++ opw x (.vp p es xs j off), [.t d v]⟩ :: t) s)) : At P N ops k σ K := by
  obtain ⟨a1, a2, a3⟩ := ldT_of ht
  exact At.step2 hg ⟨ok_loadVp (opd1 ho) (opd2 ho) a3 hx hy a1 a2 hv, opw_has hx⟩ r
theorem At.ldEl {t d i e es j off m : Nat} {x : Operand} {b : Bool} {xs : List V} (y v : V) (hg : goes ops σ k = true) (ho : opd (opAt ops k) = (.load t x, some d)) (ht : ldT P t N.n d = some (b, m)) (hx : σ.ev x = .ptr i j off) (hob : σ.ob i = .arr e es xs) (hy : xs[j]? = some y) (hv : (loadV b m off (cl y), (cl y).all plain) = (some v, true))
    (r : At P N ops (k + 1) (σ.puts [.t d v]) (fun t s => K (⟨(gpOf ops σ (opAt ops k)).getD [] ++ (opw x (.ptr i j off) ++ [.o i (.arr e es xs)]), [.t d v]⟩ :: t) s)) : At P N ops k σ K := by
  obtain ⟨a1, a2, a3⟩ := ldT_of ht
  simp only [Prod.mk.injEq] at hv
  exact At.step2 hg ⟨ok_loadEl (opd1 ho) (opd2 ho) a3 hx hob hy hv.2 a1 a2 hv.1, has2 (opw_has hx) ⟨hob, trivial⟩⟩ r
theorem At.stEl {t i e es j off : Nat} {x y : Operand} {xs xs' ys : List V} {v : V} (q q' : V) (hg : goes ops σ k = true) (ho : opd (opAt ops k) = (.store t x y, none)) (hx : [σ.ev x, σ.ev y] = [.ptr i j off, v]) (hob : σ.ob i = .arr e es xs) (hc : (szOf P t, cellsV v) = (some ys.length, some ys)) (hq : xs[j]? = some q)
    (hq' : (putEl es off ys q, ys.all gV && (((cl q).drop off).take ys.length).all plain) = (some q', true)) (hxs : xs' = xs.set j q')
    (r : At P N ops (k + 1) (σ.puts [.o i (.arr e es xs')]) (fun t s => K (⟨(gpOf ops σ (opAt ops k)).getD [] ++ (opw x (.ptr i j off) ++ opw y v ++ [.o i (.arr e es xs)]), [.o i (.arr e es xs')]⟩ :: t) s)) : At P N ops k σ K := by
  simp only [List.cons.injEq, and_true] at hx
  simp only [Prod.mk.injEq, Bool.and_eq_true] at hc hq'
  exact At.step2 hg ⟨ok_storeEl (opd1 ho) (opd2 ho) hx.1 hx.2 hob hc.1 hc.2 hq'.2.1 rfl hq hq'.2.2 hq'.1 hxs, has2 (has2 (opw_has hx.1) (opw_has hx.2)) ⟨hob, trivial⟩⟩ r
theorem At.append {t d e es bytes : Nat} {s x : Operand} {S T : V} {xs ys : List V} (j : Nat) (kill1 kill2 : List Nat) (zs : List V) (hg : goes ops σ k = true) (ho : opd (opAt ops k) = (.call { callee := .builtin .append, args := #[s, x], argTypes := #[t, t] }, some d)) (ht : (slE P t N.n d, elInfo P e) = (some (e, es), some (es, bytes)))
    (hv : [σ.ev s, σ.ev x] = [S, T]) (hf : FirstIs σ.ob S e es xs kill1) (hs : SecondIs σ.ob T e es ys kill2) (hk : (notIn j (kill1 ++ kill2) && kill1.all (notIn · kill2)) = true) (hj : σ.ob j = .free) (hz : xs ++ ys = zs) (hb : (xs.length + ys.length) * bytes ≤ 140737488355328) (hm : xs.length + ys.length ≤ 9223372036854775807)
    (r : At P N ops (k + 1) (σ.puts ((killW (kill1 ++ kill2) ++ [.o j (.arr e es zs)]) ++ [.t d (.ref j)])) (fun t s' => K (⟨(gpOf ops σ (opAt ops k)).getD [] ++ (opw s S ++ opw x T ++ obW σ.ob (obK S) ++ obW σ.ob (obK T) ++ [.o j .free]), (killW (kill1 ++ kill2) ++ [.o j (.arr e es zs)]) ++ [.t d (.ref j)]⟩ :: t) s')) : At P N ops k σ K := by
  simp only [Prod.mk.injEq] at ht
  obtain ⟨a1, a2, a3⟩ := slE_of ht.1
  simp only [List.cons.injEq, and_true] at hv
  exact At.step2 hg ⟨ok_append (opd1 ho) (opd2 ho) a3 a1 ht.2 hv.1 hv.2 hf hs hk hz hb hm, has2 (has2 (has2 (has2 (opw_has hv.1) (opw_has hv.2)) (obW_self σ _)) (obW_self σ _)) ⟨hj, trivial⟩⟩ r
def boundV (σ : Sg) (x : Option Operand) : V := match x with
  | some y => σ.ev y
  | none => .un
theorem bound_h {x : Option Operand} {v : V} {n m : Nat} (hv : boundV σ x = v) (h : (x = none ∧ n = m) ∨ ∃ y k, x = some y ∧ v = .int k (n : Int)) : (x = none ∧ n = m) ∨ ∃ y k, x = some y ∧ v = .int k (n : Int) ∧ σ.ev y = v := by
  rcases h with h | ⟨y, k, h1, h2⟩
  · exact .inl h
  · subst h1
    exact .inr ⟨y, k, rfl, h2, hv⟩
theorem bound_w {x : Option Operand} {v : V} {n m : Nat} (h : (x = none ∧ n = m) ∨ ∃ y k, x = some y ∧ v = .int k (n : Int) ∧ σ.ev y = v) : σ.has (boW x v) := by
  rcases h with ⟨rfl, _⟩ | ⟨y, k, rfl, _, h⟩
  · trivial
  · exact opw_has h
theorem At.sliceRef {t d e es i : Nat} {x : Operand} {lx hx : Option Operand} {xs : List V} {vl vh : V} (lo hi : Nat) (hg : goes ops σ k = true) (ho : opd (opAt ops k) = (.slice t x lx hx none, some d)) (ht : slE P t N.n d = some (e, es)) (hv : [σ.ev x, boundV σ lx, boundV σ hx] = [.ref i, vl, vh]) (hob : σ.ob i = .arr e es xs)
    (hl : (lx = none ∧ lo = 0) ∨ ∃ y k, lx = some y ∧ vl = .int k (lo : Int)) (hh : (hx = none ∧ hi = xs.length) ∨ ∃ y k, hx = some y ∧ vh = .int k (hi : Int)) (h1 : lo ≤ hi) (h2 : hi ≤ xs.length)
    (r : At P N ops (k + 1) (σ.puts [.t d (.sub i lo (hi - lo))]) (fun t s => K (⟨(gpOf ops σ (opAt ops k)).getD [] ++ (opw x (.ref i) ++ boW lx vl ++ boW hx vh ++ [.o i (.arr e es xs)]), [.t d (.sub i lo (hi - lo))]⟩ :: t) s)) : At P N ops k σ K := by
  obtain ⟨a1, a2, a3⟩ := slE_of ht
  simp only [List.cons.injEq, and_true] at hv
  have b1 := bound_h hv.2.1 hl
  have b2 := bound_h hv.2.2 hh
  exact At.step2 hg ⟨ok_sliceRef (opd1 ho) (opd2 ho) a3 a1 a2 hv.1 hob b1 b2 h1 h2, has2 (has2 (has2 (opw_has hv.1) (bound_w b1)) (bound_w b2)) ⟨hob, trivial⟩⟩ r
theorem At.cutRef {t d e es i : Nat} {x : Operand} {lx hx : Option Operand} {xs : List V} {vl vh : V} (j hi : Nat) (ys : List V) (hg : goes ops σ k = true) (ho : opd (opAt ops k) = (.slice t x lx hx none, some d)) (ht : slE P t N.n d = some (e, es)) (hv : [σ.ev x, boundV σ lx, boundV σ hx] = [.ref i, vl, vh]) (hob : σ.ob i = .arr e es xs) (hj : σ.ob j = .free) (hne : i ≠ j)
    (hl : (lx = none ∧ 0 = 0) ∨ ∃ y k, lx = some y ∧ vl = .int k ((0 : Nat) : Int)) (hh : (hx = none ∧ hi = xs.length) ∨ ∃ y k, hx = some y ∧ vh = .int k (hi : Int)) (h2 : hi ≤ xs.length) (hy : xs.take hi = ys)
    (r : At P N ops (k + 1) (σ.puts ((killW [i] ++ [.o j (.arr e es ys)]) ++ [.t d (.ref j)])) (fun t s => K (⟨(gpOf ops σ (opAt ops k)).getD [] ++ (opw x (.ref i) ++ boW lx vl ++ boW hx vh ++ [.o i (.arr e es xs), .o j .free]), (killW [i] ++ [.o j (.arr e es ys)]) ++ [.t d (.ref j)]⟩ :: t) s)) : At P N ops k σ K := by
  obtain ⟨a1, a2, a3⟩ := slE_of ht
  simp only [List.cons.injEq, and_true] at hv
  have b1 := bound_h hv.2.1 hl
  have b2 := bound_h hv.2.2 hh
  exact At.step2 hg ⟨ok_cutRef (opd1 ho) (opd2 ho) a3 a1 a2 hv.1 hob b1 b2 h2 hne hy, has2 (has2 (has2 (opw_has hv.1) (bound_w b1)) (bound_w b2)) ⟨hob, hj, trivial⟩⟩ r
theorem At.sliceSl {t d e es : Nat} {x : Operand} {lx hx : Option Operand} {p : Bool} {xs : List V} {vl vh : V} (lo hi : Nat) (ys : List V) (hg : goes ops σ k = true) (ho : opd (opAt ops k) = (.slice t x lx hx none, some d)) (ht : slE P t N.n d = some (e, es)) (hv : [σ.ev x, boundV σ lx, boundV σ hx] = [.sl p es xs, vl, vh])
    (hl : (lx = none ∧ lo = 0) ∨ ∃ y k, lx = some y ∧ vl = .int k (lo : Int)) (hh : (hx = none ∧ hi = xs.length) ∨ ∃ y k, hx = some y ∧ vh = .int k (hi : Int)) (h1 : lo ≤ hi) (h2 : hi ≤ xs.length) (hy : (xs.drop lo).take (hi - lo) = ys)
    (r : At P N ops (k + 1) (σ.puts [.t d (.sl p es ys)]) (fun t s => K (⟨(gpOf ops σ (opAt ops k)).getD [] ++ (opw x (.sl p es xs) ++ boW lx vl ++ boW hx vh), [.t d (.sl p es ys)]⟩ :: t) s)) : At P N ops k σ K := by
  obtain ⟨a1, a2, a3⟩ := slE_of ht
  simp only [List.cons.injEq, and_true] at hv
  have b1 := bound_h hv.2.1 hl
  have b2 := bound_h hv.2.2 hh
  exact At.step2 hg ⟨ok_sliceSl (opd1 ho) (opd2 ho) a3 a1 a2 hv.1 b1 b2 h1 h2 hy, has2 (has2 (opw_has hv.1) (bound_w b1)) (bound_w b2)⟩ r
theorem At.make {t d e es bytes : Nat} {x y : Operand} {ka kb : IntKind} {zs : List V} (j n : Nat) (xs : List V) (hg : goes ops σ k = true) (ho : opd (opAt ops k) = (.makeSlice t x y, some d)) (ht : (slE P t N.n d, elInfo P e, zeroCs P e, zs.all gS) = (some (e, es), some (es, bytes), some zs, true))
    (hv : [σ.ev x, σ.ev y] = [.int ka (n : Int), .int kb (n : Int)]) (hj : σ.ob j = .free) (hb : bytes * n ≤ 281474976710656) (hm : n ≤ 9223372036854775807) (hxs : List.replicate n (zeroEl zs) = xs)
    (r : At P N ops (k + 1) (σ.puts ([.o j (.arr e es xs)] ++ [.t d (.ref j)])) (fun t s => K (⟨(gpOf ops σ (opAt ops k)).getD [] ++ (opw x (.int ka (n : Int)) ++ opw y (.int kb (n : Int)) ++ [.o j .free]), [.o j (.arr e es xs)] ++ [.t d (.ref j)]⟩ :: t) s)) : At P N ops k σ K := by
  simp only [Prod.mk.injEq] at ht
  obtain ⟨ht, ht2, ht3, ht4⟩ := ht
  obtain ⟨a1, a2, a3⟩ := slE_of ht
  simp only [List.cons.injEq, and_true] at hv
  exact At.step2 hg ⟨ok_make (opd1 ho) (opd2 ho) a3 a1 ht2 ht3 ht4 hv.1 hv.2 hb hm hxs, has2 (has2 (opw_has hv.1) (opw_has hv.2)) ⟨hj, trivial⟩⟩ r
theorem At.lit0 {t d e es bytes : Nat} (j : Nat) (hg : goes ops σ k = true) (ho : opd (opAt ops k) = (.buildSlice t 0 #[], some d)) (ht : (slE P t N.n d, elInfo P e) = (some (e, es), some (es, bytes))) (hj : σ.ob j = .free)
    (r : At P N ops (k + 1) (σ.puts ([.o j (.arr e es [])] ++ [.t d (.ref j)])) (fun t s => K (⟨(gpOf ops σ (opAt ops k)).getD [] ++ [.o j .free], [.o j (.arr e es [])] ++ [.t d (.ref j)]⟩ :: t) s)) : At P N ops k σ K := by
  simp only [Prod.mk.injEq] at ht
  obtain ⟨a1, a2, a3⟩ := slE_of ht.1
  exact At.step2 hg ⟨ok_lit0 (opd1 ho) rfl (opd2 ho) a3 a1 ht.2, ⟨hj, trivial⟩⟩ r
theorem At.lit {t d e es bytes n : Nat} {parts : Array (Nat × Operand)} (q : Nat × Nat) (j : Nat) (kill : List Nat) (cs cs' zs xs : List V) (hg : goes ops σ k = true) (ho : opd (opAt ops k) = (.buildSlice t n parts, some d)) (ht : (slE P t N.n d, elInfo P e, zeroCs P e, decide (0 < n) && decide (n * es ≤ 16777216)) = (some (e, es), some (es, bytes), some zs, true))
    (hf : (fillV (fun i => some (i * es, es)) (zerosV n zs) (partsEv σ parts.toList), convL q σ.ob cs, notIn j kill && nodupB kill, chunk es n cs') = (some cs, some (cs', kill), true, xs)) (hfl : ∀ i ∈ kill, ∀ e es ys, σ.ob i = .arr e es ys → ∀ x ∈ ys, (cl x).all gS = true) (hj : σ.ob j = .free)
    (r : At P N ops (k + 1) (σ.puts ((killW kill ++ [.o j (.arr e es xs)]) ++ [.t d (.ref j)])) (fun t s => K (⟨(gpOf ops σ (opAt ops k)).getD [] ++ (partsW parts.toList (partsEv σ parts.toList) ++ obW σ.ob kill ++ [.o j .free]), (killW kill ++ [.o j (.arr e es xs)]) ++ [.t d (.ref j)]⟩ :: t) s)) : At P N ops k σ K := by
  simp only [Prod.mk.injEq] at ht hf
  obtain ⟨ht, ht2, ht3, ht4⟩ := ht
  obtain ⟨f1, f2, f3, f4⟩ := hf
  obtain ⟨a1, a2, a3⟩ := slE_of ht
  exact At.step2 hg ⟨ok_lit q (opd1 ho) (opd2 ho) a3 a1 ht2 ht3 ht4 rfl f1 f2 f3 hfl f4, has2 (has2 (partsW_has σ _) (obW_self σ _)) ⟨hj, trivial⟩⟩ r
def dstW (d : Option Tmp) (x : V) : List W := match d with
  | some d => [.t d x]
  | none => []
def callOf (o : Oper) : Option (Nat × List Operand) := match o.op with
  | .call c => match c.callee with
    | .value x => match x with
      | .func f => some (f, c.args.toList)
      | _ => none
    | _ => none
  | _ => none
theorem freeW_self {M : List (Nat × Nat)} (h : ∀ p ∈ M, σ.ob p.1 = .free) : σ.has (freeW M) := by
  induction M with
  | nil => trivial
  | cons a l ih => exact ⟨h a List.mem_cons_self, ih (fun p hp => h p (List.mem_cons_of_mem _ hp))⟩
def isFree : Ob → Bool
  | .free => true
  | _ => false
def argsAt (ops : Array Oper) (k : Nat) : List Operand := ((callOf (opAt ops k)).getD (0, [])).2
theorem At.callG {f : Nat} {As : List V} {T T' : List Ob} {R : V} (hcall : ∀ args w, (callFunc f args).run P w = .ok (.enter f args) w) (q : Bool) (L M : List (Nat × Nat)) (hs : ∀ (G0 G : Gh) (w0 w : World), N.q G0 w0 → Fr G0 w0 G w → SpecAt P f As T R T' (G.lend q L) w) (ro : List (Nat × Nat × List V)) (hg : goes ops σ k = true) (ho : (callOf (opAt ops k)).map Prod.fst = some f)
    (hA : viewL L ro (evs σ (argsAt ops k)) = As) (hT : (L.map fun p => (σ.ob p.1).ren (hOf L)) = T)
    (hL : ((match (opAt ops k).dst with
      | some d => decide (d < N.n)
      | none => true) && (okL (L ++ M) && (L.map Prod.snd == List.range T.length) && L.all (fun p => live (σ.ob p.1)) && (!q || ro.isEmpty)) && M.all (fun p => isFree (σ.ob p.1))) = true) (hro : RoOk σ.ob L ro)
    (r : At P N ops (k + 1) (σ.puts (backW q T' (L ++ M) (L ++ M) ++ dstW (opAt ops k).dst (R.bk q (L ++ M)))) (fun t s => K (⟨(gpOf ops σ (opAt ops k)).getD [] ++ (argsW (argsAt ops k) (evs σ (argsAt ops k)) ++ obW σ.ob (L.map Prod.fst) ++ obW σ.ob (ro.map Prod.fst) ++ freeW M), backW q T' (L ++ M) (L ++ M) ++ dstW (opAt ops k).dst (R.bk q (L ++ M))⟩ :: t) s)) : At P N ops k σ K := by
  simp only [Bool.and_eq_true] at hL
  obtain ⟨⟨hL1, hL2⟩, hL3⟩ := hL
  have hM : ∀ p ∈ M, σ.ob p.1 = .free := by
    intro p hp
    have := (List.all_eq_true.1 hL3) p hp
    cases h : σ.ob p.1 <;> rw [h] at this <;> first | rfl | (simp [isFree] at this)
  obtain ⟨⟨f0, xs⟩, ho', hf0⟩ := Option.map_eq_some_iff.1 ho
  clear ho
  simp only at hf0
  subst hf0
  have hxs : argsAt ops k = xs := by unfold argsAt; rw [ho']; rfl
  rw [hxs] at hA r
  have ho := ho'
  clear ho'
  unfold callOf at ho
  split at ho
  · rename_i c hc
    split at ho
    · rename_i x hcal
      split at ho
      · rename_i f'
        simp only [Option.some.injEq, Prod.mk.injEq] at ho
        obtain ⟨rfl, rfl⟩ := ho
        have hop : (opAt ops k).op = .call { callee := .value (.func f'), args := c.args, argTypes := c.argTypes } := by
          rw [hc]
          obtain ⟨c1, c2, c3⟩ := c
          simp only at hcal
          rw [hcal]
        have := ok_callG (P := P) (N := N) (o := opAt ops k) q L M ro hop hL1 hcall hs _ rfl hA hT (by simpa only [Bool.and_eq_true] using hL2) hro
        refine At.step2 hg ⟨?_, has2 (has2 (has2 (argsW_has σ _) (obW_self σ _)) (obW_self σ _)) (freeW_self hM)⟩ r
        unfold dstW
        exact this
      · cases ho
    · cases ho
  · cases ho
theorem At.call {f : Nat} {As : List V} {T T' : List Ob} {R : V} (hs : FnSpec P f As T R T') (hcall : ∀ args w, (callFunc f args).run P w = .ok (.enter f args) w) (q : Bool) (L M : List (Nat × Nat)) (ro : List (Nat × Nat × List V)) (hg : goes ops σ k = true) (ho : (callOf (opAt ops k)).map Prod.fst = some f)
    (hA : viewL L ro (evs σ (argsAt ops k)) = As) (hT : (L.map fun p => (σ.ob p.1).ren (hOf L)) = T)
    (hL : ((match (opAt ops k).dst with
      | some d => decide (d < N.n)
      | none => true) && (okL (L ++ M) && (L.map Prod.snd == List.range T.length) && L.all (fun p => live (σ.ob p.1)) && (!q || ro.isEmpty)) && M.all (fun p => isFree (σ.ob p.1))) = true) (hro : RoOk σ.ob L ro)
    (r : At P N ops (k + 1) (σ.puts (backW q T' (L ++ M) (L ++ M) ++ dstW (opAt ops k).dst (R.bk q (L ++ M)))) (fun t s => K (⟨(gpOf ops σ (opAt ops k)).getD [] ++ (argsW (argsAt ops k) (evs σ (argsAt ops k)) ++ obW σ.ob (L.map Prod.fst) ++ obW σ.ob (ro.map Prod.fst) ++ freeW M), backW q T' (L ++ M) (L ++ M) ++ dstW (opAt ops k).dst (R.bk q (L ++ M))⟩ :: t) s)) : At P N ops k σ K :=
  At.callG hcall q L M (fun _ G _ w _ _ args => hs (G.lend q L) w args) ro hg ho hA hT hL hro r
theorem AW.loopW {c : Code} {K : Exit → Sg → Prop} {β : Type} (S : β → Sg) (R : β → Prop) (m : β → Nat) (x : β) (hx : R x) (h0 : Sub N σ (S x))
    (round : ∀ x, R x → AW P N c (S x) (thenK (fun σ' => ∃ y, R y ∧ m y < m x ∧ Sub N σ' (S y)) K)) : AW P N (.loop c) σ K := AW.weak h0 (AW.loop S R m x hx round)
theorem sayI (n : Int) (h : -9223372036854775808 ≤ n ∧ n ≤ 9223372036854775807) : V.int .i64 (IntKind.i64.wrap n) = V.int .i64 n := by
  rw [IntKind.wrap_i64 n]
  congr 1
  omega
theorem sayT {p : Prop} [Decidable p] (h : p) : V.bool (decide p) = .bool true := by rw [decide_eq_true h]
theorem sayF {p : Prop} [Decidable p] (h : ¬ p) : V.bool (decide p) = .bool false := by rw [decide_eq_false h]
end
end Go.Sy

