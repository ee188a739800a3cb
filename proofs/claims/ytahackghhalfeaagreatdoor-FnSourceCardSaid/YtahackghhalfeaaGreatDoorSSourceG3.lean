/- The program logic with symbolic states that this claim stands on (a text of several, laid together). -/
import Derived.Test.YtahackghhalfeaaGreatDoorSSourceG2
import Derived.DeepKeys
import Derived.Laws.StructEq
import Derived.BigFrame
import Derived.Laws.IdiomStrings
import Derived.Below
import Derived.ChangeArms
import Derived.ChangeShapes
import Derived.Deep.Slices
import Derived.DataReads
import Derived.WalkKit
import Derived.Lib.AppendStr
import Derived.Lib.Join
section
set_option linter.unusedVariables false
set_option linter.unusedSimpArgs false
namespace Go.Sy
def opAt (ops : Array Oper) (k : Nat) : Oper := ops.toList.getD k ⟨none, .alloc 0, 0, "", #[], none⟩
def opd (o : Oper) : Op × Option Tmp := (o.op, o.dst)
def gpOf (ops : Array Oper) (σ : Sg) (o : Oper) : Option (List W) :=
  match o.guard with
  | none => some []
  | some (j, b) => match ((ops[j]?).bind (·.dst) : Option Tmp) with
    | some t => match stepG.skips (σ.tm t) b with
      | some false => some [.t t (.bool b)]
      | _ => none
    | none => none
def goes (ops : Array Oper) (σ : Sg) (k : Nat) : Bool := Nat.blt k ops.size && (gpOf ops σ (opAt ops k)).isSome
section
variable {P : Program} {N : Cx} {ops : Array Oper} {K : List Tr → Sg → Prop} {k : Nat} {σ : Sg}
theorem At.step2 {pre post : List W} (hg : goes ops σ k = true) (h : Step P N σ (opAt ops k) pre post) (r : At P N ops (k + 1) (σ.puts post) (fun t s => K (⟨(gpOf ops σ (opAt ops k)).getD [] ++ pre, post⟩ :: t) s)) : At P N ops k σ K := by
  simp only [goes, Bool.and_eq_true] at hg
  obtain ⟨h1, h2⟩ := hg
  have hk : k < ops.size := by simpa using h1
  have ho : ops[k]? = some (opAt ops k) := by
    unfold opAt
    rw [List.getD_eq_getElem?_getD, Array.getElem?_toList, Array.getElem?_eq_getElem hk]
    rfl
  obtain ⟨gp, hgp⟩ := Option.isSome_iff_exists.1 h2
  rw [hgp] at r
  refine At.step ho (gp := gp) ?_ ?_ h r
  · unfold gpOf at hgp
    unfold guardPre
    split at hgp
    · rename_i hgd; rw [hgd]; exact hgp
    · rename_i j b hgd
      rw [hgd]
      split at hgp
      · rename_i t ht
        simp only [ht]
        split at hgp
        · exact hgp
        · cases hgp
      · cases hgp
  · unfold gpOf at hgp
    split at hgp
    · obtain rfl := Option.some.inj hgp; trivial
    · split at hgp
      · split at hgp
        · rename_i hs
          obtain rfl := Option.some.inj hgp
          exact ⟨skips_false hs, trivial⟩
        · cases hgp
      · cases hgp
theorem opd1 {o : Oper} {a : Op} {d : Option Tmp} (h : opd o = (a, d)) : o.op = a := by rw [← (show (opd o).1 = o.op from rfl), h]
theorem opd2 {o : Oper} {a : Op} {d : Option Tmp} (h : opd o = (a, d)) : o.dst = d := by rw [← (show (opd o).2 = o.dst from rfl), h]
def slE (P : Program) (t n d : Nat) : Option (Nat × Nat) :=
  match P.underlying t with
  | some (.slice e) => match szOf P e with
    | some es => match Nat.blt d n with
      | true => some (e, es)
      | false => none
    | none => none
  | _ => none
theorem slE_of {t n d e es : Nat} (h : slE P t n d = some (e, es)) : P.underlying t = some (.slice e) ∧ szOf P e = some es ∧ d < n := by
  unfold slE at h
  split at h
  · rename_i e' hu
    split at h
    · rename_i es' hs
      split at h
      · rename_i hn
        simp only [Option.some.injEq, Prod.mk.injEq] at h
        obtain ⟨rfl, rfl⟩ := h
        exact ⟨hu, hs, by simpa using hn⟩
      · cases h
    · cases h
  · cases h
theorem At.idxSl {t d e es : Nat} {x y : Operand} {p : Bool} {xs : List V} {kd : IntKind} {i : Int} (hg : goes ops σ k = true) (ho : opd (opAt ops k) = (.indexAddr t x y, some d)) (ht : slE P t N.n d = some (e, es)) (hv : [σ.ev x, σ.ev y] = [.sl p es xs, .int kd i]) (h0 : 0 ≤ i) (h1 : i.toNat < xs.length)
    (r : At P N ops (k + 1) (σ.puts [.t d (.vp p es xs i.toNat 0)]) (fun t s => K (⟨(gpOf ops σ (opAt ops k)).getD [] ++ (opw x (.sl p es xs) ++ opw y (.int kd i)), [.t d (.vp p es xs i.toNat 0)]⟩ :: t) s)) : At P N ops k σ K := by
  obtain ⟨a1, a2, a3⟩ := slE_of ht
  simp only [List.cons.injEq, and_true] at hv
  exact At.step2 hg ⟨ok_indexSl (opd1 ho) (opd2 ho) a3 a1 a2 hv.1 hv.2 h0 h1, has2 (opw_has hv.1) (opw_has hv.2)⟩ r
theorem At.idxRef {t d e es j : Nat} {x y : Operand} {xs : List V} {kd : IntKind} {i : Int} (hg : goes ops σ k = true) (ho : opd (opAt ops k) = (.indexAddr t x y, some d)) (ht : slE P t N.n d = some (e, es)) (hv : [σ.ev x, σ.ev y] = [.ref j, .int kd i]) (hob : σ.ob j = .arr e es xs) (h0 : 0 ≤ i) (h1 : i.toNat < xs.length)
    (r : At P N ops (k + 1) (σ.puts [.t d (.ptr j i.toNat 0)]) (fun t s => K (⟨(gpOf ops σ (opAt ops k)).getD [] ++ (opw x (.ref j) ++ opw y (.int kd i) ++ [.o j (.arr e es xs)]), [.t d (.ptr j i.toNat 0)]⟩ :: t) s)) : At P N ops k σ K := by
  obtain ⟨a1, a2, a3⟩ := slE_of ht
  simp only [List.cons.injEq, and_true] at hv
  exact At.step2 hg ⟨ok_indexRef (opd1 ho) (opd2 ho) a3 a1 a2 hv.1 hob hv.2 h0 h1, has2 (has2 (opw_has hv.1) (opw_has hv.2)) ⟨hob, trivial⟩⟩ r
def ldT (P : Program) (t n d : Nat) : Option (Bool × Nat) :=
  match isA P t with
  | some b => match szOf P t with
    | some m => match Nat.blt d n with
      | true => some (b, m)
      | false => none
    | none => none
  | none => none
theorem ldT_of {t n d m : Nat} {b : Bool} (h : ldT P t n d = some (b, m)) : isA P t = some b ∧ szOf P t = some m ∧ d < n := by
  unfold ldT at h
  split at h
  · rename_i b' hu
    split at h
    · rename_i es' hs
      split at h
      · rename_i hn
        simp only [Option.some.injEq, Prod.mk.injEq] at h
        obtain ⟨rfl, rfl⟩ := h
        exact ⟨hu, hs, by simpa using hn⟩
      · cases h
    · cases h
  · cases h
theorem At.ldVp {t d es j off m : Nat} {x : Operand} {p b : Bool} {xs : List V} (y v : V) (hg : goes ops σ k = true) (ho : opd (opAt ops k) = (.load t x, some d)) (ht : ldT P t N.n d = some (b, m)) (hx : σ.ev x = .vp p es xs j off) (hy : xs[j]? = some y) (hv : loadV b m off (cl y) = some v)
    (r : At P N ops (k + 1) (σ.puts [.t d v]) (fun t s => K (⟨(gpOf ops σ (opAt ops k)).getD [] ++ opw x (.vp p es xs j off), [.t d v]⟩ :: t) s)) : At P N ops k σ K := by
  obtain ⟨a1, a2, a3⟩ := ldT_of ht
  exact At.step2 hg ⟨ok_loadVp (opd1 ho) (opd2 ho) a3 hx hy a1 a2 hv, opw_has hx⟩ r
theorem At.ldEl {t d i e es j off m : Nat} {x : Operand} {b : Bool} {xs : List V} (y v : V) (hg : goes ops σ k = true) (ho : opd (opAt ops k) = (.load t x, some d)) (ht : ldT P t N.n d = some (b, m)) (hx : σ.ev x = .ptr i j off) (hob : σ.ob i = .arr e es xs) (hy : xs[j]? = some y) (hv : (loadV b m off (cl y), (cl y).all plain) = (some v, true))
    (r : At P N ops (k + 1) (σ.puts [.t d v]) (fun t s => K (⟨(gpOf ops σ (opAt ops k)).getD [] ++ (opw x (.ptr i j off) ++ [.o i (.arr e es xs)]), [.t d v]⟩ :: t) s)) : At P N ops k σ K := by
  obtain ⟨a1, a2, a3⟩ := ldT_of ht
  simp only [Prod.mk.injEq] at hv
  exact At.step2 hg ⟨ok_loadEl (opd1 ho) (opd2 ho) a3 hx hob hy hv.2 a1 a2 hv.1, has2 (opw_has hx) ⟨hob, trivial⟩⟩ r
theorem At.stEl {t i e es j off : Nat} {x y : Operand} {xs xs' ys : List V} {v : V} (q q' : V) (hg : goes ops σ k = true) (ho : opd (opAt ops k) = (.store t x y, none)) (hx : [σ.ev x, σ.ev y] = [.ptr i j off, v]) (hob : σ.ob i = .arr e es xs) (hc : (szOf P t, cellsV v) = (some ys.length, some ys)) (hq : xs[j]? = some q)
    (hq' : (putEl es off ys q, ys.all gV && (((cl q).drop off).take ys.length).all plain) = (some q', true)) (hxs : xs' = xs.set j q')
    (r : At P N ops (k + 1) (σ.puts [.o i (.arr e es xs')]) (fun t s => K (⟨(gpOf ops σ (opAt ops k)).getD [] ++ (opw x (.ptr i j off) ++ opw y v ++ [.o i (.arr e es xs)]), [.o i (.arr e es xs')]⟩ :: t) s)) : At P N ops k σ K := by
  simp only [List.cons.injEq, and_true] at hx
  simp only [Prod.mk.injEq, Bool.and_eq_true] at hc hq'
  exact At.step2 hg ⟨ok_storeEl (opd1 ho) (opd2 ho) hx.1 hx.2 hob hc.1 hc.2 hq'.2.1 rfl hq hq'.2.2 hq'.1 hxs, has2 (has2 (opw_has hx.1) (opw_has hx.2)) ⟨hob, trivial⟩⟩ r
theorem At.append {t d e es bytes : Nat} {s x : Operand} {S T : V} {xs ys : List V} (j : Nat) (kill1 kill2 : List Nat) (zs : List V) (hg : goes ops σ k = true) (ho : opd (opAt ops k) = (.call { callee := .builtin .append, args := #[s, x], argTypes := #[t, t] }, some d)) (ht : (slE P t N.n d, elInfo P e) = (some (e, es), some (es, bytes)))
    (hv : [σ.ev s, σ.ev x] = [S, T]) (hf : FirstIs σ.ob S e es xs kill1) (hs : SecondIs σ.ob T e es ys kill2) (hk : (notIn j (kill1 ++ kill2) && kill1.all (notIn · kill2)) = true) (hj : σ.ob j = .free) (hz : xs ++ ys = zs) (hb : (xs.length + ys.length) * bytes ≤ 140737488355328) (hm : xs.length + ys.length ≤ 9223372036854775807)
    (r : At P N ops (k + 1) (σ.puts ((killW (kill1 ++ kill2) ++ [.o j (.arr e es zs)]) ++ [.t d (.ref j)])) (fun t s' => K (⟨(gpOf ops σ (opAt ops k)).getD [] ++ (opw s S ++ opw x T ++ obW σ.ob (obK S) ++ obW σ.ob (obK T) ++ [.o j .free]), (killW (kill1 ++ kill2) ++ [.o j (.arr e es zs)]) ++ [.t d (.ref j)]⟩ :: t) s')) : At P N ops k σ K := by
  simp only [Prod.mk.injEq] at ht
  obtain ⟨a1, a2, a3⟩ := slE_of ht.1
  simp only [List.cons.injEq, and_true] at hv
  exact At.step2 hg ⟨ok_append (opd1 ho) (opd2 ho) a3 a1 ht.2 hv.1 hv.2 hf hs hk hz hb hm, has2 (has2 (has2 (has2 (opw_has hv.1) (opw_has hv.2)) (obW_self σ _)) (obW_self σ _)) ⟨hj, trivial⟩⟩ r
def boundV (σ : Sg) (x : Option Operand) : V := match x with
  | some y => σ.ev y
  | none => .un
theorem bound_h {x : Option Operand} {v : V} {n m : Nat} (hv : boundV σ x = v) (h : (x = none ∧ n = m) ∨ ∃ y k, x = some y ∧ v = .int k (n : Int)) : (x = none ∧ n = m) ∨ ∃ y k, x = some y ∧ v = .int k (n : Int) ∧ σ.ev y = v := by
  rcases h with h | ⟨y, k, h1, h2⟩
  · exact .inl h
  · subst h1
    exact .inr ⟨y, k, rfl, h2, hv⟩
theorem bound_w {x : Option Operand} {v : V} {n m : Nat} (h : (x = none ∧ n = m) ∨ ∃ y k, x = some y ∧ v = .int k (n : Int) ∧ σ.ev y = v) : σ.has (boW x v) := by
  rcases h with ⟨rfl, _⟩ | ⟨y, k, rfl, _, h⟩
  · trivial
  · exact opw_has h
theorem At.sliceSl {t d e es : Nat} {x : Operand} {lx hx : Option Operand} {p : Bool} {xs : List V} {vl vh : V} (lo hi : Nat) (ys : List V) (hg : goes ops σ k = true) (ho : opd (opAt ops k) = (.slice t x lx hx none, some d)) (ht : slE P t N.n d = some (e, es)) (hv : [σ.ev x, boundV σ lx, boundV σ hx] = [.sl p es xs, vl, vh])
    (hl : (lx = none ∧ lo = 0) ∨ ∃ y k, lx = some y ∧ vl = .int k (lo : Int)) (hh : (hx = none ∧ hi = xs.length) ∨ ∃ y k, hx = some y ∧ vh = .int k (hi : Int)) (h1 : lo ≤ hi) (h2 : hi ≤ xs.length) (hy : (xs.drop lo).take (hi - lo) = ys)
    (r : At P N ops (k + 1) (σ.puts [.t d (.sl p es ys)]) (fun t s => K (⟨(gpOf ops σ (opAt ops k)).getD [] ++ (opw x (.sl p es xs) ++ boW lx vl ++ boW hx vh), [.t d (.sl p es ys)]⟩ :: t) s)) : At P N ops k σ K := by
  obtain ⟨a1, a2, a3⟩ := slE_of ht
  simp only [List.cons.injEq, and_true] at hv
  have b1 := bound_h hv.2.1 hl
  have b2 := bound_h hv.2.2 hh
  exact At.step2 hg ⟨ok_sliceSl (opd1 ho) (opd2 ho) a3 a1 a2 hv.1 b1 b2 h1 h2 hy, has2 (has2 (opw_has hv.1) (bound_w b1)) (bound_w b2)⟩ r
theorem At.lit0 {t d e es bytes : Nat} (j : Nat) (hg : goes ops σ k = true) (ho : opd (opAt ops k) = (.buildSlice t 0 #[], some d)) (ht : (slE P t N.n d, elInfo P e) = (some (e, es), some (es, bytes))) (hj : σ.ob j = .free)
    (r : At P N ops (k + 1) (σ.puts ([.o j (.arr e es [])] ++ [.t d (.ref j)])) (fun t s => K (⟨(gpOf ops σ (opAt ops k)).getD [] ++ [.o j .free], [.o j (.arr e es [])] ++ [.t d (.ref j)]⟩ :: t) s)) : At P N ops k σ K := by
  simp only [Prod.mk.injEq] at ht
  obtain ⟨a1, a2, a3⟩ := slE_of ht.1
  exact At.step2 hg ⟨ok_lit0 (opd1 ho) rfl (opd2 ho) a3 a1 ht.2, ⟨hj, trivial⟩⟩ r
theorem At.lit {t d e es bytes n : Nat} {parts : Array (Nat × Operand)} (q : Nat × Nat) (j : Nat) (kill : List Nat) (cs cs' zs xs : List V) (hg : goes ops σ k = true) (ho : opd (opAt ops k) = (.buildSlice t n parts, some d)) (ht : (slE P t N.n d, elInfo P e, zeroCs P e, decide (0 < n) && decide (n * es ≤ 16777216)) = (some (e, es), some (es, bytes), some zs, true))
    (hf : (fillV (fun i => some (i * es, es)) (zerosV n zs) (partsEv σ parts.toList), convL q σ.ob cs, notIn j kill && nodupB kill, chunk es n cs') = (some cs, some (cs', kill), true, xs)) (hfl : ∀ i ∈ kill, ∀ e es ys, σ.ob i = .arr e es ys → ∀ x ∈ ys, (cl x).all gS = true) (hj : σ.ob j = .free)
    (r : At P N ops (k + 1) (σ.puts ((killW kill ++ [.o j (.arr e es xs)]) ++ [.t d (.ref j)])) (fun t s => K (⟨(gpOf ops σ (opAt ops k)).getD [] ++ (partsW parts.toList (partsEv σ parts.toList) ++ obW σ.ob kill ++ [.o j .free]), (killW kill ++ [.o j (.arr e es xs)]) ++ [.t d (.ref j)]⟩ :: t) s)) : At P N ops k σ K := by
  simp only [Prod.mk.injEq] at ht hf
  obtain ⟨ht, ht2, ht3, ht4⟩ := ht
  obtain ⟨f1, f2, f3, f4⟩ := hf
  obtain ⟨a1, a2, a3⟩ := slE_of ht
  exact At.step2 hg ⟨ok_lit q (opd1 ho) (opd2 ho) a3 a1 ht2 ht3 ht4 rfl f1 f2 f3 hfl f4, has2 (has2 (partsW_has σ _) (obW_self σ _)) ⟨hj, trivial⟩⟩ r
def dstW (d : Option Tmp) (x : V) : List W := match d with
  | some d => [.t d x]
  | none => []
def callOf (o : Oper) : Option (Nat × List Operand) := match o.op with
  | .call c => match c.callee with
    | .value x => match x with
      | .func f => some (f, c.args.toList)
      | _ => none
    | _ => none
  | _ => none
theorem freeW_self {M : List (Nat × Nat)} (h : ∀ p ∈ M, σ.ob p.1 = .free) : σ.has (freeW M) := by
  induction M with
  | nil => trivial
  | cons a l ih => exact ⟨h a List.mem_cons_self, ih (fun p hp => h p (List.mem_cons_of_mem _ hp))⟩
def isFree : Ob → Bool
  | .free => true
  | _ => false
def argsAt (ops : Array Oper) (k : Nat) : List Operand := ((callOf (opAt ops k)).getD (0, [])).2
theorem At.callG {f : Nat} {As : List V} {T T' : List Ob} {R : V} (hcall : ∀ args w, (callFunc f args).run P w = .ok (.enter f args) w) (q : Bool) (L M : List (Nat × Nat)) (hs : ∀ (G0 G : Gh) (w0 w : World), N.q G0 w0 → Fr G0 w0 G w → SpecAt P f As T R T' (G.lend q L) w) (ro : List (Nat × Nat × List V)) (hg : goes ops σ k = true) (ho : (callOf (opAt ops k)).map Prod.fst = some f)
    (hA : viewL L ro (evs σ (argsAt ops k)) = As) (hT : (L.map fun p => (σ.ob p.1).ren (hOf L)) = T)
    (hL : ((match (opAt ops k).dst with
      | some d => decide (d < N.n)
      | none => true) && (okL (L ++ M) && (L.map Prod.snd == List.range T.length) && L.all (fun p => live (σ.ob p.1)) && (!q || ro.isEmpty)) && M.all (fun p => isFree (σ.ob p.1))) = true) (hro : RoOk σ.ob L ro)
    (r : At P N ops (k + 1) (σ.puts (backW q T' (L ++ M) (L ++ M) ++ dstW (opAt ops k).dst (R.bk q (L ++ M)))) (fun t s => K (⟨(gpOf ops σ (opAt ops k)).getD [] ++ (argsW (argsAt ops k) (evs σ (argsAt ops k)) ++ obW σ.ob (L.map Prod.fst) ++ obW σ.ob (ro.map Prod.fst) ++ freeW M), backW q T' (L ++ M) (L ++ M) ++ dstW (opAt ops k).dst (R.bk q (L ++ M))⟩ :: t) s)) : At P N ops k σ K := by
  simp only [Bool.and_eq_true] at hL
  obtain ⟨⟨hL1, hL2⟩, hL3⟩ := hL
  have hM : ∀ p ∈ M, σ.ob p.1 = .free := by
    intro p hp
    have := (List.all_eq_true.1 hL3) p hp
    cases h : σ.ob p.1 <;> rw [h] at this <;> first | rfl | (simp [isFree] at this)
  obtain ⟨⟨f0, xs⟩, ho', hf0⟩ := Option.map_eq_some_iff.1 ho
  clear ho
  simp only at hf0
  subst hf0
  have hxs : argsAt ops k = xs := by unfold argsAt; rw [ho']; rfl
  rw [hxs] at hA r
  have ho := ho'
  clear ho'
  unfold callOf at ho
  split at ho
  · rename_i c hc
    split at ho
    · rename_i x hcal
      split at ho
      · rename_i f'
        simp only [Option.some.injEq, Prod.mk.injEq] at ho
        obtain ⟨rfl, rfl⟩ := ho
        have hop : (opAt ops k).op = .call { callee := .value (.func f'), args := c.args, argTypes := c.argTypes } := by
          rw [hc]
          obtain ⟨c1, c2, c3⟩ := c
          simp only at hcal
          rw [hcal]
        have := ok_callG (P := P) (N := N) (o := opAt ops k) q L M ro hop hL1 hcall hs _ rfl hA hT (by simpa only [Bool.and_eq_true] using hL2) hro
        refine At.step2 hg ⟨?_, has2 (has2 (has2 (argsW_has σ _) (obW_self σ _)) (obW_self σ _)) (freeW_self hM)⟩ r
        unfold dstW
        exact this
      · cases ho
    · cases ho
  · cases ho
theorem At.call {f : Nat} {As : List V} {T T' : List Ob} {R : V} (hs : FnSpec P f As T R T') (hcall : ∀ args w, (callFunc f args).run P w = .ok (.enter f args) w) (q : Bool) (L M : List (Nat × Nat)) (ro : List (Nat × Nat × List V)) (hg : goes ops σ k = true) (ho : (callOf (opAt ops k)).map Prod.fst = some f)
    (hA : viewL L ro (evs σ (argsAt ops k)) = As) (hT : (L.map fun p => (σ.ob p.1).ren (hOf L)) = T)
    (hL : ((match (opAt ops k).dst with
      | some d => decide (d < N.n)
      | none => true) && (okL (L ++ M) && (L.map Prod.snd == List.range T.length) && L.all (fun p => live (σ.ob p.1)) && (!q || ro.isEmpty)) && M.all (fun p => isFree (σ.ob p.1))) = true) (hro : RoOk σ.ob L ro)
    (r : At P N ops (k + 1) (σ.puts (backW q T' (L ++ M) (L ++ M) ++ dstW (opAt ops k).dst (R.bk q (L ++ M)))) (fun t s => K (⟨(gpOf ops σ (opAt ops k)).getD [] ++ (argsW (argsAt ops k) (evs σ (argsAt ops k)) ++ obW σ.ob (L.map Prod.fst) ++ obW σ.ob (ro.map Prod.fst) ++ freeW M), backW q T' (L ++ M) (L ++ M) ++ dstW (opAt ops k).dst (R.bk q (L ++ M))⟩ :: t) s)) : At P N ops k σ K :=
  At.callG hcall q L M (fun _ G _ w _ _ args => hs (G.lend q L) w args) ro hg ho hA hT hL hro r
theorem AW.loopW {c : Code} {K : Exit → Sg → Prop} {β : Type} (S : β → Sg) (R : β → Prop) (m : β → Nat) (x : β) (hx : R x) (h0 : Sub N σ (S x))
    (round : ∀ x, R x → AW P N c (S x) (thenK (fun σ' => ∃ y, R y ∧ m y < m x ∧ Sub N σ' (S y)) K)) : AW P N (.loop c) σ K := AW.weak h0 (AW.loop S R m x hx round)
theorem sayI (n : Int) (h : -9223372036854775808 ≤ n ∧ n ≤ 9223372036854775807) : V.int .i64 (IntKind.i64.wrap n) = V.int .i64 n := by
  rw [IntKind.wrap_i64 n]
  congr 1
  omega
theorem sayT {p : Prop} [Decidable p] (h : p) : V.bool (decide p) = .bool true := by rw [decide_eq_true h]
theorem sayF {p : Prop} [Decidable p] (h : ¬ p) : V.bool (decide p) = .bool false := by rw [decide_eq_false h]
end
end Go.Sy
end

section
set_option linter.unusedVariables false
set_option linter.unusedSimpArgs false
namespace Go.Sy
structure Np where
  b : Bool
  id : Nat
  cell : Option Nat
  i : Nat
  e : Nat
  es : Nat
def setRef (i : Nat) : Nat → List V → Option (List V)
  | 0, .nil :: l => some (.ref i :: l)
  | j + 1, x :: l => (setRef i j l).map (x :: ·)
  | _, _ => none
def nilV (i : Nat) : Option Nat → V → Option V
  | none, .nil => some (.ref i)
  | some j, .agg cs => (setRef i j cs).map .agg
  | _, _ => none
def nil1 (σ : Sg) (p : Np) : Option Sg :=
  match σ.ob p.i with
  | .free => match p.b with
    | false => (nilV p.i p.cell (σ.tm p.id)).map fun v => (σ.put (.o p.i (.arr p.e p.es []))).put (.t p.id v)
    | true => match p.cell, σ.ob p.id with
      | some j, .box t cs => (setRef p.i j cs).map fun cs' => (σ.put (.o p.i (.arr p.e p.es []))).put (.o p.id (.box t cs'))
      | _, _ => none
  | _ => none
def nils : Sg → List Np → Option Sg
  | σ, [] => some σ
  | σ, p :: l => (nil1 σ p).bind fun σ' => nils σ' l
theorem setRef_get {i : Nat} : ∀ {j : Nat} {cs cs' : List V}, setRef i j cs = some cs' → cs'.length = cs.length ∧ ∀ (k : Nat) (x : V), cs'[k]? = some x → cs[k]? = some x ∨ (cs[k]? = some .nil ∧ x = .ref i)
  | 0, cs, cs', h => by
    cases cs with
    | nil => cases h
    | cons c l =>
      cases c <;> simp only [setRef, Option.some.injEq] at h <;> first | (cases h; done) | skip
      subst h
      refine ⟨by simp, fun k x hx => ?_⟩
      cases k with
      | zero => simp at hx; exact .inr ⟨rfl, hx.symm⟩
      | succ k => exact .inl (by simpa using hx)
  | j + 1, cs, cs', h => by
    cases cs with
    | nil => cases h
    | cons c l =>
      have h : (setRef i j l).map (c :: ·) = some cs' := by cases c <;> exact h
      obtain ⟨l', h1, rfl⟩ := Option.map_eq_some_iff.1 h
      obtain ⟨q1, q2⟩ := setRef_get h1
      refine ⟨by simp [q1], fun k x hx => ?_⟩
      cases k with
      | zero => exact .inl (by simpa using hx)
      | succ k => simpa using q2 k x (by simpa using hx)
def Gh.nil (G : Gh) (i es : Nat) : Gh := { G with ρ := fun k => if k = i then some ⟨none, 0, es, 0⟩ else G.ρ k }
section
variable {N : Cx}
theorem nil_ref {G : Gh} {w : World} {ob : Nat → Ob} (H : Hold G w ob) {i es : Nat} (hf : ob i = .free) {v : Value} {x : V} (h : G.Rep w v x) : (G.nil i es).Rep w v x := by
  refine Sy.Rep.mono (fun k r hk => ?_) (fun _ h => h) (fun _ h => h) (fun _ _ => rfl) h
  have := H.own i
  rw [hf] at this
  show (if k = i then _ else _) = _
  rw [if_neg (fun e => by subst e; rw [this.1] at hk; cases hk)]
  exact hk
theorem nil_sl (G : Gh) (w : World) (i es : Nat) : (G.nil i es).Rep w (.slice none 0 0) (.ref i) :=
  .ref i ⟨none, 0, es, 0⟩ _ (by simp [Gh.nil]) ⟨rfl, rfl⟩
theorem setRef_rep {G : Gh} {w : World} {ob : Nat → Ob} (H : Hold G w ob) {i es j : Nat} (hf : ob i = .free) {cs cs' : List V} (hs : setRef i j cs = some cs') {a : Array Value} (h : ∀ (j : Nat) (x : V), cs[j]? = some x → G.Rep w (a.getD j undef) x) (k : Nat) (x : V) (hx : cs'[k]? = some x) : (G.nil i es).Rep w (a.getD k undef) x := by
  rcases (setRef_get hs).2 k x hx with h1 | ⟨h1, rfl⟩
  · exact nil_ref H hf (h k x h1)
  · rw [Rep.inv_nil (h k _ h1)]
    exact nil_sl G w i es
theorem nil_sub {σ σ' : Sg} {p : Np} (h : nil1 σ p = some σ') : Sub N σ σ' := by
  obtain ⟨b, id, cell, i, e, es⟩ := p
  intro G0 w0 a w s
  obtain ⟨G, H, ht, h1, h2, h3, h4⟩ := s
  unfold nil1 at h
  simp only at h
  split at h
  · rename_i hf
    have hfo := H.own i
    rw [hf] at hfo
    have hrho : ∀ k r, G.ρ k = some r → (G.nil i es).ρ k = some r := fun k r hk => by
      show (if k = i then _ else _) = _
      rw [if_neg (fun e => by subst e; rw [hfo.1] at hk; cases hk)]
      exact hk
    cases b with
    | false =>
      simp only at h
      obtain ⟨v, hv, rfl⟩ := Option.map_eq_some_iff.1 h
      obtain ⟨H', F'⟩ := Hold.step (G' := G.nil i es) (w' := w) (ob' := fun k => if k = i then .arr e es [] else σ.ob k) H rfl rfl rfl rfl rfl (Nat.le_refl _) hrho (fun k => k = i) (fun k hk => ⟨if_neg hk, if_neg hk, rfl⟩) (fun _ _ _ => rfl) (fun _ _ k hk => by
        subst hk
        simp only [if_true]
        exact ⟨⟨none, 0, es, 0⟩, by simp [Gh.nil], rfl, rfl, .inl ⟨rfl, rfl, hfo.2, rfl⟩⟩) (fun k b hk hb => by subst hk; exact (hfo.2 b hb).elim) (fun k b _ hb => H.flt k b hb) (fun k l b hk hl _ _ => by rw [hk, hl])
      refine ⟨G.nil i es, H', fun t => ?_, h1, h2, h3.trans F', h4⟩
      simp only [Sg.put]
      split
      · rename_i htt
        subst htt
        have hq := ht t
        cases cell with
        | none =>
          generalize σ.tm t = u at hv hq
          cases u <;> simp only [nilV, Option.some.injEq] at hv <;> first | (cases hv; done) | skip
          subst hv
          rw [Rep.inv_nil hq]
          exact nil_sl G w i es
        | some j =>
          generalize σ.tm t = u at hv hq
          cases u <;> simp only [nilV] at hv <;> first | (cases hv; done) | skip
          obtain ⟨cs', hc, rfl⟩ := Option.map_eq_some_iff.1 hv
          obtain ⟨ar, e1, e2, e3⟩ := Rep.inv_agg hq
          rw [e1]
          exact .agg ar cs' (by rw [e2, (setRef_get hc).1]) (setRef_rep H hf hc e3)
      · exact nil_ref H hf (ht t)
    | true =>
      simp only at h
      split at h
      · rename_i j t cs hbx
        obtain ⟨cs', hc, rfl⟩ := Option.map_eq_some_iff.1 h
        have hne : id ≠ i := fun e => by subst e; rw [hf] at hbx; cases hbx
        obtain ⟨H', F'⟩ := Hold.step (G' := G.nil i es) (w' := w) (ob' := fun k => if k = id then .box t cs' else if k = i then .arr e es [] else σ.ob k) H rfl rfl rfl rfl rfl (Nat.le_refl _) hrho (fun k => k = i ∨ k = id) (fun k hk => ⟨(if_neg (fun e => hk (.inr e))).trans (if_neg (fun e => hk (.inl e))), if_neg (fun e => hk (.inl e)), rfl⟩) (fun _ _ _ => rfl) (fun _ _ k hk => by
          rcases hk with rfl | rfl
          · simp only
            rw [if_neg (fun e => hne e.symm)]
            simp only [if_true]
            exact ⟨⟨none, 0, es, 0⟩, by simp [Gh.nil], rfl, rfl, .inl ⟨rfl, rfl, hfo.2, rfl⟩⟩
          · simp only [if_true]
            have hb := H.own k
            rw [hbx] at hb
            obtain ⟨r, g, cur, b1, b2, b3, b4, b5, b6⟩ := hb
            exact ⟨r, g, cur, hrho _ _ b1, b2, b3, by rw [b4, (setRef_get hc).1], setRef_rep H hf hc b5, b6⟩) (fun k b hk hb => by
          rcases hk with rfl | rfl
          · exact (hfo.2 b hb).elim
          · exact .inl ⟨k, .inr rfl, hb⟩) (fun k b _ hb => H.flt k b hb) (fun k l b _ _ hk hl => H.dis k l b hk hl)
        exact ⟨G.nil i es, H', fun t => nil_ref H hf (ht t), h1, h2, h3.trans F', h4⟩
      · cases h
  · cases h
theorem nils_sub : ∀ {l : List Np} {σ σ' : Sg}, nils σ l = some σ' → Sub N σ σ'
  | [], σ, σ', h => by
    obtain rfl := Option.some.inj h
    exact Sub.refl _ _
  | p :: l, σ, σ', h => by
    obtain ⟨σ1, h1, h2⟩ := Option.bind_eq_some_iff.1 h
    exact (nil_sub h1).trans (nils_sub h2)
theorem Sub.nils {σ : Sg} (l : List Np) (h : (nils σ l).isSome = true) : Sub N σ ((Sy.nils σ l).get h) := nils_sub (Option.some_get h).symm
variable {P : Program}
theorem AW.weakK {c : Code} {σ : Sg} {K : Exit → Sg → Prop} (h : AW P N c σ (fun e s => ∃ s1, Sub N s s1 ∧ K e s1)) : AW P N c σ K :=
  fun G0 w0 a w s => wp_mono (h G0 w0 a w s) fun e a' w' ⟨σ', ⟨s1, hs, hk⟩, st⟩ => ⟨s1, hk, hs _ _ _ _ st⟩
end
def eqFs (P : Program) (ev : TypeId → List Value → List Value → Option Bool) (cs ds : List Value) : List Field → Option Bool
  | [] => some true
  | f :: fs => match f.name != "_" with
    | true => (ev f.type ((cs.drop f.offset).take (P.cellsOf f.type)) ((ds.drop f.offset).take (P.cellsOf f.type))).bind fun r => (eqFs P ev cs ds fs).map (r && ·)
    | false => none
def eqVals (P : Program) : Nat → TypeId → List Value → List Value → Option Bool
  | 0, _, _, _ => none
  | d + 1, t, cs, ds => match P.underlying t with
    | some .bool => match cs, ds with
      | [.bool a], [.bool b] => some (a == b)
      | _, _ => none
    | some (.int _) => match cs, ds with
      | [.int q a], [.int q' b] => match decide (q = q') with
        | true => some (a == b)
        | false => none
      | _, _ => none
    | some .string => match cs, ds with
      | [.string a], [.string b] => some (a.toList == b.toList)
      | _, _ => none
    | some (.struct fs) => match (decide (cs.length = P.cellsOf t) && decide (ds.length = P.cellsOf t) && !P.stoodInHeld t) with
      | true => eqFs P (eqVals P d) cs ds fs.toList
      | false => none
    | _ => none
section
variable {P : Program} (w : World)
theorem part_plain {e : TypeId} (he : P.plainKey e = true) {xs : Array Value} {off : Nat} {v : Value} (h : (xs.toList.drop off).take (P.cellsOf e) = [v]) : (part e xs off).run P w = .ok v w := by
  refine run_part_plain w he ?_
  have h0 : ((xs.toList.drop off).take (P.cellsOf e))[0]? = some v := by rw [h]; rfl
  rw [List.getElem?_take] at h0
  split at h0
  · simpa using h0
  · cases h0
theorem part_agg {e : TypeId} {fs : Array Field} (hu : P.underlying e = some (.struct fs)) (xs : Array Value) (off : Nat) : (part e xs off).run P w = .ok (.agg (xs.extract off (off + P.cellsOf e))) w := by
  obtain ⟨i, hi⟩ := info_of_underlying hu
  simp [part, isAgg, run_underlying hu, run_sizeOf w hi]
theorem extract_list (xs : Array Value) (off n : Nat) : (xs.extract off (off + n)).toList = (xs.toList.drop off).take n := by
  rw [Array.toList_extract]
  simp [List.extract]
theorem eqFs_run (dd : Nat) (ev : TypeId → List Value → List Value → Option Bool) (xs ys : Array Value)
    (h : ∀ (f : Field) (r : Bool), ev f.type ((xs.toList.drop f.offset).take (P.cellsOf f.type)) ((ys.toList.drop f.offset).take (P.cellsOf f.type)) = some r → ∃ a b, (part f.type xs f.offset).run P w = .ok a w ∧ (part f.type ys f.offset).run P w = .ok b w ∧ (Op.equalIn dd f.type a b).run P w = .ok r w) :
    ∀ (fs : List Field) (r : Bool), eqFs P ev xs.toList ys.toList fs = some r → (Op.eqFields dd xs ys fs).run P w = .ok r w
  | [], r, hr => by
    obtain rfl := Option.some.inj hr
    simp [Op.eqFields]
  | f :: fs, r, hr => by
    simp only [eqFs] at hr
    split at hr
    · rename_i hn
      obtain ⟨r1, h1, h2⟩ := Option.bind_eq_some_iff.1 hr
      obtain ⟨r2, h3, rfl⟩ := Option.map_eq_some_iff.1 h2
      obtain ⟨a, b, p1, p2, p3⟩ := h f r1 h1
      have hn : f.name ≠ "_" := by simpa using hn
      simp only [Op.eqFields, hn, ne_eq, not_false_eq_true, if_true, Sem.run_bind, p1, p2, p3, Result.andThen_ok]
      cases r1
      · simp
      · simpa using eqFs_run dd ev xs ys h fs r2 h3
    · cases hr
theorem eqVals_run (d : Nat) : ∀ (m : Nat) (t : TypeId) (xs ys : Array Value) (off : Nat) (r : Bool), eqVals P m t ((xs.toList.drop off).take (P.cellsOf t)) ((ys.toList.drop off).take (P.cellsOf t)) = some r →
    ∃ a b, (part t xs off).run P w = .ok a w ∧ (part t ys off).run P w = .ok b w ∧ (Op.equalIn (d + m) t a b).run P w = .ok r w
  | 0, t, xs, ys, off, r, h => by cases h
  | m + 1, t, xs, ys, off, r, h => by
    unfold eqVals at h
    split at h
    · rename_i hu
      split at h
      · rename_i a b h1 h2
        obtain rfl := Option.some.inj h
        exact ⟨_, _, part_plain w (by simp [Program.plainKey, hu]) h1, part_plain w (by simp [Program.plainKey, hu]) h2, run_equalIn_bool' w (d + m) t a b hu⟩
      · cases h
    · rename_i q hu
      split at h
      · rename_i q1 a q2 b h1 h2
        split at h
        · rename_i hq
          obtain rfl := of_decide_eq_true hq
          obtain rfl := Option.some.inj h
          exact ⟨_, _, part_plain w (by simp [Program.plainKey, hu]) h1, part_plain w (by simp [Program.plainKey, hu]) h2, run_equalIn_int w (d + m) t _ _ _ _ hu⟩
        · cases h
      · cases h
    · rename_i hu
      split at h
      · rename_i a b h1 h2
        obtain rfl := Option.some.inj h
        exact ⟨_, _, part_plain w (by simp [Program.plainKey, hu]) h1, part_plain w (by simp [Program.plainKey, hu]) h2, run_equalIn_string w (d + m) t a b hu⟩
      · cases h
    · rename_i fs hu
      split at h
      · rename_i hc
        simp only [Bool.and_eq_true, decide_eq_true_eq, Bool.not_eq_true'] at hc
        have hfs : P.fieldsOf t = fs := by simp [Program.fieldsOf, hu]
        refine ⟨_, _, part_agg w hu xs off, part_agg w hu ys off, ?_⟩
        rw [show d + (m + 1) = (d + m) + 1 from rfl, run_equalIn_struct w (d + m) t _ _ (by rw [hfs]; exact hu) hc.2, hfs]
        refine eqFs_run w (d + m) (eqVals P m) _ _ (fun f r hr => eqVals_run d m f.type _ _ f.offset r hr) fs.toList r ?_
        rw [extract_list, extract_list]
        exact h
      · cases h
    · cases h
def valOf : V → Option Value
  | .int k n => some (.int k n)
  | .bool b => some (.bool b)
  | .str s => some (.string s)
  | _ => none
def valsOf : List V → Option (List Value)
  | [] => some []
  | x :: l => match valOf x, valsOf l with
    | some v, some vs => some (v :: vs)
    | _, _ => none
def eqTop (P : Program) (t : TypeId) (X Y : List V) : Option Bool := match valsOf X, valsOf Y with
  | some xs, some ys => match P.underlying t, decide (xs.length = P.cellsOf t) && decide (ys.length = P.cellsOf t) && !P.eqGuardType P.depth t with
    | some (.struct _), true => eqVals P 8 t xs ys
    | _, _ => none
  | _, _ => none
variable {N : Cx}
theorem valsOf_eq {G : Gh} : ∀ (X : List V) (xs us : List Value), valsOf X = some xs → us.length = X.length → (∀ (j : Nat) (x : V), X[j]? = some x → G.Rep w (us.getD j undef) x) → us = xs
  | [], xs, us, h, hl, _ => by
    obtain rfl := Option.some.inj h
    exact List.length_eq_zero_iff.1 (by simpa using hl)
  | x :: l, xs, us, h, hl, hr => by
    cases us with
    | nil => simp at hl
    | cons u us =>
      simp only [valsOf] at h
      split at h
      · rename_i v vs h1 h2
        obtain rfl := Option.some.inj h
        have h0 := hr 0 x rfl
        rw [valsOf_eq l vs us h2 (by simpa using hl) (fun j y hy => by simpa using hr (j + 1) y (by simpa using hy))]
        congr 1
        cases x <;> simp only [valOf, Option.some.injEq, reduceCtorEq] at h1 <;> subst h1
        · exact Rep.inv_int h0
        · exact Rep.inv_bool h0
        · exact Rep.inv_str h0
      · cases h
theorem ok_eqA {o : Oper} {op : BinOp} {x y : Operand} {t u : TypeId} {d : Nat} {σ : Sg} {X Y : List V} {r : Bool} {v : V} (ho : o.op = .binOp op t x y u) (hd : o.dst = some d) (hn : d < N.n)
    (hx : σ.ev x = .agg X) (hy : σ.ev y = .agg Y) (hr : eqTop P t X Y = some r) (hop : (op = .eql ∧ v = .bool r) ∨ (op = .neq ∧ v = .bool (!r))) : CoreOk P N o (opw x (.agg X) ++ opw y (.agg Y)) [.t d v] :=
  val_ok hd hn fun G w σ' ac H he hp => by
    obtain ⟨hp1, hp2⟩ := has_append.1 hp
    have h1 := he x
    rw [opw_ev hx hp1] at h1
    have h2 := he y
    rw [opw_ev hy hp2] at h2
    obtain ⟨a, e1, l1, q1⟩ := Rep.inv_agg h1
    obtain ⟨b, e2, l2, q2⟩ := Rep.inv_agg h2
    unfold eqTop at hr
    split at hr
    · rename_i xs ys hxs hys
      have hal := valsOf_eq w X xs a.toList hxs (by simpa using l1) (fun j z hz => by have : G.Rep w (a.getD j undef) z := q1 j z hz; rw [Array.getD_eq_getD_getElem?] at this; show G.Rep w (a.toList.getD j undef) z; rw [List.getD_eq_getElem?_getD]; simpa using this)
      have hbl := valsOf_eq w Y ys b.toList hys (by simpa using l2) (fun j z hz => by have : G.Rep w (b.getD j undef) z := q2 j z hz; rw [Array.getD_eq_getD_getElem?] at this; show G.Rep w (b.toList.getD j undef) z; rw [List.getD_eq_getElem?_getD]; simpa using this)
      split at hr
      · rename_i fs hu hc
        simp only [Bool.and_eq_true, decide_eq_true_eq, Bool.not_eq_true'] at hc
        obtain ⟨⟨c1, c2⟩, c3⟩ := hc
        rw [← hal] at c1 hr
        rw [← hbl] at c2 hr
        obtain ⟨u1, u2, p1, p2, p3⟩ := eqVals_run (P := P) w 9992 8 t a b 0 r (by rw [List.drop_zero, List.drop_zero, List.take_of_length_le (by omega), List.take_of_length_le (by omega)]; exact hr)
        rw [part_agg w hu] at p1 p2
        have ea : a.extract 0 (0 + P.cellsOf t) = a := by simp at c1; simp [← c1]
        have eb : b.extract 0 (0 + P.cellsOf t) = b := by simp at c2; simp [← c2]
        rw [ea] at p1
        rw [eb] at p2
        injection p1 with p1
        injection p2 with p2
        subst p1
        subst p2
        have hg := run_eqGuard_agg (P := P) w op t x y a b c3
        rcases hop with ⟨rfl, rfl⟩ | ⟨rfl, rfl⟩
        · refine ⟨.bool r, ?_, .g (.bool _)⟩
          simp only [execOp, ho, e1, e2, Sem.run_bind, hg, Result.andThen_ok, run_eql_struct, p3, Sem.run_pure]
        · refine ⟨.bool (!r), ?_, .g (.bool _)⟩
          simp only [execOp, ho, e1, e2, Sem.run_bind, hg, Result.andThen_ok, run_neq_struct, p3, Sem.run_pure]
      · cases hr
    · cases hr
variable {ops : Array Oper} {K : List Tr → Sg → Prop} {k : Nat} {σ : Sg}
theorem At.eqA {t u d : Nat} {op : BinOp} {x y : Operand} {X Y : List V} (r : Bool) (hg : goes ops σ k = true) (ho : opd (opAt ops k) = (.binOp op t x y u, some d)) (hn : Nat.blt d N.n = true) (hv : [σ.ev x, σ.ev y] = [.agg X, .agg Y]) (hr : eqTop P t X Y = some r) (v : V) (hop : (op = .eql ∧ v = .bool r) ∨ (op = .neq ∧ v = .bool (!r)))
    (h : At P N ops (k + 1) (σ.puts [.t d v]) (fun t s => K (⟨(gpOf ops σ (opAt ops k)).getD [] ++ (opw x (.agg X) ++ opw y (.agg Y)), [.t d v]⟩ :: t) s)) : At P N ops k σ K := by
  simp only [List.cons.injEq, and_true] at hv
  exact At.step2 hg ⟨ok_eqA (opd1 ho) (opd2 ho) (by simpa using hn) hv.1 hv.2 hr hop, has2 (opw_has hv.1) (opw_has hv.2)⟩ h
theorem At.eqB {t u d : Nat} {op : BinOp} {x y : Operand} {a b : Bool} (hg : goes ops σ k = true) (ho : opd (opAt ops k) = (.binOp op t x y u, some d)) (hn : Nat.blt d N.n = true) (hu : P.underlying t = some .bool) (hv : [σ.ev x, σ.ev y] = [.bool a, .bool b]) (v : V) (hop : (op = .eql ∧ v = .bool (a == b)) ∨ (op = .neq ∧ v = .bool (!(a == b))))
    (h : At P N ops (k + 1) (σ.puts [.t d v]) (fun t s => K (⟨(gpOf ops σ (opAt ops k)).getD [] ++ (opw x (.bool a) ++ opw y (.bool b)), [.t d v]⟩ :: t) s)) : At P N ops k σ K := by
  simp only [List.cons.injEq, and_true] at hv
  exact At.step2 hg ⟨ok_binB hu (opd1 ho) (opd2 ho) (by simpa using hn) hv.1 hv.2 hop, has2 (opw_has hv.1) (opw_has hv.2)⟩ h
end
end Go.Sy
end

section
set_option linter.unusedVariables false
set_option linter.unusedSimpArgs false
namespace Go.Sy
structure Cmd where
  kind : Int
  release : Int
  node : Int
  size : Int
  digest : ByteArray
structure Ent where
  term : Int
  cmd : Cmd
structure Rec where
  kind : Int
  term : Int
  vote : Int
  at_ : Int
  entry : Ent
structure Hard where
  term : Int
  vote : Int
  log : List Ent
structure Msg where
  kind : Int
  from_ : Int
  term : Int
  at_ : Int
  atTerm : Int
  commit : Int
  yes : Bool
  release : Int
  part : Int
  bytes : ByteArray
  cmd : Cmd
  entries : List Ent
structure Raft where
  id : Int
  of_ : Int
  role : Int
  commit : Int
  hard : Hard
  yes : List Int
  next : List Int
  match_ : List Int
structure Out where
  to : Int
  msg : Msg
structure Stepper where
  r : Raft
  was : Raft
  recs : List Rec
  outs : List Out
def encI (n : Int) : V := .int .i64 n
def encS (s : ByteArray) : V := .str s
theorem mapGet {α : Type} {f : α → V} {l : List α} {k : Nat} {e : α} (h : l[k]? = some e) : (l.map f)[k]? = some (f e) := by
  rw [List.getElem?_map, h]; rfl
theorem sayLen {α : Type} (f : α → V) (l : List α) : V.int .i64 (((l.map f).length : Nat) : Int) = V.int .i64 (l.length : Int) := by rw [List.length_map]
theorem sayNat {n : Int} (h : 0 ≤ n) : V.int .i64 n = V.int .i64 ((n.toNat : Nat) : Int) := by
  congr 1
  omega
theorem allP_map {α : Type} {f : α → V} (h : ∀ x, (cl (f x)).all gV = true) (l : List α) : AllP (l.map f) := by
  intro x hx
  obtain ⟨y, _, rfl⟩ := List.mem_map.1 hx
  exact h y
theorem allP_encS (l : List ByteArray) : AllP (l.map encS) := allP_map (fun _ => rfl) l
theorem dropCons {α : Type} {l : List α} {k : Nat} {e : α} (h : l[k]? = some e) : l.drop k = e :: l.drop (k + 1) := by
  obtain ⟨hk, rfl⟩ := List.getElem?_eq_some_iff.1 h
  exact List.drop_eq_getElem_cons hk
end Go.Sy
end

section
set_option linter.unusedVariables false
set_option linter.unusedSimpArgs false
namespace Go.Sy
def inR (n a b : Int) : Bool := decide (a ≤ n) && decide (n ≤ b)
def ofOk (n : Int) : Bool := n == 1 || n == 3 || n == 5
def hasI (x : Int) : List Int → Bool
  | [] => false
  | a :: l => (a == x) || hasI x l
theorem inR_iff {n a b : Int} : inR n a b = true ↔ a ≤ n ∧ n ≤ b := by simp [inR]
theorem noBytes : (⟨#[]⟩ : ByteArray).toList = [] := by rw [ByteArray.toList_eq]
def cmdOk (c : Cmd) : Bool :=
  if c.kind = 1 then c.release == 0 && c.node == 0 && c.size == 0 && c.digest.toList == []
  else if c.kind = 2 then inR c.release 1 1000 && inR c.size 0 1000 && c.digest.size == 32 && c.node == 0
  else if c.kind = 3 then inR c.release 1 1000 && inR c.node 0 4 && c.size == 0 && c.digest.toList == []
  else (c.kind == 4 || c.kind == 5) && inR c.release 1 1000 && c.node == 0 && c.size == 0 && c.digest.toList == []
def asc (hi : Int) : Int → List Int → Bool
  | _, [] => true
  | p, n :: l => inR n 0 hi && decide (p < n) && asc hi n l
def logOk (t : Int) : Int → List Ent → Bool
  | _, [] => true
  | p, e :: l => decide (1 ≤ e.term) && decide (e.term ≤ t) && cmdOk e.cmd && decide (p ≤ e.term) && logOk t e.term l
def hardOk (h : Hard) : Bool := inR h.term 0 1000000000 && inR h.vote 0 5 && decide (h.log.length ≤ 80) && logOk h.term 0 h.log
end Go.Sy
end

section
set_option linter.unusedVariables false
set_option linter.unusedSimpArgs false
namespace Go.Sy
section
variable {P : Program} {N : Cx}
def cutS (σ : Sg) (L : List (Nat × Nat)) (mask : List Bool) (d : Nat) (b : Bool) : Sg := (mk (keepT σ (hOf L) 0 mask) (keepO σ (hOf L) L)).put (.t d (.bool b))
theorem Sub.cut {σ s : Sg} (L : List (Nat × Nat)) (mask : List Bool) (d : Nat) (b : Bool) (hL : (okL L && fixes N.m L) = true) (ht : keepT s (hOf L) 0 mask = keepT σ (hOf L) 0 mask) (ho : keepO s (hOf L) L = keepO σ (hOf L) L) (hd : s.tm d = .bool b) : Sub N s (cutS σ L mask d b) := by
  intro G0 w0 a w h
  obtain ⟨G, H, ht', h1, h2, h3, h4⟩ := h
  simp only [Bool.and_eq_true, fixes, List.all_eq_true, List.mem_range, beq_iff_eq] at hL
  refine ⟨G.ren L, ?_, fun t => ?_, h1, h2, h3.ren h4.1 hL.2, h4⟩
  · have : (cutS σ L mask d b).ob = obRen s.ob L := by
      funext j
      show lkO (keepO σ (hOf L) L) j = _
      rw [← ho, obRen]
      exact lkO_keep s _ s.ob L j
    rw [this]
    exact H.ren hL.1
  · show (G.ren L).Rep w _ (if t = d then .bool b else lkT (keepT σ (hOf L) 0 mask) t)
    split
    · rename_i e
      subst e
      have h5 := ht' t
      rw [hd] at h5
      exact Rep.ren (x := .bool b) (Gh.ren_rho hL.1) h5
    · rw [← ht]
      rcases lkT_keep s (hOf L) mask 0 t with h | h
      · rw [h]; exact .g (.un _)
      · rw [h, Nat.zero_add]
        exact Rep.ren (Gh.ren_rho hL.1) (ht' t)
theorem AW.condT {c : Operand} {x y : Code} {σ : Sg} {K : Exit → Sg → Prop} (b : Bool) (hc : σ.ev c = .bool b) (hb : b = true) (h : AW P N x σ K) : AW P N (.cond c x y) σ K :=
  AW.cond b hc (fun _ => h) (fun e => by rw [hb] at e; cases e)
theorem AW.condF {c : Operand} {x y : Code} {σ : Sg} {K : Exit → Sg → Prop} (b : Bool) (hc : σ.ev c = .bool b) (hb : b = false) (h : AW P N y σ K) : AW P N (.cond c x y) σ K :=
  AW.cond b hc (fun e => by rw [hb] at e; cases e) (fun _ => h)
theorem AW.cut {c : Code} {σ : Sg} {K : Exit → Sg → Prop} (L : List (Nat × Nat)) (mask : List Bool) (d : Nat) (b : Bool) (hc : AW P N c σ (fun e s => e = .normal ∧ Sub N s (cutS σ L mask d b))) (hk : K .normal (cutS σ L mask d b)) : AW P N c σ K := by
  intro G0 w0 a w s
  refine wp_mono (hc G0 w0 a w s) ?_
  rintro e a' w' ⟨σ', ⟨rfl, h1⟩, h2⟩
  exact ⟨_, hk, h1 G0 w0 a' w' h2⟩
end
def mvH (i k : Nat) : Nat → Option Nat := fun j => if j = i then some k else some j
def Sg.mv (σ : Sg) (i k : Nat) : Sg := ⟨fun t => (σ.tm t).ren (mvH i k), fun j => if j = k then (σ.ob i).ren (mvH i k) else if j = i then .dead else (σ.ob j).ren (mvH i k)⟩
def Gh.mvO (G : Gh) (i k : Nat) : Gh := { G with ρ := fun j => if j = k then G.ρ i else G.ρ j, F := fun j b => if j = k then G.F i b else j ≠ i ∧ G.F j b }
theorem Sub.mv {N : Cx} {σ : Sg} (i k : Nat) (hf : isFree (σ.ob k) = true) (hne : i ≠ k) : Sub N σ (σ.mv i k) := by
  intro G0 w0 a w s
  obtain ⟨G, H, ht, h1, h2, f, h4⟩ := s
  have hk : σ.ob k = .free := by cases h : σ.ob k <;> rw [h] at hf <;> first | rfl | cases hf
  have hr := H.free hk
  have hh : ∀ a b r, mvH i k a = some b → G.ρ a = some r → (G.mvO i k).ρ b = some r := by
    intro a b r e hr'
    unfold mvH at e
    split at e
    · rename_i ha
      subst ha
      obtain rfl := Option.some.inj e
      show (if k = k then _ else _) = _
      rw [if_pos rfl]
      exact hr'
    · obtain rfl := Option.some.inj e
      show (if a = k then _ else _) = _
      rw [if_neg (fun e => by subst e; rw [hr.1] at hr'; cases hr')]
      exact hr'
  have hF : ∀ j b, (G.mvO i k).F j b → ∃ j', G.F j' b := by
    intro j b h
    simp only [Gh.mvO] at h
    split at h
    · exact ⟨_, h⟩
    · exact ⟨_, h.2⟩
  refine ⟨G.mvO i k, ⟨H.ij, H.lt, fun j => ?_, fun j b h => ?_, fun j b h => ?_, fun j j' b q1 q2 => ?_⟩, fun t => Rep.ren hh (ht t), h1, h2, ⟨f.os, f.tape, f.output, f.sz, f.blk, fun j r h => ?_, f.I, f.J, f.In, f.Jn, fun j b h => ?_⟩, h4⟩
  · show OwnOb (G.mvO i k).ρ w G.I G.J ((G.mvO i k).ρ j) ((G.mvO i k).F j) ((σ.mv i k).ob j)
    by_cases e : j = k
    · have := OwnOb.ren hh (H.own i)
      simpa [Gh.mvO, Sg.mv, e] using this
    · by_cases e2 : j = i
      · have e3 : (σ.mv i k).ob j = .dead := by simp [Sg.mv, e2, hne]
        rw [e3]
        intro b hb
        simp [Gh.mvO, e, e2, hne] at hb
      · have := OwnOb.ren hh (H.own j)
        simpa [Gh.mvO, Sg.mv, e, e2] using this
  · obtain ⟨j', h⟩ := hF j b h
    exact H.flt j' b h
  · obtain ⟨j', h⟩ := hF j b h
    exact H.fj j' b h
  · simp only [Gh.mvO] at q1 q2
    split at q1
    · split at q2
      · rename_i e1 e2; rw [e1, e2]
      · have := H.dis _ _ b q1 q2.2
        exact (q2.1 this.symm).elim
    · split at q2
      · have := H.dis _ _ b q1.2 q2
        exact (q1.1 this).elim
      · exact H.dis _ _ b q1.2 q2.2
  · have := f.rho j r h
    show (if j = k then _ else _) = _
    rw [if_neg (fun e => by subst e; rw [hr.1] at this; cases this)]
    exact this
  · obtain ⟨j', h⟩ := hF j b h
    exact f.F j' b h
section
variable {P : Program} {N : Cx} {ops : Array Oper} {K : List Tr → Sg → Prop} {k : Nat} {σ : Sg}
theorem At.litK {t d e es bytes n : Nat} {parts : Array (Nat × Operand)} (q : Nat × Nat) (j : Nat) (kill : List Nat) (cs cs' zs xs : List V) (fl : List (Nat × Nat × List V)) (hg : goes ops σ k = true) (ho : opd (opAt ops k) = (.buildSlice t n parts, some d)) (ht : (slE P t N.n d, elInfo P e, zeroCs P e, decide (0 < n) && decide (n * es ≤ 16777216)) = (some (e, es), some (es, bytes), some zs, true))
    (hf : (fillV (fun i => some (i * es, es)) (zerosV n zs) (partsEv σ parts.toList), convL q σ.ob cs, notIn j kill && nodupB kill, chunk es n cs') = (some cs, some (cs', kill), true, xs)) (hfl : kill.map σ.ob = fl.map fun p => Ob.arr p.1 p.2.1 p.2.2) (hfs : ∀ p ∈ fl, ∀ x ∈ p.2.2, (cl x).all gS = true) (hj : σ.ob j = .free)
    (r : At P N ops (k + 1) (σ.puts ((killW kill ++ [.o j (.arr e es xs)]) ++ [.t d (.ref j)])) (fun t s => K (⟨(gpOf ops σ (opAt ops k)).getD [] ++ (partsW parts.toList (partsEv σ parts.toList) ++ obW σ.ob kill ++ [.o j .free]), (killW kill ++ [.o j (.arr e es xs)]) ++ [.t d (.ref j)]⟩ :: t) s)) : At P N ops k σ K := by
  refine At.lit q j kill cs cs' zs xs hg ho ht hf (fun i hi e' es' ys h x hx => ?_) hj r
  obtain ⟨m, hm⟩ := List.getElem?_of_mem hi
  have h1 : (kill.map σ.ob)[m]? = some (σ.ob i) := by rw [List.getElem?_map, hm]; rfl
  rw [hfl, List.getElem?_map] at h1
  obtain ⟨p, hp, h2⟩ := Option.map_eq_some_iff.1 h1
  rw [h] at h2
  injection h2 with _ _ h3
  subst h3
  exact hfs p (List.mem_of_getElem? hp) x hx
end
mutual
def V.nz (es : Nat) : V → V
  | .nil => .sl false es []
  | .agg cs => .agg (nzL es cs)
  | .ref i => .ref i
  | .sub i a b => .sub i a b
  | .ptr i a b => .ptr i a b
  | .tup cs => .tup cs
  | .un => .un
  | .int k n => .int k n
  | .bool b => .bool b
  | .str s => .str s
  | .sl p es xs => .sl p es xs
  | .own e es xs => .own e es xs
  | .vp p es xs k off => .vp p es xs k off
  | .np => .np
  | .fn f => .fn f
def nzL (es : Nat) : List V → List V
  | [] => []
  | x :: l => x.nz es :: nzL es l
end
theorem nzL_get (es : Nat) : ∀ (l : List V) (j : Nat), (nzL es l)[j]? = (l[j]?).map (V.nz es)
  | [], j => by simp [nzL]
  | x :: l, 0 => by simp [nzL]
  | x :: l, j + 1 => by simp [nzL, nzL_get es l j]
theorem nzL_length (es : Nat) : ∀ (l : List V), (nzL es l).length = l.length
  | [] => rfl
  | x :: l => by simp [nzL, nzL_length es l]
theorem nz_rep {G : Gh} {w : World} {v : Value} {x : V} (es : Nat) (h : G.Rep w v x) : G.Rep w v (x.nz es) := by
  unfold Gh.Rep at h ⊢
  induction h with
  | g h =>
    cases h <;> simp only [V.nz] <;> refine .g ?_
    · exact .un _
    · exact .int _ _
    · exact .bool _
    · exact .str _
    · exact .slE _ _ _ _
    · exact .slE _ _ _ _
    · exact .sl _ _ _ _ _ _ _ ‹_› ‹_› ‹_› ‹_› ‹_› ‹_› ‹_› ‹_› ‹_›
    · exact .vp _ _ _ _ _ _ _ ‹_› ‹_› ‹_› ‹_› ‹_› ‹_›
    · exact .np
    · exact .fn _
  | agg a cs hn _ ih =>
    simp only [V.nz]
    refine .agg a _ (by rw [nzL_length]; exact hn) (fun j x hx => ?_)
    rw [nzL_get, Option.map_eq_some_iff] at hx
    obtain ⟨y, hy, rfl⟩ := hx
    exact ih j y hy
  | tup a cs hn h ih => exact .tup a cs hn h
  | ref i r v h1 h2 => exact .ref i r v h1 h2
  | sub i off len r v h1 h2 => exact .sub i off len r v h1 h2
  | ptr i k off r g h1 h2 => exact .ptr i k off r g h1 h2
theorem FnSpec.nz {P : Program} {f : Nat} {As : List V} {T : List Ob} {R : V} {T' : List Ob} (es : Nat) (h : FnSpec P f (nzL es As) T R T') : FnSpec P f As T R T' := by
  intro G w args H hs hr
  refine h G w args H (by rw [nzL_length]; exact hs) (fun k x hx => ?_)
  rw [nzL_get, Option.map_eq_some_iff] at hx
  obtain ⟨y, hy, rfl⟩ := hx
  exact nz_rep es (hr k y hy)
theorem Sub.nsl {N : Cx} {σ : Sg} (i j t es : Nat) (cs : List V) (h : (σ.ob i, cs[j]?) = (.box t cs, some .nil)) : Sub N σ (σ.put (.o i (.box t (cs.set j (.sl false es []))))) := by
  simp only [Prod.mk.injEq] at h
  obtain ⟨h, hn⟩ := h
  intro G0 w0 a w s
  obtain ⟨G, H, ht, h1, h2, f, h4⟩ := s
  refine ⟨G, ⟨H.ij, H.lt, fun k => ?_, H.flt, H.fj, H.dis⟩, ht, h1, h2, f, h4⟩
  by_cases e : k = i
  · subst e
    have h5 := H.own k
    rw [h] at h5
    obtain ⟨r, g, cur, q1, q2, q3, q4, q5, q6⟩ := h5
    have : (σ.put (.o k (.box t (cs.set j (.sl false es []))))).ob k = .box t (cs.set j (.sl false es [])) := by simp [Sg.put]
    rw [this]
    refine ⟨r, g, cur, q1, q2, q3, by simpa using q4, fun m x hx => ?_, q6⟩
    rw [List.getElem?_set] at hx
    split at hx
    · rename_i e
      subst e
      split at hx
      · obtain rfl := Option.some.inj hx
        have := q5 j .nil hn
        exact nz_rep es this
      · cases hx
    · exact q5 m x hx
  · have : (σ.put (.o i (.box t (cs.set j (.sl false es []))))).ob k = σ.ob k := by simp [Sg.put, e]
    rw [this]
    exact H.own k
theorem sayB {b v : Bool} (h : b = v) : V.bool b = V.bool v := by rw [h]
theorem sayNT {b : Bool} (h : V.bool b = .bool false) : V.bool (!b) = .bool true := by injection h with h; rw [h]; rfl
theorem sayNF {b : Bool} (h : V.bool b = .bool true) : V.bool (!b) = .bool false := by injection h with h; rw [h]; rfl
theorem sayET {α : Type} [BEq α] [LawfulBEq α] {a b : α} (h : a = b) : V.bool (a == b) = .bool true := by rw [h]; simp
theorem sayEF {α : Type} [BEq α] [LawfulBEq α] {a b : α} (h : ¬ a = b) : V.bool (a == b) = .bool false := by rw [beq_eq_false_iff_ne.2 h]
theorem sayUT {α : Type} [BEq α] [LawfulBEq α] {a b : α} (h : ¬ a = b) : V.bool (a != b) = .bool true := by rw [bne_iff_ne.2 h]
theorem sayUF {α : Type} [BEq α] [LawfulBEq α] {a b : α} (h : a = b) : V.bool (a != b) = .bool false := by rw [h]; simp
end Go.Sy
end

section
set_option linter.unusedVariables false
set_option linter.unusedSimpArgs false
namespace Go.Sy
theorem putEl_cl0 {es off : Nat} {ys : List V} {z y y' : V} (h : putEl es off ys y = some y') (hl : (cl y).length = es) (hys : ys = [z]) (hz : cl z = [z]) : (cl y').length = es ∧ off < es ∧ ∀ j : Nat, (cl y')[j]? = if j = off then some z else (cl y)[j]? := by
  unfold putEl at h
  split at h
  · split at h
    · cases h
    · rename_i z' _
      injection hys with he _
      subst he
      split at h
      · rename_i h0
        obtain rfl := Option.some.inj h
        subst h0
        have hy : ∃ q, cl y = [q] := by
          cases hq : cl y with
          | nil => rw [hq] at hl; simp at hl
          | cons q l =>
            rw [hq] at hl
            simp at hl
            exact ⟨q, by rw [hl]⟩
        obtain ⟨q, hy⟩ := hy
        rw [hz, hy]
        refine ⟨rfl, by simp, fun j => ?_⟩
        cases j with
        | zero => simp
        | succ j => simp
      · cases h
    · cases h
  · split at h
    · rename_i cs
      obtain ⟨c1, hst, rfl⟩ := Option.map_eq_some_iff.1 h
      obtain ⟨s1, s2, s3⟩ := storeV_get hst
      subst hys
      simp only [cl, List.length_cons, List.length_nil] at hl s2 s3 ⊢
      refine ⟨by omega, by omega, fun j => ?_⟩
      rw [s3]
      by_cases hj : j = off
      · subst hj; simp
      · rw [if_neg (by omega), if_neg hj]
    · cases h
theorem putEl_cl1 {es off : Nat} {z y y' : V} (h : putEl es off [z] y = some y') (hl : (cl y).length = es) (hz : cl z = [z]) : (cl y').length = es ∧ off < es ∧ ∀ j : Nat, (cl y')[j]? = if j = off then some z else (cl y)[j]? := putEl_cl0 h hl rfl hz
section
variable {w : World} {I J : Nat → Prop}
theorem Arr.turn {N : Nat → Nat → Nat → Prop} {F : Nat → Prop} {g cap : Nat} {cur : Array Value} {e es : Nat} {xs : List V} (h : Arr w I J N F g cap cur e es xs) {j off : Nat} {y y' z : V} (hy : xs[j]? = some y) (hz : cl z = [z]) (hg : gO z = true) (hp : putEl es off [z] y = some y')
    (M : Nat → Prop) (hM : RepN w I J M (cur.getD (j * es + off) undef) z) (hm1 : ∀ b, M b → ∀ k' j', N k' j' b → k' = j ∧ j' = off) (hm2 : ¬ M g) :
    Arr w I J (fun k' j' b => if k' = j ∧ j' = off then M b else N k' j' b) (fun b => b = g ∨ ∃ k' j', (if k' = j ∧ j' = off then M b else N k' j' b)) g cap cur e es (xs.set j y') := by
  obtain ⟨p1, p2, p3⟩ := putEl_cl1 hp (h.hl j y hy) hz
  have hjl := (List.getElem?_eq_some_iff.1 hy).1
  have hget : ∀ (k : Nat) (x : V), (xs.set j y')[k]? = some x → (k = j ∧ x = y') ∨ (k ≠ j ∧ xs[k]? = some x) := by
    intro k x hx
    rw [List.getElem?_set] at hx
    by_cases e : j = k
    · rw [if_pos e, if_pos (by omega)] at hx
      exact .inl ⟨e.symm, (Option.some.inj hx).symm⟩
    · rw [if_neg e] at hx
      exact .inr ⟨fun h => e h.symm, hx⟩
  refine ⟨h.heap, h.size, by simpa using h.le, h.max, fun k x hx => ?_, fun i hi => h.one i (by simpa using hi), fun x hx => ?_, fun k x hx i u hu => ?_, fun b => Iff.rfl, fun k i hb => ?_, fun k i k' i' b h1 h2 => ?_, fun k i b hb => ?_⟩
  · rcases hget k x hx with ⟨rfl, rfl⟩ | ⟨_, hx⟩
    · exact p1
    · exact h.hl k x hx
  · rcases List.mem_or_eq_of_mem_set hx with hx | rfl
    · exact h.gr x hx
    · rw [List.all_eq_true]
      intro u hu
      obtain ⟨i, hi⟩ := List.getElem?_of_mem hu
      rw [p3] at hi
      split at hi
      · obtain rfl := Option.some.inj hi; exact hg
      · exact (List.all_eq_true.1 (h.gr y (List.mem_of_getElem? hy))) u (List.mem_of_getElem? hi)
  · rcases hget k x hx with ⟨rfl, rfl⟩ | ⟨hk, hx⟩
    · rw [p3] at hu
      by_cases hi : i = off
      · subst hi
        rw [if_pos rfl] at hu
        obtain rfl := Option.some.inj hu
        simp only [and_self, if_true]
        exact hM
      · rw [if_neg hi] at hu
        have := h.rep k y hy i u hu
        simpa [hi] using this
    · have := h.rep k x hx i u hu
      simpa [hk] using this
  · split at hb
    · exact hm2 hb
    · exact h.ng k i hb
  · split at h1
    · rename_i e1
      split at h2
      · rename_i e2; exact ⟨e1.1.trans e2.1.symm, e1.2.trans e2.2.symm⟩
      · have := hm1 b h1 k' i' h2
        exact ⟨e1.1.trans this.1.symm, e1.2.trans this.2.symm⟩
    · split at h2
      · rename_i e2
        have := hm1 b h2 k i h1
        exact ⟨this.1.trans e2.1.symm, this.2.trans e2.2.symm⟩
      · exact h.nd k i k' i' b h1 h2
  · split at hb
    · rename_i e1
      refine ⟨y', z, by rw [e1.1, List.getElem?_set, if_pos rfl, if_pos hjl], by rw [e1.2, p3, if_pos rfl]⟩
    · rename_i e1
      obtain ⟨x, u, hx, hu⟩ := h.nb k i b hb
      by_cases hk : k = j
      · subst hk
        rw [hy] at hx
        obtain rfl := Option.some.inj hx
        exact ⟨y', u, by rw [List.getElem?_set, if_pos rfl, if_pos hjl], by rw [p3, if_neg (fun e => e1 ⟨rfl, e⟩)]; exact hu⟩
      · exact ⟨x, u, by rw [List.getElem?_set, if_neg (fun e => hk e.symm)]; exact hx, hu⟩
end
def Gh.out (G : Gh) (i k : Nat) (r : RI) (Fi Fk : Nat → Prop) : Gh := { G with ρ := fun l => if l = k then some r else G.ρ l, F := fun l => if l = k then Fk else if l = i then Fi else G.F l }
theorem arr_of_flat {w : World} {I J : Nat → Prop} {g cap : Nat} {cur : Array Value} {e es : Nat} {ys : List V} (h : Flat w I J g cap cur e es ys) {F : Nat → Prop} (hF : ∀ b, F b ↔ b = g) : Arr w I J (fun _ _ _ => False) F g cap cur e es ys :=
  ⟨h.heap, h.size, h.le, h.max, h.hl, h.one, fun x hx => by
    rw [List.all_eq_true]
    intro y hy
    exact gO_of_gS ((List.all_eq_true.1 (h.gr x hx)) y hy), fun k x hx j y hy => repN_of_gS (ρ := fun _ => none) ((List.all_eq_true.1 (h.gr x (List.mem_of_getElem? hx))) y (List.mem_of_getElem? hy)) (.g (h.rep k x hx j y hy)), fun b => by rw [hF b]; simp, fun _ _ h => h, fun _ _ _ _ _ h => h.elim, fun _ _ _ h => h.elim⟩
section
variable {P : Program} {N : Cx} {ops : Array Oper}
theorem ok_open {o : Oper} {x : Operand} {t : TypeId} {d i e es j off k e' es' : Nat} {σ : Sg} {xs ys : List V} {y y' : V} (ho : o.op = .load t x) (hd : o.dst = some d) (hn : d < N.n) (hx : σ.ev x = .ptr i j off) (hob : σ.ob i = .arr e es xs) (hy : xs[j]? = some y)
    (hc : (cl y)[off]? = some (.own e' es' ys)) (hA : isA P t = some false) (hy' : putEl es off [.un] y = some y') (hik : i ≠ k) :
    CoreOk P N o (opw x (.ptr i j off) ++ [.o i (.arr e es xs), .o k .free]) ([.o i (.hole e es (xs.set j y') j off k), .o k (.arr e' es' ys)] ++ [.t d (.ref k)]) :=
  eff_ok hd hn (fun z hz => by simp at hz; rcases hz with h | h <;> exact ⟨_, _, h⟩) fun G w σ' a H _ he hp => by
    obtain ⟨hp1, hp2⟩ := has_append.1 hp
    have h1 := he x
    rw [opw_ev hx hp1] at h1
    obtain ⟨r, g, e1, e2, e3⟩ := Rep.inv_ptr h1
    obtain ⟨r', f1, f2, f3, f4⟩ := arr_of H (show σ'.ob i = .arr e es xs from hp2.1)
    have hfk : σ'.ob k = .free := hp2.2.1
    obtain ⟨k1, k2⟩ := H.free hfk
    rw [e1] at f1
    obtain rfl := Option.some.inj f1
    rcases f4 with ⟨f4, f5, _⟩ | ⟨g', cur, M, f4, f5⟩
    · subst f5; simp at hy
    rw [e2] at f4
    obtain rfl := Option.some.inj f4
    rw [f2] at e3
    have hjl := (List.getElem?_eq_some_iff.1 hy).1
    have hoff : off < es := by rw [← f5.hl j y hy]; exact (List.getElem?_eq_some_iff.1 hc).1
    have hlt : j * es + off < cur.size := by rw [f5.size]; exact idx_lt hjl f5.le hoff
    have hcell : w.cell? ⟨g, j * es + off, none⟩ = some (cur.getD (j * es + off) undef) := by
      rw [cell_of_row w g _ cur e (0, 0) f5.heap]
      simp [Array.getD, hlt]
    have hr := f5.rep j y hy off _ hc
    generalize hu : cur.getD (j * es + off) undef = u at hcell hr
    have hown : (RI.of u es').sl u ∧ ∀ ρ, OwnOb ρ w G.I G.J (some (RI.of u es')) (M j off) (.arr e' es' ys) := by
      rcases hr with ⟨rfl, rfl, q3⟩ | ⟨g2, cap2, cur2, rfl, q2, q3⟩
      · exact ⟨⟨rfl, rfl⟩, fun ρ => ⟨_, rfl, rfl, rfl, .inl ⟨rfl, rfl, q3, rfl⟩⟩⟩
      · exact ⟨rfl, fun ρ => ⟨_, rfl, rfl, rfl, .inr ⟨g2, cur2, _, rfl, arr_of_flat q2 q3⟩⟩⟩
    have ht := f5.turn hy (z := .un) rfl rfl hy' (fun _ => False) ⟨.un _, fun _ h => h⟩ (fun _ h => h.elim) (fun h => h)
    generalize hFi : (fun b => b = g ∨ ∃ k' j', (if k' = j ∧ j' = off then False else M k' j' b)) = Fi at ht
    have hFi2 : ∀ b, Fi b → G.F i b := by
      intro b hb
      rw [← hFi] at hb
      rw [f5.fo]
      rcases hb with hb | ⟨k', j', hb⟩
      · exact .inl hb
      · split at hb
        · exact hb.elim
        · exact .inr ⟨k', j', hb⟩
    have hMi : ∀ b, M j off b → G.F i b := fun b hb => (f5.fo b).2 (.inr ⟨j, off, hb⟩)
    have hdis : ∀ b, Fi b → M j off b → False := by
      intro b hb hm
      rw [← hFi] at hb
      rcases hb with rfl | ⟨k', j', hb⟩
      · exact f5.ng j off hm
      · split at hb
        · exact hb
        · rename_i hne
          exact hne (f5.nd k' j' j off b hb hm)
    refine ⟨u, w, G.out i k (RI.of u es') Fi (M j off), ?_, ?_⟩
    · simp only [execOp, ho, e3, Sem.run_bind, run_load1 hA hcell, Result.andThen_ok, Sem.run_pure]
    have hobi : (σ'.puts [W.o i (Ob.hole e es (xs.set j y') j off k), W.o k (Ob.arr e' es' ys)]).ob = fun l => if l = k then .arr e' es' ys else if l = i then .hole e es (xs.set j y') j off k else σ'.ob l := by
      funext l; simp [Sg.puts, Sg.put]
    rw [hobi]
    have key : Hold (G.out i k (RI.of u es') Fi (M j off)) w (fun l => if l = k then .arr e' es' ys else if l = i then .hole e es (xs.set j y') j off k else σ'.ob l) ∧ Fr G w (G.out i k (RI.of u es') Fi (M j off)) w := by
      refine Hold.step (G' := G.out i k (RI.of u es') Fi (M j off)) (w' := w) (ob' := fun l => if l = k then .arr e' es' ys else if l = i then .hole e es (xs.set j y') j off k else σ'.ob l) H rfl rfl rfl rfl rfl (Nat.le_refl _)
        (fun l rr h => by simp only [Gh.out]; rw [if_neg (fun e => by subst e; rw [k1] at h; cases h)]; exact h)
        (fun l => l = i ∨ l = k) (fun l hl => by
          have h1 : l ≠ i := fun e => hl (.inl e)
          have h2 : l ≠ k := fun e => hl (.inr e)
          simp [Gh.out, h1, h2]) (fun _ _ _ => rfl) (fun LG L l hl => ?_) (fun l b hl hb => .inl ⟨i, .inl rfl, ?_⟩) (fun l b hl hb => ?_) (fun l l' b hl hl' hb hb' => ?_)
      · rcases hl with rfl | rfl
        · have : (G.out l k (RI.of u es') Fi (M j off)).ρ l = some r := by simp [Gh.out, hik, e1]
          rw [this]
          have h2 : (G.out l k (RI.of u es') Fi (M j off)).F l = Fi := by simp [Gh.out, hik]
          rw [h2]
          simp only [if_neg hik, if_true]
          refine ⟨r, g, cur, _, rfl, f2, by simpa using f3, e2, ht, ?_⟩
          rw [hu]
          exact Rep.ref k (RI.of u es') u (by simp [Gh.out]) hown.1
        · have : (G.out i l (RI.of u es') Fi (M j off)).ρ l = some (RI.of u es') := by simp [Gh.out]
          rw [this]
          have h2 : (G.out i l (RI.of u es') Fi (M j off)).F l = M j off := by simp [Gh.out]
          rw [h2]
          simp only [if_true]
          exact hown.2 _
      · rcases hl with rfl | rfl
        · simp only [Gh.out, if_neg hik, if_true] at hb
          exact hFi2 b hb
        · simp only [Gh.out, if_true] at hb
          exact hMi b hb
      · rcases hl with rfl | rfl
        · simp only [Gh.out, if_neg hik, if_true] at hb
          exact H.flt _ b (hFi2 b hb)
        · simp only [Gh.out, if_true] at hb
          exact H.flt _ b (hMi b hb)
      · rcases hl with rfl | rfl <;> rcases hl' with rfl | rfl
        · rfl
        · simp only [Gh.out, if_neg hik, if_true] at hb hb'
          exact (hdis b hb hb').elim
        · simp only [Gh.out, if_neg hik, if_true] at hb hb'
          exact (hdis b hb' hb).elim
        · rfl
    exact ⟨key.1, key.2, Rep.ref k (RI.of u es') u (by simp [Gh.out]) hown.1⟩
end
end Go.Sy
end

section
set_option linter.unusedVariables false
set_option linter.unusedSimpArgs false
namespace Go.Sy
def encU8 (b : UInt8) : V := .int .u8 (b.toNat : Int)
def u8Of (x : Int) : UInt8 := UInt8.ofNat (x % 256).toNat
theorem sayByte (x : Int) : V.int .u8 (IntKind.u8.wrap x) = encU8 (u8Of x) := by
  unfold encU8 u8Of
  congr 1
  have h1 : (x % 256).toNat < 256 := by omega
  rw [UInt8.toNat_ofNat_of_lt' h1]
  have h2 : IntKind.u8.wrap x = x % 256 := by simp [IntKind.wrap, IntKind.signed, IntKind.bits]
  rw [h2]
  omega
theorem sayRem {a b : Int} (h : 0 ≤ a) : V.int .i64 (a.tmod b) = V.int .i64 (a % b) := by rw [Int.tmod_eq_emod_of_nonneg h]
theorem sayQuo {a b : Int} (h : 0 ≤ a) (h1 : a ≤ 9223372036854775807) (hb : 0 < b) : V.int .i64 (IntKind.i64.wrap (a.tdiv b)) = V.int .i64 (a / b) := by
  rw [Int.tdiv_eq_ediv_of_nonneg h]
  have h2 : 0 ≤ a / b := Int.ediv_nonneg h (by omega)
  have h3 : a / b ≤ a := Int.ediv_le_self b h
  rw [IntKind.wrap_i64]
  congr 1
  omega
def strOf (l : List UInt8) : ByteArray := ⟨l.toArray⟩
theorem allP_encU8 (l : List UInt8) : AllP (l.map encU8) := by
  intro x hx
  obtain ⟨y, _, rfl⟩ := List.mem_map.1 hx
  rfl
section
variable {P : Program} {N : Cx} {ops : Array Oper}
theorem u8_of {w : World} {I J M} {v : Value} {b : UInt8} (h : RepN w I J M v (encU8 b)) : v = .int .u8 (b.toNat : Int) := by
  have := h.1
  cases this
  rfl
theorem ok_b2s {o : Oper} {x : Operand} {s t e d : Nat} {σ : Sg} {T : V} (l : List UInt8) {kill : List Nat} (hs : P.underlying s = some (.slice e)) (he : P.underlying e = some (.int .u8)) (ht : P.underlying t = some .string) (ho : o.op = .convert s t x) (hd : o.dst = some d) (hn : d < N.n)
    (hx : σ.ev x = T) (hf : SecondIs σ.ob T e 1 (l.map encU8) kill) : CoreOk P N o (opw x T ++ obW σ.ob (obK T)) [.t d (.str (strOf l))] :=
  val_ok hd hn fun G w σ' a H hev hp => by
    obtain ⟨hp1, hp2⟩ := has_append.1 hp
    have h1 := hev x
    rw [opw_ev hx hp1] at h1
    obtain ⟨M, ⟨A, c, news, b1, b2, b3, b4, b5, b6, b7, b8⟩, _⟩ := second_src H (hf.congr (obW_has hp2)) h1
    refine ⟨.string (strOf l), ?_, .g (.str _)⟩
    rw [List.length_map] at b1 b2
    cases A with
    | none =>
      have hl : l = [] := by
        have := b3 rfl
        simpa using this
      subst hl
      simp only [execOp, ho, b1, Sem.run_bind, run_convert_bytes_string w s t e _ _ c hs he ht, Conv.bytesToString, Sem.run_pure, Result.andThen_ok]
      rfl
    | some ad =>
      have := run_convert_bytes_back (P := P) w s t e ad c l hs he ht (fun j hj => by
        have hj2 : j < news.length := by omega
        rw [b4 ad rfl j _ (List.getElem?_eq_getElem hj2)]
        have h2 : (l.map encU8)[j]? = some (encU8 l[j]) := by rw [List.getElem?_map, List.getElem?_eq_getElem hj]; rfl
        have h3 := b8 j _ h2 0 (encU8 l[j]) rfl
        have h4 := u8_of h3
        rw [Nat.mul_one, Nat.add_zero, List.getD_eq_getElem?_getD, List.getElem?_eq_getElem hj2] at h4
        simpa using h4)
      simp only [execOp, ho, b1, Sem.run_bind, this, Sem.run_pure, Result.andThen_ok]
      rfl
end
section
variable {P : Program} {N : Cx} {ops : Array Oper} {K : List Tr → Sg → Prop} {k : Nat} {σ : Sg}
theorem At.b2s {s t e d : Nat} {x : Operand} {T : V} (l : List UInt8) (kill : List Nat) (hg : goes ops σ k = true) (ho : opd (opAt ops k) = (.convert s t x, some d)) (ht : (P.underlying s, P.underlying e, P.underlying t, Nat.blt d N.n) = (some (.slice e), some (.int .u8), some .string, true)) (hv : σ.ev x = T) (hf : SecondIs σ.ob T e 1 (l.map encU8) kill)
    (r : At P N ops (k + 1) (σ.puts [.t d (.str (strOf l))]) (fun t s => K (⟨(gpOf ops σ (opAt ops k)).getD [] ++ (opw x T ++ obW σ.ob (obK T)), [.t d (.str (strOf l))]⟩ :: t) s)) : At P N ops k σ K := by
  simp only [Prod.mk.injEq] at ht
  exact At.step2 hg ⟨ok_b2s l ht.1 ht.2.1 ht.2.2.1 (opd1 ho) (opd2 ho) (by simpa using ht.2.2.2) hv hf, has2 (opw_has hv) (obW_self σ _)⟩ r
theorem At.div {t u d : Nat} {op : BinOp} {x y : Operand} {kd : IntKind} {a b : Int} (hg : goes ops σ k = true) (ho : opd (opAt ops k) = (.binOp op t x y u, some d)) (hn : Nat.blt d N.n = true) (hv : [σ.ev x, σ.ev y] = [.int kd a, .int kd b]) (hb : b ≠ 0) (v : V) (hop : (op = .quo ∧ v = .int kd (kd.wrap (a.tdiv b))) ∨ (op = .rem ∧ v = .int kd (a.tmod b)))
    (r : At P N ops (k + 1) (σ.puts [.t d v]) (fun t s => K (⟨(gpOf ops σ (opAt ops k)).getD [] ++ (opw x (.int kd a) ++ opw y (.int kd b)), [.t d v]⟩ :: t) s)) : At P N ops k σ K := by
  simp only [List.cons.injEq, and_true] at hv
  rcases hop with ⟨rfl, rfl⟩ | ⟨rfl, rfl⟩
  · exact At.step2 hg ⟨ok_div (opd1 ho) (opd2 ho) (by simpa using hn) hv.1 hv.2 rfl hb (.inl rfl), has2 (opw_has hv.1) (opw_has hv.2)⟩ r
  · exact At.step2 hg ⟨ok_div (opd1 ho) (opd2 ho) (by simpa using hn) hv.1 hv.2 rfl hb (.inr rfl), has2 (opw_has hv.1) (opw_has hv.2)⟩ r
theorem At.conv {s t d : Nat} {x : Operand} {kd kd' : IntKind} {a : Int} (v : V) (hg : goes ops σ k = true) (ho : opd (opAt ops k) = (.convert s t x, some d)) (ht : ((P.underlying s).isSome, P.underlying t, Nat.blt d N.n) = (true, some (.int kd'), true)) (hv : σ.ev x = .int kd a) (hw : V.int kd' (kd'.wrap a) = v)
    (r : At P N ops (k + 1) (σ.puts [.t d v]) (fun t s => K (⟨(gpOf ops σ (opAt ops k)).getD [] ++ opw x (.int kd a), [.t d v]⟩ :: t) s)) : At P N ops k σ K := by
  subst hw
  simp only [Prod.mk.injEq] at ht
  exact At.step2 hg ⟨ok_conv ht.1 ht.2.1 (opd1 ho) (opd2 ho) (by simpa using ht.2.2) hv, opw_has hv⟩ r
theorem At.cat {t u d : Nat} {x y : Operand} {a b : ByteArray} (hg : goes ops σ k = true) (ho : opd (opAt ops k) = (.binOp .add t x y u, some d)) (hn : Nat.blt d N.n = true) (hv : [σ.ev x, σ.ev y] = [.str a, .str b]) (hl : a.size + b.size ≤ 9223372036854775807)
    (r : At P N ops (k + 1) (σ.puts [.t d (.str (a ++ b))]) (fun t s => K (⟨(gpOf ops σ (opAt ops k)).getD [] ++ (opw x (.str a) ++ opw y (.str b)), [.t d (.str (a ++ b))]⟩ :: t) s)) : At P N ops k σ K := by
  simp only [List.cons.injEq, and_true] at hv
  exact At.step2 hg ⟨ok_cat (opd1 ho) (opd2 ho) (by simpa using hn) hv.1 hv.2 hl, has2 (opw_has hv.1) (opw_has hv.2)⟩ r
theorem At.idxStr {t d : Nat} {x y : Operand} {s : ByteArray} {kd : IntKind} {i : Int} (c : UInt8) (hg : goes ops σ k = true) (ho : opd (opAt ops k) = (.index t x y, some d)) (ht : (P.underlying t, Nat.blt d N.n) = (some .string, true)) (hv : [σ.ev x, σ.ev y] = [.str s, .int kd i]) (h0 : 0 ≤ i) (hc : s.data[i.toNat]? = some c)
    (r : At P N ops (k + 1) (σ.puts [.t d (.int .u8 (c.toNat : Int))]) (fun t s' => K (⟨(gpOf ops σ (opAt ops k)).getD [] ++ (opw x (.str s) ++ opw y (.int kd i)), [.t d (.int .u8 (c.toNat : Int))]⟩ :: t) s')) : At P N ops k σ K := by
  simp only [List.cons.injEq, and_true] at hv
  simp only [Prod.mk.injEq] at ht
  have h1 : i.toNat < s.size := (Array.getElem?_eq_some_iff.1 hc).1
  have h2 : s[i.toNat] = c := (Array.getElem?_eq_some_iff.1 hc).2
  subst h2
  exact At.step2 hg ⟨ok_indexStr (opd1 ho) (opd2 ho) (by simpa using ht.2) ht.1 hv.1 hv.2 h0 h1, has2 (opw_has hv.1) (opw_has hv.2)⟩ r
theorem At.slStr {t d : Nat} {x : Operand} {lx hx : Option Operand} {s : ByteArray} {vl vh : V} (lo hi : Nat) (hg : goes ops σ k = true) (ho : opd (opAt ops k) = (.slice t x lx hx none, some d)) (ht : (P.underlying t, Nat.blt d N.n) = (some .string, true)) (hv : [σ.ev x, boundV σ lx, boundV σ hx] = [.str s, vl, vh])
    (hl : (lx = none ∧ lo = 0) ∨ ∃ y k, lx = some y ∧ vl = .int k (lo : Int)) (hh : (hx = none ∧ hi = s.size) ∨ ∃ y k, hx = some y ∧ vh = .int k (hi : Int)) (h1 : lo ≤ hi) (h2 : hi ≤ s.size)
    (r : At P N ops (k + 1) (σ.puts [.t d (.str (s.extract lo hi))]) (fun t s' => K (⟨(gpOf ops σ (opAt ops k)).getD [] ++ (opw x (.str s) ++ boW lx vl ++ boW hx vh), [.t d (.str (s.extract lo hi))]⟩ :: t) s')) : At P N ops k σ K := by
  simp only [List.cons.injEq, and_true] at hv
  simp only [Prod.mk.injEq] at ht
  have b1 := bound_h hv.2.1 hl
  have b2 := bound_h hv.2.2 hh
  exact At.step2 hg ⟨ok_sliceStr (opd1 ho) (opd2 ho) (by simpa using ht.2) ht.1 hv.1 b1 b2 h1 h2, has2 (has2 (opw_has hv.1) (bound_w b1)) (bound_w b2)⟩ r
theorem At.out {t d i e es j off e' es' : Nat} {x : Operand} {xs xs' ys : List V} (q : Nat) (y y' : V) (hg : goes ops σ k = true) (ho : opd (opAt ops k) = (.load t x, some d)) (ht : ldT P t N.n d = some (false, 1)) (hx : σ.ev x = .ptr i j off) (hob : (σ.ob i, σ.ob q) = (.arr e es xs, .free)) (hy : xs[j]? = some y) (hc : ((cl y)[off]?, putEl es off [.un] y) = (some (.own e' es' ys), some y')) (hik : i ≠ q) (hxs : xs.set j y' = xs')
    (r : At P N ops (k + 1) (σ.puts ([.o i (.hole e es xs' j off q), .o q (.arr e' es' ys)] ++ [.t d (.ref q)])) (fun t s => K (⟨(gpOf ops σ (opAt ops k)).getD [] ++ (opw x (.ptr i j off) ++ [.o i (.arr e es xs), .o q .free]), [.o i (.hole e es xs' j off q), .o q (.arr e' es' ys)] ++ [.t d (.ref q)]⟩ :: t) s)) : At P N ops k σ K := by
  subst hxs
  simp only [Prod.mk.injEq] at hob hc
  obtain ⟨a1, a2, a3⟩ := ldT_of ht
  exact At.step2 hg ⟨ok_open (opd1 ho) (opd2 ho) a3 hx hob.1 hy hc.1 a1 hc.2 hik, has2 (opw_has hx) ⟨hob.1, hob.2, trivial⟩⟩ r
end
end Go.Sy
end

section
set_option linter.unusedVariables false
set_option linter.unusedSimpArgs false
namespace Go.Sy
section
variable {P : Program} {N : Cx} {ops : Array Oper}
def bitI (op : BinOp) (k : IntKind) (a b : Int) : Option Int :=
  match op with
  | .and => some (k.wrap (BitVec.ofInt k.bits a &&& BitVec.ofInt k.bits b).toNat)
  | .or => some (k.wrap (BitVec.ofInt k.bits a ||| BitVec.ofInt k.bits b).toNat)
  | .xor => some (k.wrap (BitVec.ofInt k.bits a ^^^ BitVec.ofInt k.bits b).toNat)
  | .andNot => some (k.wrap (BitVec.ofInt k.bits a &&& ~~~BitVec.ofInt k.bits b).toNat)
  | _ => none
theorem ok_bits {o : Oper} {op : BinOp} {x y : Operand} {t u : TypeId} {d : Nat} {σ : Sg} {k k' : IntKind} {a b r : Int} (ho : o.op = .binOp op t x y u) (hd : o.dst = some d) (hn : d < N.n)
    (hx : σ.ev x = .int k a) (hy : σ.ev y = .int k' b) (hk : k = k') (hv : bitI op k a b = some r) : CoreOk P N o (opw x (.int k a) ++ opw y (.int k' b)) [.t d (.int k r)] :=
  val_ok hd hn fun G w σ' ac H he hp => by
    subst hk
    obtain ⟨hp1, hp2⟩ := has_append.1 hp
    have h1 := he x
    rw [opw_ev hx hp1] at h1
    have h2 := he y
    rw [opw_ev hy hp2] at h2
    have e1 := Rep.inv_int h1
    have e2 := Rep.inv_int h2
    refine ⟨.int k r, ?_, .g (.int _ _)⟩
    cases op <;> simp only [bitI, Option.some.injEq, reduceCtorEq] at hv <;> subst hv
    all_goals simp [execOp, ho, e1, e2, eqGuard, binOp, Op.intBits]
def shI (op : BinOp) (k : IntKind) (a b : Int) : Option Int :=
  match op with
  | .shl => some (k.wrap (a * 2 ^ min b.toNat k.bits))
  | .shr => some (a / 2 ^ min b.toNat k.bits)
  | _ => none
theorem ok_shift {o : Oper} {op : BinOp} {x y : Operand} {t u : TypeId} {d : Nat} {σ : Sg} {k k' : IntKind} {a b r : Int} (ho : o.op = .binOp op t x y u) (hd : o.dst = some d) (hn : d < N.n)
    (hx : σ.ev x = .int k a) (hy : σ.ev y = .int k' b) (hb : 0 ≤ b) (hv : shI op k a b = some r) : CoreOk P N o (opw x (.int k a) ++ opw y (.int k' b)) [.t d (.int k r)] :=
  val_ok hd hn fun G w σ' ac H he hp => by
    obtain ⟨hp1, hp2⟩ := has_append.1 hp
    have h1 := he x
    rw [opw_ev hx hp1] at h1
    have h2 := he y
    rw [opw_ev hy hp2] at h2
    have e1 := Rep.inv_int h1
    have e2 := Rep.inv_int h2
    refine ⟨.int k r, ?_, .g (.int _ _)⟩
    have hp : (0 : Int) ≤ 2 ^ min b.toNat k.bits := Int.le_of_lt (Int.pow_pos (by decide))
    cases op <;> simp only [shI, Option.some.injEq, reduceCtorEq] at hv <;> subst hv
    all_goals simp [execOp, ho, e1, e2, eqGuard, binOp, Op.shift, Int.not_lt.mpr hb, Int.fdiv_eq_ediv_of_nonneg _ hp]
end
section
variable {P : Program} {N : Cx} {ops : Array Oper} {K : List Tr → Sg → Prop} {k : Nat} {σ : Sg}
theorem At.bits {t u d : Nat} {op : BinOp} {x y : Operand} {kd : IntKind} {a b : Int} (r' : Int) (hg : goes ops σ k = true) (ho : opd (opAt ops k) = (.binOp op t x y u, some d)) (hn : Nat.blt d N.n = true) (hv : [σ.ev x, σ.ev y] = [.int kd a, .int kd b]) (hr : bitI op kd a b = some r')
    (r : At P N ops (k + 1) (σ.puts [.t d (.int kd r')]) (fun t s => K (⟨(gpOf ops σ (opAt ops k)).getD [] ++ (opw x (.int kd a) ++ opw y (.int kd b)), [.t d (.int kd r')]⟩ :: t) s)) : At P N ops k σ K := by
  simp only [List.cons.injEq, and_true] at hv
  exact At.step2 hg ⟨ok_bits (opd1 ho) (opd2 ho) (by simpa using hn) hv.1 hv.2 rfl hr, has2 (opw_has hv.1) (opw_has hv.2)⟩ r
theorem At.shift {t u d : Nat} {op : BinOp} {x y : Operand} {kd kd' : IntKind} {a b : Int} (r' : Int) (hg : goes ops σ k = true) (ho : opd (opAt ops k) = (.binOp op t x y u, some d)) (hn : Nat.blt d N.n = true) (hv : [σ.ev x, σ.ev y] = [.int kd a, .int kd' b]) (hb : 0 ≤ b) (hr : shI op kd a b = some r')
    (r : At P N ops (k + 1) (σ.puts [.t d (.int kd r')]) (fun t s => K (⟨(gpOf ops σ (opAt ops k)).getD [] ++ (opw x (.int kd a) ++ opw y (.int kd' b)), [.t d (.int kd r')]⟩ :: t) s)) : At P N ops k σ K := by
  simp only [List.cons.injEq, and_true] at hv
  exact At.step2 hg ⟨ok_shift (opd1 ho) (opd2 ho) (by simpa using hn) hv.1 hv.2 hb hr, has2 (opw_has hv.1) (opw_has hv.2)⟩ r
end
end Go.Sy
end

section
set_option linter.unusedVariables false
set_option linter.unusedSimpArgs false
namespace Go.Sy
def termAt (l : List Ent) (n : Int) : Int := if n < 1 ∨ (l.length : Int) < n then 0 else ((l[(n - 1).toNat]?).map (·.term)).getD 0
def allIn (lo hi : Int) : List Int → Bool
  | [] => true
  | n :: l => inR n lo hi && allIn lo hi l
def zHard : Hard := ⟨0, 0, []⟩
def zRaft : Raft := ⟨0, 0, 0, 0, zHard, [], [], []⟩
def raftOk1 (r : Raft) : Bool := ofOk r.of_ && (inR r.id 0 (r.of_ - 1) && (inR r.role 1 3 && (hardOk r.hard && (inR r.commit 0 r.hard.log.length && (asc (r.of_ - 1) (-1) r.yes && !hasI r.id r.yes)))))
def raftOk2 (r : Raft) : Bool := (r.role == 2 || (r.yes.length : Int) == 0) && (r.role == 1 || (decide (1 ≤ r.hard.term) && r.hard.vote == r.id + 1))
def raftOk3 (r : Raft) : Bool := if r.role = 3 then ((r.next.length : Int) == r.of_ && allIn 1 (r.hard.log.length + 1) r.next) && ((r.match_.length : Int) == r.of_ && allIn 0 r.hard.log.length r.match_) else (r.next.length : Int) == 0 && (r.match_.length : Int) == 0
def raftOk (r : Raft) : Bool := raftOk1 r && (raftOk2 r && raftOk3 r)
def same (r : Raft) : Raft := if raftOk r = true then r else zRaft
def put (r : Raft) (e : Ent) : Raft := { r with hard := { r.hard with log := r.hard.log ++ [e] } }
end Go.Sy
end

section
set_option linter.unusedVariables false
set_option linter.unusedSimpArgs false
namespace Go.Sy
def cntGe (l : List Int) (n : Int) : Int := (l.countP (fun x => decide (x ≥ n)) : Nat)
def mostB (r : Raft) (n : Int) : Bool := decide (2 * cntGe r.match_ n > r.of_) && termAt r.hard.log n == r.hard.term
def commitGo (r : Raft) : Nat → Int
  | 0 => r.commit
  | k + 1 => if ((k : Int) + 1) > r.commit then (if mostB r (k + 1) = true then (k : Int) + 1 else commitGo r k) else r.commit
def commitOf (r : Raft) : Int := commitGo r r.hard.log.length
theorem commitGo_end {r : Raft} {n : Int} (h : ¬ n > r.commit) (h0 : 0 ≤ n) : commitGo r n.toNat = r.commit := by
  cases hk : n.toNat with
  | zero => rfl
  | succ k => unfold commitGo; rw [if_neg (by omega)]
theorem commitGo_go {r : Raft} {n : Int} (h : n > r.commit) (h0 : 0 < n) : commitGo r n.toNat = if mostB r n = true then n else commitGo r (n - 1).toNat := by
  obtain ⟨k, rfl⟩ : ∃ k : Nat, n = (k : Int) + 1 := ⟨(n - 1).toNat, by omega⟩
  have e1 : ((k : Int) + 1).toNat = k + 1 := by omega
  have e2 : ((k : Int) + 1 - 1).toNat = k := by omega
  rw [e1, e2]
  conv => lhs; unfold commitGo
  rw [if_pos h]
def CInv (r : Raft) (n c : Int) : Prop := (c = r.commit ∧ 0 ≤ n ∧ commitOf r = commitGo r n.toNat) ∨ (n ≤ c ∧ c = commitOf r)
theorem CInv.start (r : Raft) : CInv r r.hard.log.length r.commit := .inl ⟨rfl, by omega, by simp [commitOf]⟩
theorem CInv.skip {r : Raft} {n c : Int} (h : CInv r n c) (hn : n > c) (h0 : 0 ≤ c) (hb : mostB r n = false) : CInv r (n - 1) c := by
  rcases h with ⟨h1, h2, h3⟩ | ⟨h1, h2⟩
  · refine .inl ⟨h1, by omega, ?_⟩
    rw [h3, commitGo_go (by omega) (by omega), hb]
    rfl
  · omega
theorem CInv.take {r : Raft} {n c : Int} (h : CInv r n c) (hn : n > c) (h0 : 0 ≤ c) (hb : mostB r n = true) : CInv r (n - 1) n := by
  rcases h with ⟨h1, h2, h3⟩ | ⟨h1, h2⟩
  · refine .inr ⟨by omega, ?_⟩
    rw [h3, commitGo_go (by omega) (by omega), hb]
    rfl
  · omega
theorem CInv.done {r : Raft} {n c : Int} (h : CInv r n c) (hn : ¬ n > c) : c = commitOf r := by
  rcases h with ⟨h1, h2, h3⟩ | ⟨h1, h2⟩
  · rw [h3, commitGo_end (by omega) h2, h1]
  · exact h2
end Go.Sy
end

section
set_option linter.unusedVariables false
set_option linter.unusedSimpArgs false
namespace Go.Sy
end Go.Sy
end

section
set_option linter.unusedVariables false
set_option linter.unusedSimpArgs false
namespace Go.Sy
end Go.Sy
end

section
set_option linter.unusedVariables false
set_option linter.unusedSimpArgs false
namespace Go.Sy
section
variable {α : Type}
def marks (mk : α → Int → α) (nx : α → Int → Int) : List α → Int → List α
  | [], _ => []
  | a :: l, k => mk a k :: marks mk nx l (nx a k)
def ends (nx : α → Int → Int) : List α → Int → Int
  | [], k => k
  | a :: l, k => ends nx l (nx a k)
def MInv (mk : α → Int → α) (nx : α → Int → Int) (a : List α) (k : Int) (i : Nat) (kk : Int) (o : List α) : Prop :=
  i ≤ a.length ∧ o.length = a.length ∧ o.drop i = a.drop i ∧ marks mk nx a k = o.take i ++ marks mk nx (a.drop i) kk ∧ ends nx a k = ends nx (a.drop i) kk
variable {mk : α → Int → α} {nx : α → Int → Int} {a o : List α} {k kk : Int} {i : Nat}
theorem MInv.start : MInv mk nx a k 0 k a := ⟨by omega, rfl, rfl, by simp, by simp⟩
theorem MInv.get {e : α} (h : MInv mk nx a k i kk o) (he : o[i]? = some e) : a[i]? = some e := by
  have h1 : (o.drop i)[0]? = some e := by simpa using he
  rw [h.2.2.1] at h1
  simpa using h1
theorem MInv.step {e x : α} {k' : Int} (h : MInv mk nx a k i kk o) (he : o[i]? = some e) (hx : x = mk e kk) (hk : k' = nx e kk) : MInv mk nx a k (i + 1) k' (o.set i x) := by
  subst hx
  subst hk
  have hi := (List.getElem?_eq_some_iff.1 he).1
  have hd := dropCons (h.get he)
  obtain ⟨h1, h2, h3, h4, h5⟩ := h
  have h3' : o.drop (i + 1) = a.drop (i + 1) := by
    have := congrArg (List.drop 1) h3
    simpa [List.drop_drop, Nat.add_comm] using this
  refine ⟨by omega, by simpa using h2, ?_, ?_, ?_⟩
  · rw [List.drop_set_of_lt (by omega)]
    exact h3'
  · rw [h4, hd, marks]
    have e2 : (o.set i (mk e kk)).take (i + 1) = o.take i ++ [mk e kk] := by
      rw [List.take_set, List.take_succ_eq_append_getElem hi, List.set_append, if_neg (by rw [List.length_take]; omega)]
      simp [Nat.min_eq_left (Nat.le_of_lt hi)]
    rw [e2]
    simp
  · rw [h5, hd, ends]
theorem MInv.done (h : MInv mk nx a k i kk o) (hi : ¬ (i : Int) < a.length) : o = marks mk nx a k ∧ kk = ends nx a k := by
  obtain ⟨h1, h2, h3, h4, h5⟩ := h
  rw [List.drop_of_length_le (by omega)] at h4 h5
  refine ⟨?_, h5.symm⟩
  rw [h4, List.take_of_length_le (by omega)]
  simp [marks]
end
theorem setV {α : Type} {f : α → V} {l : List α} {i : Nat} {y : α} : (l.set i y).map f = (l.map f).set i (f y) := List.map_set
theorem strOf_size (l : List UInt8) : (strOf l).size = l.length := by
  show l.toArray.size = _
  simp
theorem cat_size (a b : ByteArray) : (a ++ b).size = a.size + b.size := by simp
theorem size0 (s : ByteArray) : (s.toList == (⟨#[]⟩ : ByteArray).toList) = ((s.size : Int) == 0) := by
  have : s.toList.length = s.size := by rw [ByteArray.toList_eq]; simp
  rw [noBytes, Bool.eq_iff_iff, beq_iff_eq, beq_iff_eq, ← List.length_eq_zero_iff, this]
  omega
theorem b0 (s : ByteArray) : (s.toList == []) = ((s.size : Int) == 0) := by
  rw [← noBytes]; exact size0 s
theorem b1 (s : ByteArray) : s.toList.isEmpty = ((s.size : Int) == 0) := by
  rw [← b0]; cases s.toList <;> rfl
end Go.Sy
end

section
set_option linter.unusedVariables false
set_option linter.unusedSimpArgs false
namespace Go.Sy
open Go.RowKit Go.ChangeShapes Go.Deep
def hereG (W : World) : Gh := ⟨fun _ => none, fun _ => False, fun b => b < W.heap.size, fun _ _ => False⟩
def CellsV (W : World) (cs : List Value) (vs : List V) : Prop := cs.length = vs.length ∧ ∀ (j : Nat) (u : Value) (v : V), cs[j]? = some u → vs[j]? = some v → RepG W (fun _ => False) (fun b => b < W.heap.size) u v ∧ u.oneCell' = true
section
variable {H : Type} {enc : TypeId × Value → H} {P : Program} {W : World}
def RdV (enc : TypeId × Value → H) (P : Program) (W : World) (t : TypeId) {α : Type} (sz : Nat) (f : α → List V) (G : α → Prop) : Prop :=
  ∀ (fuel : Nat) (cs : List Value) (x : DataW H × List MemPlace), DataW.trod enc P W 0 (fun _ => true) true fuel t cs = some x → ∃ y, CellsV W cs (f y) ∧ cs.length = sz ∧ G y
theorem cells1 {u : Value} {v : V} (h : RepG W (fun _ => False) (fun b => b < W.heap.size) u v) (ho : u.oneCell' = true) : CellsV W [u] [v] :=
  ⟨rfl, fun j u' v' h1 h2 => by
    cases j with
    | zero => simp at h1 h2; subst h1; subst h2; exact ⟨h, ho⟩
    | succ j => simp at h1⟩
theorem rd_int {t : TypeId} {k : IntKind} (ht : P.underlying t = some (.int k)) : RdV enc P W t 1 (fun n : Int => [.int k n]) (fun n => (Lit.int k n).wf = true) := by
  intro fuel cs x h
  obtain ⟨n, rfl, _, hw⟩ := DataW.trod_int ht h
  exact ⟨n, cells1 (.int _ _) rfl, rfl, hw⟩
theorem list_of {α : Type} (n : Nat) (Q : Nat → α → Prop) (h : ∀ i, i < n → ∃ y, Q i y) : ∃ ys : List α, ys.length = n ∧ ∀ j p, ys[j]? = some p → Q j p := by
  induction n with
  | zero => exact ⟨[], rfl, fun j p hp => by simp at hp⟩
  | succ n ih =>
    obtain ⟨ys, hl, hy⟩ := ih (fun i hi => h i (by omega))
    obtain ⟨y, hq⟩ := h n (by omega)
    refine ⟨ys ++ [y], by simp [hl], fun j p hp => ?_⟩
    by_cases hj : j < n
    · rw [List.getElem?_append_left (by omega)] at hp; exact hy j p hp
    · have hlt := (List.getElem?_eq_some_iff.1 hp).1
      rw [List.length_append, hl] at hlt
      simp only [List.length_singleton] at hlt
      obtain rfl : j = n := by omega
      rw [List.getElem?_append_right (by omega), hl] at hp
      simp at hp; subst hp; exact hq
theorem cell_lt {W : World} {ad : Addr} {u : Value} (h : W.cell? ad = some u) : ad.block < W.heap.size := by
  unfold World.cell? at h
  rcases Nat.lt_or_ge ad.block W.heap.size with h1 | h1
  · exact h1
  · rw [Array.getElem?_eq_none h1] at h
    cases h
theorem rd_slice {t e : TypeId} {α : Type} {sz : Nat} {f : α → List V} {G : α → Prop} (en : α → V) (hen : ∀ x, cl (en x) = f x) (ht : P.underlying t = some (.slice e)) (hc : P.cellsOf e = sz) (h0 : 0 < sz) (hd : RdV enc P W e sz f G) :
    RdV enc P W t 1 (fun xs : List α => [.sl false sz (xs.map en)]) (fun xs => xs.length ≤ 9223372036854775807 ∧ ∀ x ∈ xs, G x) := by
  intro fuel cs x h
  rcases open_slice ht h with ⟨rfl, _⟩ | ⟨a, len, cap, m, n, D, Pl, rfl, _, hl, hm, hmm, _, hel⟩
  · exact ⟨[], cells1 (.slE _ _ _ _) rfl, rfl, by simp, by simp⟩
  · have hm' : cap ≤ 9223372036854775807 := by unfold maxLen at hm; omega
    have hmc : m = cap := by simpa using hmm
    obtain ⟨ys, hyl, hy⟩ := list_of len (fun i (y : α) => ∃ c : List Value, CellsV W c (f y) ∧ c.length = sz ∧ (∀ j u, c[j]? = some u → W.cell? (a.add (i * sz + j)) = some u) ∧ G y) (fun i hi => by
      obtain ⟨c, hc1, hc2⟩ := hel i (by omega)
      obtain ⟨y, hK, hL, hG⟩ := hd n c _ hc2
      obtain ⟨_, hcl, hcell⟩ := World.cells?_some hc1
      refine ⟨y, c, hK, hL, fun j u hu => ?_, hG⟩
      have hlt := (List.getElem?_eq_some_iff.1 hu).1
      have := hcell j (by omega)
      rw [Go.Deep.add_add, hc] at this
      rw [this, hu])
    refine ⟨ys, cells1 ?_ rfl, rfl, by omega, fun z hz => ?_⟩
    · by_cases hz : len = 0
      · have : ys = [] := List.eq_nil_of_length_eq_zero (by omega)
        subst this
        subst hz
        exact .slE _ _ _ _
      · have hget : ∀ (k : Nat) (x : V), (ys.map en)[k]? = some x → ∃ (y : α) (c : List Value), ys[k]? = some y ∧ cl x = f y ∧ CellsV W c (f y) ∧ c.length = sz ∧ (∀ j u, c[j]? = some u → W.cell? (a.add (k * sz + j)) = some u) := by
          intro k x hx
          rw [List.getElem?_map] at hx
          obtain ⟨y, hy1, rfl⟩ := Option.map_eq_some_iff.1 hx
          obtain ⟨c, c1, c2, c3, _⟩ := hy k y hy1
          exact ⟨y, c, hy1, hen y, c1, c2, c3⟩
        have hu : ∀ (k : Nat) (x : V), (ys.map en)[k]? = some x → ∀ (j : Nat) (y : V), (cl x)[j]? = some y → ∃ u, W.cell? (a.add (k * sz + j)) = some u ∧ RepG W (fun _ => False) (fun b => b < W.heap.size) u y ∧ u.oneCell' = true := by
          intro k x hx j y hj
          obtain ⟨y', c, h1, h2, h3, h4, h5⟩ := hget k x hx
          rw [h2] at hj
          have hjl := (List.getElem?_eq_some_iff.1 hj).1
          have hjc : j < c.length := by rw [h3.1]; exact hjl
          have hcu := List.getElem?_eq_getElem hjc
          obtain ⟨r1, r2⟩ := h3.2 j _ y hcu hj
          exact ⟨_, h5 j _ hcu, r1, r2⟩
        have hblk : a.block < W.heap.size := by
          have h1 : 0 < ys.length := by omega
          have h2 : (ys.map en)[0]? = some (en ys[0]) := by rw [List.getElem?_map, List.getElem?_eq_getElem h1]; rfl
          obtain ⟨y', c, _, _, _, h4, h5⟩ := hget 0 _ h2
          have h6 : 0 < c.length := by omega
          have h7 := h5 0 _ (List.getElem?_eq_getElem h6)
          have h8 := cell_lt h7
          have h9 : (a.add (0 * sz + 0)).block = a.block := by unfold Addr.add; split <;> rfl
          rwa [h9] at h8
        refine .sl a len cap false sz (ys.map en) (fun k j => (W.cell? (a.add (k * sz + j))).getD undef) (by simp; exact hyl) (by omega) (by simp only [maxLen]; omega) (by simpa using hblk) (fun k x hx => ?_) (fun k x hx j y hj => ?_) (fun k x hx j y hj => ?_) (fun h => by cases h) (fun k x hx j y hj => ?_)
        · obtain ⟨y', c, _, h2, h3, h4, _⟩ := hget k x hx
          rw [h2, ← h3.1, h4]
        all_goals
          obtain ⟨u, q1, q2, q3⟩ := hu k x hx j y hj
        · rw [q1]; rfl
        · rw [q1]; exact q3
        · rw [q1]; exact q2
    · obtain ⟨j, hj⟩ := List.getElem?_of_mem hz
      obtain ⟨_, _, _, _, hG⟩ := hy j z hj
      exact hG
theorem rep_one {u : Value} {v : V} (h : CellsV W [u] [v]) : (hereG W).Rep W u v := .g (h.2 0 u v rfl rfl).1
theorem here_hold (W : World) : Hold (hereG W) W (obs []) where
  ij := fun _ h => h.elim
  lt := fun _ h => h
  own := fun i => ⟨rfl, fun _ h => h⟩
  flt := fun _ _ h => h.elim
  fj := fun _ _ h => h.elim
  dis := fun _ _ _ h => h.elim
end
end Go.Sy
end

section
set_option linter.unusedVariables false
set_option linter.unusedSimpArgs false
namespace Go.Sy
section
variable {P : Program} {N : Cx} {ops : Array Oper} {K : List Tr → Sg → Prop} {k : Nat} {σ : Sg}
theorem getD_get {α : Type} {o : Option α} (h : o.isSome = true) (d : α) : o.getD d = o.get h := by
  obtain ⟨x, rfl⟩ := Option.isSome_iff_exists.1 h
  rfl
theorem At.a (m : Nat) (r : At P N ops (k + m) ((autoS P N.n ops k m σ).getD ([], σ)).2 (fun t s => K (((autoS P N.n ops k m σ).getD ([], σ)).1 ++ t) s)) (h : (autoS P N.n ops k m σ).isSome = true := by kernel_rfl) : At P N ops k σ K := by
  rw [getD_get h] at r
  exact At.auto m h r
theorem At.sI (d : Nat) (n : Int) (hb : -9223372036854775808 ≤ n ∧ n ≤ 9223372036854775807) (r : At P N ops k (σ.put (.t d (.int .i64 n))) K) (h : σ.tm d = .int .i64 (IntKind.i64.wrap n) := by kernel_rfl) : At P N ops k σ K := At.say d _ _ h (sayI n hb) r
theorem At.sL {α : Type} (d : Nat) (f : α → V) (l : List α) (r : At P N ops k (σ.put (.t d (.int .i64 (l.length : Int)))) K) (h : σ.tm d = .int .i64 (((l.map f).length : Nat) : Int) := by kernel_rfl) : At P N ops k σ K := At.say d _ _ h (sayLen f l) r
theorem At.sB (d : Nat) (b v : Bool) (e : V.bool b = V.bool v) (r : At P N ops k (σ.put (.t d (.bool v))) K) (h : σ.tm d = .bool b := by kernel_rfl) : At P N ops k σ K := At.say d _ _ h e r
theorem At.iSl (t d : Nat) (x y : Operand) (p : Bool) (es : Nat) (xs : List V) (kd : IntKind) (i : Int) (e : Nat) (h0 : 0 ≤ i) (h1 : i.toNat < xs.length)
    (r : At P N ops (k + 1) (σ.puts [.t d (.vp p es xs i.toNat 0)]) (fun t s => K (⟨(gpOf ops σ (opAt ops k)).getD [] ++ (opw x (.sl p es xs) ++ opw y (.int kd i)), [.t d (.vp p es xs i.toNat 0)]⟩ :: t) s)) (hg : goes ops σ k = true := by kernel_rfl) (ho : opd (opAt ops k) = (.indexAddr t x y, some d) := by kernel_rfl) (ht : slE P t N.n d = some (e, es) := by kernel_rfl) (hv : [σ.ev x, σ.ev y] = [.sl p es xs, .int kd i] := by kernel_rfl) : At P N ops k σ K := At.idxSl hg ho ht hv h0 h1 r
theorem At.iRf (t d : Nat) (x y : Operand) (j : Nat) (xs : List V) (kd : IntKind) (i : Int) (e es : Nat) (h0 : 0 ≤ i) (h1 : i.toNat < xs.length)
    (r : At P N ops (k + 1) (σ.puts [.t d (.ptr j i.toNat 0)]) (fun t s => K (⟨(gpOf ops σ (opAt ops k)).getD [] ++ (opw x (.ref j) ++ opw y (.int kd i) ++ [.o j (.arr e es xs)]), [.t d (.ptr j i.toNat 0)]⟩ :: t) s)) (hg : goes ops σ k = true := by kernel_rfl) (ho : opd (opAt ops k) = (.indexAddr t x y, some d) := by kernel_rfl) (ht : slE P t N.n d = some (e, es) := by kernel_rfl) (hv : [σ.ev x, σ.ev y] = [.ref j, .int kd i] := by kernel_rfl) (hob : σ.ob j = .arr e es xs := by kernel_rfl) : At P N ops k σ K := At.idxRef hg ho ht hv hob h0 h1 r
theorem At.lVp (t d : Nat) (x : Operand) (p : Bool) (es : Nat) (xs : List V) (j off : Nat) (b : Bool) (m : Nat) (y v : V) (hy : xs[j]? = some y)
    (r : At P N ops (k + 1) (σ.puts [.t d v]) (fun t s => K (⟨(gpOf ops σ (opAt ops k)).getD [] ++ opw x (.vp p es xs j off), [.t d v]⟩ :: t) s)) (hg : goes ops σ k = true := by kernel_rfl) (ho : opd (opAt ops k) = (.load t x, some d) := by kernel_rfl) (ht : ldT P t N.n d = some (b, m) := by kernel_rfl) (hx : σ.ev x = .vp p es xs j off := by kernel_rfl) (hv : loadV b m off (cl y) = some v := by kernel_rfl) : At P N ops k σ K := At.ldVp y v hg ho ht hx hy hv r
theorem At.lEl (t d : Nat) (x : Operand) (i e es : Nat) (xs : List V) (j off : Nat) (b : Bool) (m : Nat) (y v : V) (hy : xs[j]? = some y)
    (r : At P N ops (k + 1) (σ.puts [.t d v]) (fun t s => K (⟨(gpOf ops σ (opAt ops k)).getD [] ++ (opw x (.ptr i j off) ++ [.o i (.arr e es xs)]), [.t d v]⟩ :: t) s)) (hg : goes ops σ k = true := by kernel_rfl) (ho : opd (opAt ops k) = (.load t x, some d) := by kernel_rfl) (ht : ldT P t N.n d = some (b, m) := by kernel_rfl) (hx : σ.ev x = .ptr i j off := by kernel_rfl) (hob : σ.ob i = .arr e es xs := by kernel_rfl) (hv : (loadV b m off (cl y), (cl y).all plain) = (some v, true) := by kernel_rfl) : At P N ops k σ K := At.ldEl y v hg ho ht hx hob hy hv r
theorem At.sEl (t i e es j off : Nat) (x y : Operand) (xs xs' ys : List V) (v q q' : V) (hq : xs[j]? = some q) (hxs : xs' = xs.set j q')
    (r : At P N ops (k + 1) (σ.puts [.o i (.arr e es xs')]) (fun t s => K (⟨(gpOf ops σ (opAt ops k)).getD [] ++ (opw x (.ptr i j off) ++ opw y v ++ [.o i (.arr e es xs)]), [.o i (.arr e es xs')]⟩ :: t) s)) (hg : goes ops σ k = true := by kernel_rfl) (ho : opd (opAt ops k) = (.store t x y, none) := by kernel_rfl) (hx : [σ.ev x, σ.ev y] = [.ptr i j off, v] := by kernel_rfl) (hob : σ.ob i = .arr e es xs := by kernel_rfl) (hc : (szOf P t, cellsV v) = (some ys.length, some ys) := by kernel_rfl)
    (hq' : (putEl es off ys q, ys.all gV && (((cl q).drop off).take ys.length).all plain) = (some q', true) := by kernel_rfl) : At P N ops k σ K := At.stEl q q' hg ho hx hob hc hq hq' hxs r
theorem At.c {f : Nat} {As : List V} {T T' : List Ob} {R : V} (hs : FnSpec P f As T R T') (hcall : ∀ args w, (callFunc f args).run P w = .ok (.enter f args) w) (q : Bool) (L M : List (Nat × Nat)) (ro : List (Nat × Nat × List V)) (hro : RoOk σ.ob L ro)
    (r : At P N ops (k + 1) (σ.puts (backW q T' (L ++ M) (L ++ M) ++ dstW (opAt ops k).dst (R.bk q (L ++ M)))) (fun t s => K (⟨(gpOf ops σ (opAt ops k)).getD [] ++ (argsW (argsAt ops k) (evs σ (argsAt ops k)) ++ obW σ.ob (L.map Prod.fst) ++ obW σ.ob (ro.map Prod.fst) ++ freeW M), backW q T' (L ++ M) (L ++ M) ++ dstW (opAt ops k).dst (R.bk q (L ++ M))⟩ :: t) s)) (hg : goes ops σ k = true := by kernel_rfl) (ho : (callOf (opAt ops k)).map Prod.fst = some f := by kernel_rfl)
    (hA : viewL L ro (evs σ (argsAt ops k)) = As := by kernel_rfl) (hT : (L.map fun p => (σ.ob p.1).ren (hOf L)) = T := by kernel_rfl)
    (hL : ((match (opAt ops k).dst with
      | some d => decide (d < N.n)
      | none => true) && (okL (L ++ M) && (L.map Prod.snd == List.range T.length) && L.all (fun p => live (σ.ob p.1)) && (!q || ro.isEmpty)) && M.all (fun p => isFree (σ.ob p.1))) = true := by kernel_rfl) : At P N ops k σ K := At.call hs hcall q L M ro hg ho hA hT hL hro r
theorem KF.m {m : Nat} {rs : List ResultVar} {R : V} {T' : List Ob} {e : Exit} (L : List (Nat × Nat)) (vs : List V) (he : e = .normal ∨ e = .ret := by first | exact .inr rfl | exact .inl rfl) (h1 : (okL L && fixes m L) = true := by kernel_rfl) (h2 : resV P σ rs = some vs := by kernel_rfl) (h3 : R = (resOf vs).ren (hOf L) := by kernel_rfl) (h4 : L.map Prod.snd = List.range T'.length := by kernel_rfl) (h5 : T' = L.map fun p => (σ.ob p.1).ren (hOf L) := by kernel_rfl) : KF P m rs R T' e σ := KF.mk he L vs h1 h2 h3 h4 h5
theorem Sub.o (L : List (Nat × Nat)) (mask : List Bool) {tl : List V} {ol : List (Nat × Ob)} (hL : (okL L && fixes N.m L) = true := by kernel_rfl) (ht : tl = keepT σ (hOf L) 0 mask := by kernel_rfl) (ho : ol = keepO σ (hOf L) L := by kernel_rfl) : Sub N σ (Go.Sy.mk tl ol) := Sub.of L mask tl ol hL ht ho
end
section
variable {P : Program} {N : Cx} {σ : Sg} {K : Exit → Sg → Prop}
theorem AW.cD {c : Operand} {x y : Code} (p : Prop) [Decidable p] (h1 : p → AW P N x σ K) (h2 : ¬ p → AW P N y σ K) (hc : σ.ev c = .bool (decide p) := by kernel_rfl) : AW P N (.cond c x y) σ K :=
  AW.cond _ hc (fun h => h1 (of_decide_eq_true h)) (fun h => h2 (of_decide_eq_false h))
theorem AW.cE {α : Type} [BEq α] [LawfulBEq α] {c : Operand} {x y : Code} (a b : α) (h1 : a = b → AW P N x σ K) (h2 : ¬ a = b → AW P N y σ K) (hc : σ.ev c = .bool (a == b) := by kernel_rfl) : AW P N (.cond c x y) σ K :=
  AW.cond _ hc (fun h => h1 (eq_of_beq h)) (fun h => h2 (ne_of_beq_false h))
theorem AW.cU {α : Type} [BEq α] [LawfulBEq α] {c : Operand} {x y : Code} (a b : α) (h1 : ¬ a = b → AW P N x σ K) (h2 : a = b → AW P N y σ K) (hc : σ.ev c = .bool (a != b) := by kernel_rfl) : AW P N (.cond c x y) σ K :=
  AW.cond _ hc (fun h => h1 (bne_iff_ne.1 h)) (fun h => h2 (by simpa using h))
theorem AW.cB {c : Operand} {x y : Code} (b : Bool) (h1 : b = true → AW P N x σ K) (h2 : b = false → AW P N y σ K) (hc : σ.ev c = .bool b := by kernel_rfl) : AW P N (.cond c x y) σ K := AW.cond _ hc h1 h2
theorem AW.cNB {c : Operand} {x y : Code} (b : Bool) (h1 : b = false → AW P N x σ K) (h2 : b = true → AW P N y σ K) (hc : σ.ev c = .bool (!b) := by kernel_rfl) : AW P N (.cond c x y) σ K := AW.cond _ hc (fun h => h1 (by simpa using h)) (fun h => h2 (by simpa using h))
theorem AW.cNE {α : Type} [BEq α] [LawfulBEq α] {c : Operand} {x y : Code} (a b : α) (h1 : ¬ a = b → AW P N x σ K) (h2 : a = b → AW P N y σ K) (hc : σ.ev c = .bool (!(a == b)) := by kernel_rfl) : AW P N (.cond c x y) σ K := AW.cond _ hc (fun h => h1 (by simpa using h)) (fun h => h2 (by simpa using h))
theorem AW.r {c : Code} {id : Nat} {ops : Array Oper} (h : At P N ops 0 σ (fun _ s => thenK (fun s' => AW P N c s' K) K .normal s)) : AW P N (.seq (.region id ops false) c) σ K := AW.seq (AW.region (At.start h))
end
end Go.Sy
end

section
set_option linter.unusedVariables false
set_option linter.unusedSimpArgs false
namespace Go.Sy
structure Cur where
  data : List UInt8
  pos : Int
  seed : Int
section
variable {P : Program} {N : Cx}
def LW (P : Program) (c : Code) (Q : Exit → Act → World → Prop) (a : Act) (w : World) : Prop :=
  ∀ b k cs, ∃ e a' w', Q e a' w' ∧ Arrives P (lone (b.at a (.code c :: .inLoop c :: k)) cs w) b k cs e a' w'
theorem LW.round {c : Code} {Q : Exit → Act → World → Prop} {a : Act} {w : World} (h : c.wp P (Exit.then (LW P c Q) Q) a w) : LW P c Q a w := by
  intro b k cs
  obtain ⟨e, a₁, w₁, hq, harr⟩ := h b (.inLoop c :: k) cs
  cases e with
  | normal =>
    obtain ⟨e₂, a₂, w₂, hq₂, harr₂⟩ := hq b k cs
    exact ⟨e₂, a₂, w₂, hq₂, .of_steps (Steps.trans harr (.one step_inLoop)) harr₂⟩
  | exit id => exact ⟨_, a₁, w₁, hq, .pass (x := .inLoop c) rfl (fun _ _ => .inl (by simp)) harr⟩
  | goto l => exact ⟨_, a₁, w₁, hq, .pass (x := .inLoop c) rfl (fun _ _ => .inl (by simp)) harr⟩
  | ret => exact ⟨_, a₁, w₁, hq, .pass (x := .inLoop c) rfl (fun _ _ => .inl (by simp)) harr⟩
  | panic ch => exact ⟨_, a₁, w₁, hq, .pass (x := .inLoop c) rfl (fun _ _ => .inl (by simp)) harr⟩
  | outgrown => exact ⟨_, a₁, w₁, hq, .pass (x := .inLoop c) rfl (fun _ _ => .inl (by simp)) harr⟩
theorem LW.loop {c : Code} {Q : Exit → Act → World → Prop} {a : Act} {w : World} (h : LW P c Q a w) : (Code.loop c).wp P Q a w := by
  intro b k cs
  obtain ⟨e, a', w', hq, harr⟩ := h b k cs
  exact ⟨e, a', w', hq, .of_steps (.one step_loop) harr⟩
def AWL (P : Program) (N : Cx) (c : Code) (σ : Sg) (K : Exit → Sg → Prop) : Prop :=
  ∀ G0 w0 a w, St G0 w0 N σ a w → LW P c (fun e a' w' => ∃ σ', K e σ' ∧ St G0 w0 N σ' a' w') a w
theorem AWL.round {c : Code} {σ : Sg} {K : Exit → Sg → Prop} (h : AW P N c σ (thenK (fun σ' => AWL P N c σ' K) K)) : AWL P N c σ K := by
  intro G0 w0 a w s
  refine LW.round (wp_mono (h G0 w0 a w s) ?_)
  rintro e a' w' ⟨σ', h1, h2⟩
  cases e with
  | normal => exact h1 G0 w0 a' w' h2
  | exit id => exact ⟨σ', h1, h2⟩
  | goto l => exact ⟨σ', h1, h2⟩
  | ret => exact ⟨σ', h1, h2⟩
  | panic ch => exact ⟨σ', h1, h2⟩
  | outgrown => exact ⟨σ', h1, h2⟩
theorem AWL.loop {c : Code} {σ : Sg} {K : Exit → Sg → Prop} (h : AWL P N c σ K) : AW P N (.loop c) σ K := fun G0 w0 a w s => LW.loop (h G0 w0 a w s)
theorem AWL.weak {c : Code} {σ σ' : Sg} {K : Exit → Sg → Prop} (hs : Sub N σ σ') (h : AWL P N c σ' K) : AWL P N c σ K := fun G0 w0 a w s => h G0 w0 a w (hs G0 w0 a w s)
theorem DW.loop {ρ β : Type} {Φ : ρ → Exit → Sg → Prop} {c : Code} {σ : Sg} (S : β → Sg) (R : β → Prop) (m : β → Nat) (x : β) (hx : R x) (h0 : Sub N σ (S x))
    (round : ∀ x, R x → (∀ y, R y → m y < m x → ∃ r, AWL P N c (S y) (Φ r)) → ∃ r, AW P N c (S x) (thenK (fun σ' => AWL P N c σ' (Φ r)) (Φ r))) : ∃ r, AW P N (.loop c) σ (Φ r) := by
  have key : ∀ n x, m x = n → R x → ∃ r, AWL P N c (S x) (Φ r) := by
    intro n
    induction n using Nat.strongRecOn with
    | _ n ih =>
      intro x hn hx
      obtain ⟨r, hr⟩ := round x hx (fun y hy hm => ih (m y) (hn ▸ hm) y rfl hy)
      exact ⟨r, AWL.round hr⟩
  obtain ⟨r, hr⟩ := key _ x rfl hx
  exact ⟨r, AW.weak h0 (AWL.loop hr)⟩
theorem dw {ρ : Type} {Q A B : ρ → Prop} (h : ∀ r, A r → B r) : (∃ r, Q r ∧ A r) → ∃ r, Q r ∧ B r := fun ⟨r, q, a⟩ => ⟨r, q, h r a⟩
theorem DW.loopQ {ρ β : Type} {Q : ρ → Prop} {Φ : ρ → Exit → Sg → Prop} {c : Code} {σ : Sg} (S : β → Sg) (R : β → Prop) (m : β → Nat) (x : β) (hx : R x) (h0 : Sub N σ (S x))
    (round : ∀ x, R x → (∀ y, R y → m y < m x → ∃ r, Q r ∧ AWL P N c (S y) (Φ r)) → ∃ r, Q r ∧ AW P N c (S x) (thenK (fun σ' => AWL P N c σ' (Φ r)) (Φ r))) : ∃ r, Q r ∧ AW P N (.loop c) σ (Φ r) := by
  have key : ∀ n x, m x = n → R x → ∃ r, Q r ∧ AWL P N c (S x) (Φ r) := by
    intro n
    induction n using Nat.strongRecOn with
    | _ n ih =>
      intro x hn hx
      obtain ⟨r, hq, hr⟩ := round x hx (fun y hy hm => ih (m y) (hn ▸ hm) y rfl hy)
      exact ⟨r, hq, AWL.round hr⟩
  obtain ⟨r, hq, hr⟩ := key _ x rfl hx
  exact ⟨r, hq, AW.weak h0 (AWL.loop hr)⟩
end
end Go.Sy
end

section
set_option linter.unusedVariables false
set_option linter.unusedSimpArgs false
namespace Go.Sy
end Go.Sy
end

section
set_option linter.unusedVariables false
set_option linter.unusedSimpArgs false
namespace Go.Sy
end Go.Sy
end

section
set_option linter.unusedVariables false
set_option linter.unusedSimpArgs false
namespace Go.Sy
end Go.Sy
end

section
set_option linter.unusedVariables false
set_option linter.unusedSimpArgs false
namespace Go.Sy
def bitV (op : BinOp) (k : IntKind) (a b : Int) : Int := (bitI op k a b).getD 0
def shV (op : BinOp) (k : IntKind) (a b : Int) : Int := (shI op k a b).getD 0
theorem bitS_xor (k : IntKind) (a b : Int) : bitI .xor k a b = some (bitV .xor k a b) := rfl
theorem shS_shr (k : IntKind) (a b : Int) : shI .shr k a b = some (shV .shr k a b) := rfl
theorem andM (n : Nat) (q a m : Int) (hn : n ≤ 62) (hm : m = 2 ^ n - 1) (hq : q = 2 ^ n) : bitI .and .i64 a m = some (a % q) := by
  subst hm
  subst hq
  have hp : (2 : Nat) ^ n ≤ 2 ^ 62 := Nat.pow_le_pow_right (by decide) hn
  have hp0 : 0 < (2 : Nat) ^ n := Nat.pow_pos (by decide)
  have e0 : ((2 : Int) ^ n - 1) = ((2 ^ n - 1 : Nat) : Int) := by
    rw [Int.ofNat_sub hp0]; simp
  have e1 : (BitVec.ofInt 64 ((2 : Int) ^ n - 1)).toNat = 2 ^ n - 1 := by
    rw [e0, BitVec.ofInt_natCast, BitVec.toNat_ofNat, Nat.mod_eq_of_lt]
    omega
  have e : ((BitVec.ofInt 64 a &&& BitVec.ofInt 64 ((2 : Int) ^ n - 1)).toNat : Int) = a % 2 ^ n := by
    rw [BitVec.toNat_and, e1, Nat.and_two_pow_sub_one_eq_mod, BitVec.toNat_ofInt]
    have h1 : (0 : Int) ≤ a % (2 ^ 64 : Nat) := Int.emod_nonneg _ (by decide)
    rw [Int.natCast_emod, Int.toNat_of_nonneg h1]
    have : ((2 ^ 64 : Nat) : Int) = ((2 ^ n : Nat) : Int) * ((2 ^ (64 - n) : Nat) : Int) := by
      rw [← Int.natCast_mul, ← Nat.pow_add, show n + (64 - n) = 64 by omega]
    rw [Int.emod_emod_of_dvd _ ⟨_, this⟩]
    simp
  have e2 : bitI .and .i64 a ((2 : Int) ^ n - 1) = some (IntKind.i64.wrap ((BitVec.ofInt 64 a &&& BitVec.ofInt 64 ((2 : Int) ^ n - 1)).toNat : Int)) := rfl
  rw [e2, e]
  have h3 : (0 : Int) ≤ a % 2 ^ n := Int.emod_nonneg _ (by omega)
  have h4 : a % 2 ^ n < 2 ^ n := Int.emod_lt_of_pos _ (by omega)
  have h5 : ((2 : Int) ^ n) ≤ 2 ^ 62 := by
    have := Int.ofNat_le.2 hp
    simpa using this
  congr 1
  generalize a % 2 ^ n = z at h3 h4
  generalize (2 : Int) ^ n = w at h4 h5
  simp [IntKind.wrap, IntKind.bits, IntKind.signed]
  omega
end Go.Sy
end

section
set_option linter.unusedVariables false
set_option linter.unusedSimpArgs false
namespace Go.Sy
def NodeIn (n : Int) (r : Raft) : Prop := raftOk r = true ∧ r.of_ = n
theorem NodesIn.set {n : Int} {l : List Raft} (h : ∀ r ∈ l, NodeIn n r) (i : Nat) {q : Raft} (hq : NodeIn n q) : ∀ r ∈ l.set i q, NodeIn n r := fun r hr => by
  rcases List.mem_or_eq_of_mem_set hr with hr | rfl
  · exact h r hr
  · exact hq
end Go.Sy
end

section
set_option linter.unusedVariables false
set_option linter.unusedSimpArgs false
namespace Go.Sy
theorem rd_u8 {H : Type} {enc : TypeId × Value → H} {P : Program} {W : World} {t : TypeId} (ht : P.underlying t = some (.int .u8)) : RdV enc P W t 1 (fun b : UInt8 => [encU8 b]) (fun _ => True) := by
  intro fuel cs x h
  obtain ⟨n, hK, hl, hw⟩ := rd_int (enc := enc) (W := W) ht fuel cs x h
  have hb : 0 ≤ n ∧ n ≤ 255 := by
    simp only [Lit.wf, Bool.and_eq_true, decide_eq_true_eq] at hw
    simp [IntKind.min, IntKind.max, IntKind.bits, IntKind.signed] at hw
    omega
  refine ⟨UInt8.ofNat n.toNat, ?_, hl, trivial⟩
  have e : encU8 (UInt8.ofNat n.toNat) = .int .u8 n := by
    unfold encU8
    congr 1
    rw [UInt8.toNat_ofNat']
    omega
  simpa only [e] using hK
end Go.Sy
end

section
set_option linter.unusedVariables false
set_option linter.unusedSimpArgs false
namespace Go.Sy
theorem dv {ρ : Type} {Q A B : ρ → Prop} (h : ∀ {r}, A r → B r) : (∃ r, Q r ∧ A r) → ∃ r, Q r ∧ B r := fun ⟨r, q, a⟩ => ⟨r, q, h a⟩
theorem rf {N : Cx} {σ : Sg} {K : Sg → Prop} (h : K σ) : ∃ s1, Sub N σ s1 ∧ K s1 := ⟨σ, Sub.refl N σ, h⟩
theorem KF.n {P : Program} {σ : Sg} {m : Nat} {rs : List ResultVar} {R : V} {T' : List Ob} {e : Exit} (L : List (Nat × Nat)) (he : e = .normal ∨ e = .ret := by first | exact .inr rfl | exact .inl rfl) (h1 : (okL L && fixes m L && (resV P σ rs).isSome) = true := by kernel_rfl) (h3 : R = (resOf ((resV P σ rs).getD [])).ren (hOf L) := by kernel_rfl) (h4 : L.map Prod.snd = List.range T'.length := by kernel_rfl) (h5 : T' = L.map fun p => (σ.ob p.1).ren (hOf L) := by kernel_rfl) : KF P m rs R T' e σ := by
  have h1' := (Bool.and_eq_true _ _).mp h1
  have h2 : resV P σ rs = some ((resV P σ rs).getD []) := by
    obtain ⟨x, hx⟩ := Option.isSome_iff_exists.1 h1'.2
    rw [hx]; rfl
  exact KF.mk he L _ h1'.1 h2 h3 h4 h5
theorem gE {α : Type} (l : List α) (i : Nat) (h : i < l.length) : ∃ e, l[i]? = some e := ⟨_, List.getElem?_eq_getElem h⟩
section
variable {e : Exit} {σ : Sg} {α β γ δ : Type}
theorem k1 (K : α → Exit → Sg → Prop) {a a' : α} (h : a = a') (r : K a e σ) : K a' e σ := h ▸ r
theorem k2 (K : α → β → Exit → Sg → Prop) {a a' : α} {b b' : β} (h : a = a') (h2 : b = b') (r : K a b e σ) : K a' b' e σ := h ▸ h2 ▸ r
theorem k3 (K : α → β → γ → Exit → Sg → Prop) {a a' : α} {b b' : β} {c c' : γ} (h : a = a') (h2 : b = b') (h3 : c = c') (r : K a b c e σ) : K a' b' c' e σ := h ▸ h2 ▸ h3 ▸ r
end
section
variable {P : Program} {N : Cx} {ops : Array Oper} {k : Nat} {σ : Sg}
theorem At.z {K : List Tr → Sg → Prop} (m : Nat) (r : K (((autoS P N.n ops k m σ).getD ([], σ)).1 ++ []) ((autoS P N.n ops k m σ).getD ([], σ)).2) (h : (autoS P N.n ops k m σ).isSome = true := by kernel_rfl) (hk : ops.size = k + m := by rfl) : At P N ops k σ K :=
  At.a m (At.done hk r) h
theorem At.zD {K : List Tr → Sg → Prop} {A : List Tr → Bool} (m : Nat) (r : K (((autoS P N.n ops k m σ).getD ([], σ)).1 ++ []) ((autoS P N.n ops k m σ).getD ([], σ)).2) (h : (autoS P N.n ops k m σ).isSome = true := by kernel_rfl) (hk : ops.size = k + m := by rfl) (hc : A (((autoS P N.n ops k m σ).getD ([], σ)).1 ++ []) = true := by kernel_rfl) : At P N ops k σ (fun t s => A t = true ∧ K t s) :=
  At.z m ⟨hc, r⟩ h hk
theorem AW.q {c : Code} {id : Nat} {K : Exit → Sg → Prop} (m : Nat) (r : thenK (fun s' => AW P N c s' K) K .normal ((autoS P N.n ops 0 m σ).getD ([], σ)).2) (h : (autoS P N.n ops 0 m σ).isSome = true := by kernel_rfl) (hk : ops.size = 0 + m := by rfl) : AW P N (.seq (.region id ops false) c) σ K := AW.r (At.z m r h hk)
theorem AW.g {id : Nat} {K : Exit → Sg → Prop} (h : At P N ops 0 σ (fun _ s => K .normal s)) : AW P N (.region id ops false) σ K := AW.region (At.start h)
theorem AW.gD {id : Nat} {K : Exit → Sg → Prop} (hm : P.follows .mixedOrders = true) (h : At P N ops 0 σ (fun trs s => chk ops.toList trs = true ∧ K .normal s)) : AW P N (.region id ops true) σ K := AW.regionD hm (At.start h)
theorem AW.gq {id : Nat} {K : Exit → Sg → Prop} (m : Nat) (r : K .normal ((autoS P N.n ops 0 m σ).getD ([], σ)).2) (h : (autoS P N.n ops 0 m σ).isSome = true := by kernel_rfl) (hk : ops.size = 0 + m := by rfl) : AW P N (.region id ops false) σ K := AW.region (At.start (At.z m r h hk))
def litX (P : Program) (nn : Nat) (o : Oper) (σ : Sg) (q : Nat × Nat) : Option (Nat × Nat × Nat × List Nat × List V) :=
  match o.op, o.dst with
  | .buildSlice t n parts, some d => match slE P t nn d with
    | some (e, es) => match elInfo P e with
      | some (es2, _) => match zeroCs P e with
        | some zs => match Nat.beq es es2 && (decide (0 < n) && decide (n * es ≤ 16777216)) with
          | true => match fillV (fun i => some (i * es, es)) (zerosV n zs) (partsEv σ parts.toList) with
            | some cs => match convL q σ.ob cs with
              | some (cs', kill) => match nodupB kill with
                | true => some (d, e, es, kill, chunk es n cs')
                | false => none
              | none => none
            | none => none
          | false => none
        | none => none
      | none => none
    | none => none
  | _, _ => none
def litP (o : Oper) : List (Nat × Operand) := match o.op with
  | .buildSlice _ _ p => p.toList
  | _ => []
theorem At.lk {K : List Tr → Sg → Prop} (d e es j : Nat) (q : Nat × Nat) (kill : List Nat) (xs : List V) (fl : List (Nat × Nat × List V)) (hfs : ∀ p ∈ fl, ∀ x ∈ p.2.2, (cl x).all gS = true)
    (r : At P N ops (k + 1) (σ.puts ((killW kill ++ [.o j (.arr e es xs)]) ++ [.t d (.ref j)])) (fun t s => K (⟨(gpOf ops σ (opAt ops k)).getD [] ++ (partsW (litP (opAt ops k)) (partsEv σ (litP (opAt ops k))) ++ obW σ.ob kill ++ [.o j .free]), (killW kill ++ [.o j (.arr e es xs)]) ++ [.t d (.ref j)]⟩ :: t) s)) (hg : goes ops σ k = true := by kernel_rfl)
    (hx : litX P N.n (opAt ops k) σ q = some (d, e, es, kill, xs) := by kernel_rfl) (hj : (notIn j kill, σ.ob j) = (true, .free) := by kernel_rfl) (hfl : kill.map σ.ob = fl.map (fun p => Ob.arr p.1 p.2.1 p.2.2) := by kernel_rfl) : At P N ops k σ K := by
  simp only [Prod.mk.injEq] at hj
  unfold litX at hx
  split at hx
  · rename_i t n parts d' hop hdst
    split at hx
    · rename_i e1 es1 hsl
      split at hx
      · rename_i es2 by_ hel
        split at hx
        · rename_i zs hz
          split at hx
          · rename_i hb
            split at hx
            · rename_i cs hfill
              split at hx
              · rename_i cs' kill' hconv
                split at hx
                · rename_i hnd
                  simp only [Option.some.injEq, Prod.mk.injEq] at hx
                  obtain ⟨rfl, rfl, rfl, rfl, rfl⟩ := hx
                  simp only [Bool.and_eq_true] at hb
                  obtain rfl := Nat.eq_of_beq_eq_true hb.1
                  have ho : opd (opAt ops k) = (.buildSlice t n parts, some d') := by unfold opd; rw [hop, hdst]
                  have hp : litP (opAt ops k) = parts.toList := by unfold litP; rw [hop]
                  rw [hp] at r
                  exact At.litK q j kill' cs cs' zs _ fl hg ho (by rw [hsl, hel, hz, hb.2.1, hb.2.2]; rfl) (by rw [hfill, hconv, hj.1, hnd]; rfl) hfl hfs hj.2 r
                · cases hx
              · cases hx
            · cases hx
          · cases hx
        · cases hx
      · cases hx
    · cases hx
  · cases hx
def appX (P : Program) (nn : Nat) (o : Oper) (σ : Sg) : Option (Nat × Nat × Nat × Nat × V × V) :=
  match o.op, o.dst with
  | .call c, some d => match c.callee, c.args, c.argTypes with
    | .builtin .append, ⟨[s, x]⟩, ⟨[t, t2]⟩ => match Nat.beq t t2 with
      | true => match slE P t nn d with
        | some (e, es) => match elInfo P e with
          | some (es2, by_) => match Nat.beq es es2 && Nat.blt 0 by_ with
            | true => some (d, e, es, by_, σ.ev s, σ.ev x)
            | false => none
          | none => none
        | none => none
      | false => none
    | _, _, _ => none
  | _, _ => none
def appP (o : Oper) : Operand × Operand := match o.op with
  | .call c => match c.args with
    | ⟨[s, x]⟩ => (s, x)
    | _ => (.tmp 0, .tmp 0)
  | _ => (.tmp 0, .tmp 0)
theorem At.app {K : List Tr → Sg → Prop} {α : Type} (d e es by_ j : Nat) (S T : V) (k1 k2 : List Nat) (f : α → V) (A B : List α) (hb : (A.length + B.length) * by_ ≤ 140737488355328) (hf : FirstIs σ.ob S e es (A.map f) k1) (hs : SecondIs σ.ob T e es (B.map f) k2)
    (r : At P N ops (k + 1) (σ.puts ((killW (k1 ++ k2) ++ [.o j (.arr e es ((A ++ B).map f))]) ++ [.t d (.ref j)])) (fun t s' => K (⟨(gpOf ops σ (opAt ops k)).getD [] ++ (opw (appP (opAt ops k)).1 S ++ opw (appP (opAt ops k)).2 T ++ obW σ.ob (obK S) ++ obW σ.ob (obK T) ++ [.o j .free]), (killW (k1 ++ k2) ++ [.o j (.arr e es ((A ++ B).map f))]) ++ [.t d (.ref j)]⟩ :: t) s')) (hg : goes ops σ k = true := by kernel_rfl)
    (hx : appX P N.n (opAt ops k) σ = some (d, e, es, by_, S, T) := by kernel_rfl) (hj : (notIn j (k1 ++ k2) && k1.all (notIn · k2), σ.ob j) = (true, .free) := by kernel_rfl) : At P N ops k σ K := by
  simp only [Prod.mk.injEq] at hj
  unfold appX at hx
  split at hx
  · rename_i c d' hop hdst
    split at hx
    · rename_i s x t t2 h1 h2 h3
      split at hx
      · rename_i htt
        obtain rfl := Nat.eq_of_beq_eq_true htt
        split at hx
        · rename_i e1 es1 hsl
          split at hx
          · rename_i es2 by1 hel
            split at hx
            · rename_i hb2
              simp only [Option.some.injEq, Prod.mk.injEq] at hx
              obtain ⟨rfl, rfl, rfl, rfl, rfl, rfl⟩ := hx
              simp only [Bool.and_eq_true] at hb2
              obtain rfl := Nat.eq_of_beq_eq_true hb2.1
              have hby : 0 < by1 := by simpa using hb2.2
              have ho : opd (opAt ops k) = (.call { callee := .builtin .append, args := #[s, x], argTypes := #[t, t] }, some d') := by
                unfold opd
                rw [hop, hdst]
                congr 2
                cases c
                simp only at h1 h2 h3
                subst h1 h2 h3
                rfl
              have hp : appP (opAt ops k) = (s, x) := by unfold appP; rw [hop]; simp only [h2]
              rw [hp] at r
              refine At.append j k1 k2 _ hg ho (by rw [hsl, hel]) rfl hf hs hj.1 hj.2 (by rw [← List.map_append]) (by rw [List.length_map, List.length_map]; exact hb) ?_ r
              rw [List.length_map, List.length_map]
              have := Nat.le_mul_of_pos_right (A.length + B.length) hby
              omega
            · cases hx
          · cases hx
        · cases hx
      · cases hx
    · cases hx
  · cases hx
theorem At.apK {K : List Tr → Sg → Prop} {α : Type} (d e es by_ j i1 i2 : Nat) (f : α → V) (A B : List α) (hb : (A.length + B.length) * by_ ≤ 140737488355328)
    (r : At P N ops (k + 1) (σ.puts ((killW ([i1] ++ [i2]) ++ [.o j (.arr e es ((A ++ B).map f))]) ++ [.t d (.ref j)])) (fun t s' => K (⟨(gpOf ops σ (opAt ops k)).getD [] ++ (opw (appP (opAt ops k)).1 (.ref i1) ++ opw (appP (opAt ops k)).2 (.ref i2) ++ obW σ.ob (obK (.ref i1)) ++ obW σ.ob (obK (.ref i2)) ++ [.o j .free]), (killW ([i1] ++ [i2]) ++ [.o j (.arr e es ((A ++ B).map f))]) ++ [.t d (.ref j)]⟩ :: t) s')) (hg : goes ops σ k = true := by kernel_rfl)
    (h1 : σ.ob i1 = .arr e es (A.map f) := by kernel_rfl) (h2 : σ.ob i2 = .arr e es (B.map f) := by kernel_rfl) (hx : appX P N.n (opAt ops k) σ = some (d, e, es, by_, .ref i1, .ref i2) := by kernel_rfl) (hj : (notIn j ([i1] ++ [i2]) && [i1].all (notIn · [i2]), σ.ob j) = (true, .free) := by kernel_rfl) : At P N ops k σ K :=
  At.app d e es by_ j (.ref i1) (.ref i2) [i1] [i2] f A B hb ⟨h1, rfl⟩ ⟨h2, .inr rfl⟩ r hg hx hj
theorem At.ll {K : List Tr → Sg → Prop} (d e es j : Nat) (q : Nat × Nat) (xs : List V)
    (r : At P N ops (k + 1) (σ.puts ((killW [] ++ [.o j (.arr e es xs)]) ++ [.t d (.ref j)])) (fun t s => K (⟨(gpOf ops σ (opAt ops k)).getD [] ++ (partsW (litP (opAt ops k)) (partsEv σ (litP (opAt ops k))) ++ obW σ.ob [] ++ [.o j .free]), (killW [] ++ [.o j (.arr e es xs)]) ++ [.t d (.ref j)]⟩ :: t) s)) (hg : goes ops σ k = true := by kernel_rfl)
    (hx : litX P N.n (opAt ops k) σ q = some (d, e, es, [], xs) := by kernel_rfl) (hj : (notIn j [], σ.ob j) = (true, .free) := by kernel_rfl) : At P N ops k σ K :=
  At.lk d e es j q [] xs [] (fun p hp => by cases hp) r hg hx hj rfl
end
end Go.Sy
end

section
set_option linter.unusedVariables false
set_option linter.unusedSimpArgs false
namespace Go.Sy
end Go.Sy
end

section
set_option linter.unusedVariables false
set_option linter.unusedSimpArgs false
namespace Go.Sy
end Go.Sy
end

section
set_option linter.unusedVariables false
set_option linter.unusedSimpArgs false
namespace Go.Sy
section
variable {P : Program}
open Go.Lib in
variable {N : Cx} {ops : Array Oper}
variable {k : Nat} {σ : Sg} {K : List Tr → Sg → Prop}
end
end Go.Sy
end

section
set_option linter.unusedVariables false
set_option linter.unusedSimpArgs false
namespace Go.Sy
def getGo : Nat → Nat → Int → List UInt8 → Option (Int × Nat)
  | 0, _, _, _ => none
  | _ + 1, _, _, [] => none
  | n + 1, k, x, d :: l => if d.toNat ≤ 127 then (if 0 < k ∧ d.toNat = 0 then none else some (x + (d.toNat : Int) % 128 * 128 ^ k, k + 1)) else getGo n (k + 1) (x + (d.toNat : Int) % 128 * 128 ^ k) l
def getO (b : List UInt8) (at_ : Int) : Option (Int × Nat) := if at_ < 0 then none else getGo 9 0 0 (b.drop at_.toNat)
def getN (b : List UInt8) (at_ : Int) : Int × Int × Bool :=
  match getO b at_ with
  | none => (0, 0, false)
  | some (x, n) => (x, at_ + n, true)
theorem pow128 (k : Nat) : (0 : Int) < 128 ^ k := Int.pow_pos (by decide)
def digV (d : UInt8) (k : Nat) : Int := (d.toNat : Int) % 128 * 128 ^ k
theorem pow128_le {k : Nat} (hk : k ≤ 8) : (128 : Int) ^ k ≤ 72057594037927936 := by
  have h4 : (128 : Int) ^ (8 - k) * 128 ^ k = 128 ^ 8 := by rw [← Int.pow_add]; congr 1; omega
  have h5 := Int.mul_le_mul_of_nonneg_right (show (1 : Int) ≤ 128 ^ (8 - k) by have := pow128 (8 - k); omega) (show (0 : Int) ≤ 128 ^ k by have := pow128 k; omega)
  omega
theorem digV_bd (d : UInt8) {k : Nat} {x : Int} (hk : k ≤ 8) (h0 : 0 ≤ x) (h1 : x < 128 ^ k) : 0 ≤ digV d k ∧ x + digV d k < 128 ^ (k + 1) ∧ x + digV d k ≤ 9223372036854775807 := by
  have hd : (0 : Int) ≤ (d.toNat : Int) % 128 ∧ (d.toNat : Int) % 128 ≤ 127 := by omega
  have hp := pow128 k
  have h2 : digV d k ≤ 127 * 128 ^ k := Int.mul_le_mul_of_nonneg_right hd.2 (by omega)
  have h3 : 0 ≤ digV d k := Int.mul_nonneg hd.1 (by omega)
  have h4 := pow128_le hk
  rw [Int.pow_succ]
  omega
structure GR (b : List UInt8) (at_ : Int) (k : Nat) (x : Int) : Prop where
  hk : k ≤ 9
  h0 : 0 ≤ x
  h1 : x < 128 ^ k
  e : getO b at_ = getGo (9 - k) k x (b.drop (at_.toNat + k))
theorem GR.start {b : List UInt8} {at_ : Int} (ha : 0 ≤ at_) : GR b at_ 0 0 := ⟨by omega, by omega, by omega, by unfold getO; rw [if_neg (by omega)]; rfl⟩
theorem GR.bd {b : List UInt8} {at_ : Int} {k : Nat} {x : Int} (h : GR b at_ k x) (d : UInt8) (hk : k < 9) : 0 ≤ digV d k ∧ x + digV d k < 128 ^ (k + 1) ∧ x + digV d k ≤ 9223372036854775807 := digV_bd d (by omega) h.h0 h.h1
theorem GR.get {b : List UInt8} {at_ : Int} {k : Nat} {x : Int} (h : GR b at_ k x) {d : UInt8} (ha : 0 ≤ at_) (hk : k < 9) (hb : b[(at_ + (k : Int)).toNat]? = some d) : getO b at_ = if d.toNat ≤ 127 then (if 0 < k ∧ d.toNat = 0 then none else some (x + digV d k, k + 1)) else getGo (9 - (k + 1)) (k + 1) (x + digV d k) (b.drop (at_.toNat + (k + 1))) := by
  rw [h.e]
  have e1 : b.drop (at_.toNat + k) = d :: b.drop (at_.toNat + (k + 1)) := by
    rw [show (at_ + (k : Int)).toNat = at_.toNat + k by omega] at hb
    exact dropCons hb
  rw [e1, show 9 - k = (9 - (k + 1)) + 1 by omega]
  rfl
theorem GR.step {b : List UInt8} {at_ : Int} {k : Nat} {x : Int} (h : GR b at_ k x) {d : UInt8} (ha : 0 ≤ at_) (hk : k < 9) (hb : b[(at_ + (k : Int)).toNat]? = some d) (hd : 127 < d.toNat) : GR b at_ (k + 1) (x + digV d k) :=
  have hbd := h.bd d hk
  ⟨by omega, by have := h.h0; omega, hbd.2.1, by rw [h.get ha hk hb, if_neg (by omega)]⟩
theorem getN_none {b : List UInt8} {at_ : Int} (h : getO b at_ = none) : getN b at_ = (0, 0, false) := by unfold getN; rw [h]
theorem GR.over {b : List UInt8} {at_ : Int} {k : Nat} {x : Int} (h : GR b at_ k x) (ha : 0 ≤ at_) (hk : (b.length : Int) ≤ at_ + k) : getN b at_ = (0, 0, false) := by
  refine getN_none ?_
  rw [h.e, List.drop_of_length_le (by omega)]
  cases 9 - k <;> rfl
theorem GR.zero {b : List UInt8} {at_ : Int} {k : Nat} {x : Int} (h : GR b at_ k x) {d : UInt8} (ha : 0 ≤ at_) (hk : k < 9) (hb : b[(at_ + (k : Int)).toNat]? = some d) (h0 : 0 < k) (hd : d.toNat = 0) : getN b at_ = (0, 0, false) :=
  getN_none (by rw [h.get ha hk hb, if_pos (by omega), if_pos ⟨h0, hd⟩])
end Go.Sy
end

section
set_option linter.unusedVariables false
set_option linter.unusedSimpArgs false
namespace Go.Sy
def W32 (x : Int) : Prop := 0 ≤ x ∧ x < 4294967296
def atI (l : List Int) (i : Nat) : Int := (l[i]?).getD 0
structure V8 where
  a : Int
  b : Int
  c : Int
  d : Int
  e : Int
  f : Int
  g : Int
  h : Int
def V8.all (v : V8) : Prop := W32 v.a ∧ W32 v.b ∧ W32 v.c ∧ W32 v.d ∧ W32 v.e ∧ W32 v.f ∧ W32 v.g ∧ W32 v.h
def V8.of (l : List Int) : V8 := ⟨atI l 0, atI l 1, atI l 2, atI l 3, atI l 4, atI l 5, atI l 6, atI l 7⟩
end Go.Sy
end

section
set_option linter.unusedVariables false
set_option linter.unusedSimpArgs false
namespace Go.Sy
end Go.Sy
end

section
set_option linter.unusedVariables false
set_option linter.unusedSimpArgs false
namespace Go.Sy
end Go.Sy
end

section
set_option linter.unusedVariables false
set_option linter.unusedSimpArgs false
namespace Go.Sy
end Go.Sy
namespace Go.Sy
end Go.Sy
namespace Go.Sy
end Go.Sy
end

section
set_option linter.unusedVariables false
set_option linter.unusedSimpArgs false
namespace Go.Sy
open Go.RowKit
theorem Hold.below0 {G : Gh} {w w' : World} (H : Hold G w (obs [])) (h : w.heap.size ≤ w'.heap.size) : Hold G w' (obs []) where
  ij := H.ij
  lt b hb := Nat.lt_of_lt_of_le (H.lt b hb) h
  own i := by
    have := H.own i
    simpa [obs, Gh.Own, OwnOb] using this
  flt i b hb := Nat.lt_of_lt_of_le (H.flt i b hb) h
  fj := H.fj
  dis := H.dis
theorem fr_below {G : Gh} {w w' : World} (h : Below w.heap.size w w') : Fr G w G w' :=
  ⟨h.os, h.tape, h.output, h.size, fun b hb _ => h.block b hb, fun _ _ h => h, fun _ h => h, fun _ h => h, fun _ h => .inl h, fun _ h => .inl h, fun i b h => .inl ⟨i, h⟩⟩
theorem FnSpec.pure {P : Program} {f : Nat} {As : List V} {R : V} (v : Value) (hv : ∀ (G : Gh) (w : World), G.Rep w v R)
    (h : ∀ (G : Gh) (w : World) (args : Array Value), Hold G w (obs []) → args.size = As.length → (∀ (k : Nat) (x : V), As[k]? = some x → G.Rep w (args.getD k undef) x) → Calls P f args w fun e w' => e = .returned v ∧ Below w.heap.size w w') : FnSpec P f As [] R [] := by
  intro G w args H hn ha
  refine (h G w args H hn ha).mono ?_
  rintro e w' ⟨rfl, hb⟩
  exact ⟨v, G, rfl, H.below0 hb.size, hv G w', fr_below hb⟩
end Go.Sy
end

section
set_option linter.unusedVariables false
set_option linter.unusedSimpArgs false
namespace Go.Sy
structure Prc where
  size : Int
  digest : ByteArray
  parts : List ByteArray
theorem strOf_data (b : ByteArray) : strOf b.data.toList = b := by cases b; simp [strOf]
theorem data_strOf (l : List UInt8) : (strOf l).data.toList = l := by simp [strOf]
end Go.Sy
namespace Go.Sy
end Go.Sy
end

section
set_option linter.unusedVariables false
set_option linter.unusedSimpArgs false
namespace Go.Sy
theorem extract_strOf {s : ByteArray} {a b : Nat} : s.extract a b = strOf ((s.data.toList.drop a).take (b - a)) := by
  apply ByteArray.ext
  rw [ByteArray.data_extract]
  apply Array.ext'
  rw [Array.toList_extract]
  simp [strOf, List.extract]
end Go.Sy
end

section
set_option linter.unusedVariables false
set_option linter.unusedSimpArgs false
namespace Go.Sy
structure On where
  kind : Int
  day : Int
  week : Int
structure Rul where
  name : Int
  from_ : Int
  to : Int
  month : Int
  on : On
  at_ : Int
  save : Int
structure Zon where
  name : Int
  off : Int
  rule : Int
structure Lnk where
  name : Int
  to : Int
structure Srce where
  rules : List Rul
  zones : List Zon
  links : List Lnk
def encRul (r : Rul) : V := .agg [.int .i64 r.name, .int .i64 r.from_, .int .i64 r.to, .int .i64 r.month, .int .i64 r.on.kind, .int .i64 r.on.day, .int .i64 r.on.week, .int .i64 r.at_, .int .i64 r.save]
def encZon (z : Zon) : V := .agg [.int .i64 z.name, .int .i64 z.off, .int .i64 z.rule]
def encLnk (l : Lnk) : V := .agg [.int .i64 l.name, .int .i64 l.to]
theorem allP_encRul (l : List Rul) : AllP (l.map encRul) := by
  intro x hx; obtain ⟨y, _, rfl⟩ := List.mem_map.1 hx; rfl
theorem allP_encZon (l : List Zon) : AllP (l.map encZon) := by
  intro x hx; obtain ⟨y, _, rfl⟩ := List.mem_map.1 hx; rfl
theorem allP_encLnk (l : List Lnk) : AllP (l.map encLnk) := by
  intro x hx; obtain ⟨y, _, rfl⟩ := List.mem_map.1 hx; rfl
def Sm (x : Int) : Prop := -100000 ≤ x ∧ x ≤ 100000
def SmR (r : Rul) : Prop := Sm r.from_ ∧ Sm r.to ∧ Sm r.month ∧ Sm r.on.day ∧ Sm r.on.week ∧ Sm r.at_ ∧ Sm r.save
def SmS (a b c : Nat) (s : Srce) : Prop := s.rules.length ≤ a ∧ s.zones.length ≤ b ∧ s.links.length ≤ c ∧ (∀ r ∈ s.rules, SmR r) ∧ ∀ z ∈ s.zones, Sm z.off
theorem all_snoc {α : Type} {Q : α → Prop} {l : List α} {x : α} (h : ∀ y ∈ l, Q y) (hx : Q x) : ∀ y ∈ l ++ [x], Q y := by
  intro y hy
  rw [List.mem_append, List.mem_singleton] at hy
  rcases hy with hy | rfl
  · exact h _ hy
  · exact hx
theorem SmS.rule {a b c : Nat} {rs : List Rul} {zs : List Zon} {ls : List Lnk} (h : SmS a b c ⟨rs, zs, ls⟩) {r : Rul} (hr : SmR r) : SmS (a + 1) b c ⟨rs ++ [r], zs, ls⟩ := by
  obtain ⟨h1, h2, h3, h4, h5⟩ := h
  exact ⟨by simp at h1 ⊢; omega, h2, h3, all_snoc h4 hr, h5⟩
theorem SmS.mono {a b c a' b' c' : Nat} {s : Srce} (h : SmS a b c s) (ha : a ≤ a') (hb : b ≤ b') (hc : c ≤ c') : SmS a' b' c' s := ⟨Nat.le_trans h.1 ha, Nat.le_trans h.2.1 hb, Nat.le_trans h.2.2.1 hc, h.2.2.2⟩
theorem SmS.set {a b c i : Nat} {rs : List Rul} {zs : List Zon} {ls : List Lnk} (h : SmS a b c ⟨rs, zs, ls⟩) {r : Rul} (hr : SmR r) : SmS a b c ⟨rs.set i r, zs, ls⟩ := by
  obtain ⟨h1, h2, h3, h4, h5⟩ := h
  refine ⟨by simpa using h1, h2, h3, fun y hy => ?_, h5⟩
  rcases List.mem_or_eq_of_mem_set hy with hy | rfl
  · exact h4 _ hy
  · exact hr
theorem SmS.none : SmS 0 0 0 ⟨[], [], []⟩ := ⟨Nat.le_refl _, Nat.le_refl _, Nat.le_refl _, fun _ h => (List.not_mem_nil h).elim, fun _ h => (List.not_mem_nil h).elim⟩
theorem say32 (n : Int) (h : -2147483648 ≤ n ∧ n ≤ 2147483647) : V.int .i32 (IntKind.i32.wrap n) = V.int .i32 n := by
  congr 1
  unfold IntKind.wrap
  simp only [show IntKind.i32.bits = 32 from rfl, show IntKind.i32.signed = true from rfl, Bool.true_and, decide_eq_true_eq]
  split <;> omega
end Go.Sy
namespace Go.Sy
theorem SmS.more {b c : Nat} {rs : List Rul} {zs : List Zon} {ls : List Lnk} (h : SmS 20 b c ⟨rs, zs, ls⟩) {r : Rul} (hr : SmR r) (hl : rs.length < 20) : SmS 20 b c ⟨rs ++ [r], zs, ls⟩ := by
  obtain ⟨h1, h2, h3, h4, h5⟩ := h
  exact ⟨by show (rs ++ [r]).length ≤ 20; rw [List.length_append]; simp; omega, h2, h3, all_snoc h4 hr, h5⟩
end Go.Sy
end

section
set_option linter.unusedVariables false
set_option linter.unusedSimpArgs false
namespace Go.Sy
end Go.Sy
end

section
set_option linter.unusedVariables false
set_option linter.unusedSimpArgs false
namespace Go.Sy
open Go.RowKit
def qOf (Q : World → Prop) : Gh → World → Prop := fun G0 w0 => (∀ i b, ¬ G0.F i b) ∧ Q w0
def FnSpecQ (Q : World → Prop) (P : Program) (f : Nat) (As : List V) (R : V) : Prop :=
  ∀ (G : Gh) (w : World) (args : Array Value), Q w → Hold G w (obs []) → args.size = As.length → (∀ (k : Nat) (x : V), As[k]? = some x → G.Rep w (args.getD k undef) x) →
    Calls P f args w (fun e w' => ∃ v G', e = .returned v ∧ Hold G' w' (obs []) ∧ G'.Rep w' v R ∧ Fr G w G' w')
structure Lasts (Q : World → Prop) : Prop where
  here : ∀ w w', Q w → Below w.heap.size w w' → Q w'
theorem Fr.below {G G' : Gh} {w w' : World} (f : Fr G w G' w') (h : ∀ i b, ¬ G.F i b) : Below w.heap.size w w' := ⟨f.os, f.tape, f.output, f.sz, fun k hk => f.blk k hk (fun i => h i k)⟩
section
variable {P : Program} {Q : World → Prop}
theorem FnSpecQ.of {f : Nat} {fn : Func} {c : Code} {As : List V} {R : V} (n : Nat) (hf : P.funcs[f]? = some fn) (hb : fn.body = some c) (hn : fn.ntmps = n) (hl : As.length ≤ n)
    (h : AW P ⟨n, 0, qOf Q⟩ c ⟨lkT As, obs []⟩ (KF P 0 fn.results.toList R [])) : FnSpecQ Q P f As R := by
  intro G w args hQ H hs hr
  refine calls_of_wp hf hb ?_
  have hst : St G w ⟨n, 0, qOf Q⟩ ⟨lkT As, obs []⟩ { tmps := args ++ Array.replicate (fn.ntmps - args.size) undef, defers := [] } w := by
    refine ⟨G, H, fun t => ?_, by simp; omega, rfl, Fr.refl G w, fun i hi => ?_, fun i => (H.free (k := i) rfl).2, hQ⟩
    · have hlk : ∀ (l : List V) (t : Nat), lkT l t = l.getD t .un := by
        intro l
        induction l with
        | nil => intro t; simp [lkT]
        | cons x l ih => intro t; cases t <;> simp [lkT, ih]
      show G.Rep w _ (lkT As t)
      rw [hlk]
      rcases Nat.lt_or_ge t As.length with ht | ht
      · have h1 := List.getElem?_eq_getElem ht
        rw [List.getD_eq_getElem?_getD, h1]
        have h2 := hr t _ h1
        have : (args ++ Array.replicate (fn.ntmps - args.size) undef).getD t undef = args.getD t undef := by
          simp [Array.getD_eq_getD_getElem?, Array.getElem?_append, show t < args.size by omega]
        rw [this]
        exact h2
      · rw [List.getD_eq_getElem?_getD, List.getElem?_eq_none ht]
        exact .g (.un _)
    · have hfree : obs [] i = .free := by
        unfold obs
        rw [List.getD_eq_getElem?_getD, List.getElem?_eq_none hi]
        rfl
      exact (H.free hfree).1
  refine wp_mono (h G w _ w hst) ?_
  rintro e a' w' ⟨σ', ⟨he, L, vs, hL, hv, hR, hL2, hT'⟩, ⟨G', H', ht', h1, h2, h3, h4⟩⟩
  simp only [Bool.and_eq_true, fixes, List.all_eq_true, List.mem_range, beq_iff_eq] at hL
  obtain ⟨v, r1, r2⟩ := run_results H' ht' hv
  have hpost : a'.defers = [] ∧ ∃ v, (results fn a'.tmps).run P w' = .ok v w' ∧ ∃ v' G', Ending.returned v = .returned v' ∧ Hold G' w' (obs []) ∧ G'.Rep w' v' R ∧ Fr G w G' w' := by
    refine ⟨h2, v, r1, v, G'.ren L, rfl, ?_, ?_, h3.ren h4.1 hL.2⟩
    · rw [← obRen_list hL.1 [] hL2 hT']
      exact H'.ren hL.1
    · rw [hR]
      exact Rep.ren (Gh.ren_rho hL.1) r2
  rcases he with rfl | rfl
  · exact hpost
  · exact hpost
end
section
variable {P : Program} {N : Cx} {ops : Array Oper} {K : List Tr → Sg → Prop} {k : Nat} {σ : Sg}
theorem At.callQ {Q : World → Prop} {f : Nat} {As : List V} {R : V} (hl : Lasts Q) (hq : N.q = qOf Q) (hs : FnSpecQ Q P f As R) (hcall : ∀ args w, (callFunc f args).run P w = .ok (.enter f args) w) (q : Bool) (L M : List (Nat × Nat)) (ro : List (Nat × Nat × List V)) (hg : goes ops σ k = true) (ho : (callOf (opAt ops k)).map Prod.fst = some f)
    (hA : viewL L ro (evs σ (argsAt ops k)) = As) (hT : (L.map fun p => (σ.ob p.1).ren (hOf L)) = ([] : List Ob))
    (hL : ((match (opAt ops k).dst with
      | some d => decide (d < N.n)
      | none => true) && (okL (L ++ M) && (L.map Prod.snd == List.range ([] : List Ob).length) && L.all (fun p => live (σ.ob p.1)) && (!q || ro.isEmpty)) && M.all (fun p => isFree (σ.ob p.1))) = true) (hro : RoOk σ.ob L ro)
    (r : At P N ops (k + 1) (σ.puts (backW q [] (L ++ M) (L ++ M) ++ dstW (opAt ops k).dst (R.bk q (L ++ M)))) (fun t s => K (⟨(gpOf ops σ (opAt ops k)).getD [] ++ (argsW (argsAt ops k) (evs σ (argsAt ops k)) ++ obW σ.ob (L.map Prod.fst) ++ obW σ.ob (ro.map Prod.fst) ++ freeW M), backW q [] (L ++ M) (L ++ M) ++ dstW (opAt ops k).dst (R.bk q (L ++ M))⟩ :: t) s)) : At P N ops k σ K :=
  At.callG hcall q L M (fun G0 G w0 w h fr args H => by
    rw [hq] at h
    exact hs (G.lend q L) w args (hl.here w0 w h.2 (fr.below h.1)) H) ro hg ho hA hT hL hro r
end
theorem FnSpecQ.pure {P : Program} {Q : World → Prop} {f : Nat} {As : List V} {R : V} (v : Value) (hv : ∀ (G : Gh) (w : World), G.Rep w v R)
    (h : ∀ (G : Gh) (w : World) (args : Array Value), Q w → args.size = As.length → (∀ (k : Nat) (x : V), As[k]? = some x → G.Rep w (args.getD k undef) x) → Calls P f args w fun e w' => e = .returned v ∧ Below w.heap.size w w') : FnSpecQ Q P f As R := by
  intro G w args hQ H hn ha
  refine (h G w args hQ hn ha).mono ?_
  rintro e w' ⟨rfl, hb⟩
  exact ⟨v, G, rfl, H.below0 hb.size, hv G w', fr_below hb⟩
end Go.Sy
end
