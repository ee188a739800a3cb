/- A small program logic with symbolic states: values, objects, what they say of a world. Plain definitions and theorems over any program. -/
import Derived.Calls
import Derived.Orders
import Derived.Laws.AppendOwn
import Derived.Laws.Rows
import Derived.Laws.Tables
import Derived.KernelRfl
import Derived.Laws.Sem
set_option linter.unusedVariables false
set_option linter.unusedSimpArgs false
namespace Go.Sy

inductive V where
  | un
  | int (k : IntKind) (n : Int)
  | bool (b : Bool)
  | str (s : ByteArray)
  | agg (cs : List V)
  | tup (vs : List V)
  | nil
  | sl (p : Bool) (es : Nat) (xs : List V)
  | own (e es : Nat) (xs : List V)
  | ref (i : Nat)
  | sub (i off len : Nat)
  | ptr (i k off : Nat)
  | vp (p : Bool) (es : Nat) (xs : List V) (k off : Nat)
  | np
  | fn (f : Nat)
inductive Ob where
  | free
  | dead
  | box (t : Nat) (cs : List V)
  | arr (e es : Nat) (xs : List V)
  | hole (e es : Nat) (xs : List V) (j off k : Nat)
  | holes (e es : Nat) (xs : List V) (j : Nat) (hs : List (Nat × Nat))
  | raw (e : Nat) (l : List UInt8)
structure RI where
  g : Option Nat
  cap : Nat
  es : Nat
  len : Nat
def RI.sl (r : RI) (v : Value) : Prop :=
  match r.g with
  | none => v = .slice none 0 0 ∧ r.len = 0
  | some g => v = .slice (some ⟨g, 0, none⟩) r.len r.cap
def RI.sub (r : RI) (off len : Nat) (v : Value) : Prop :=
  off + len ≤ r.len ∧ ∃ A, v = .slice A len (r.cap - off) ∧ (0 < len ∨ off = 0 → A = r.g.map fun g => ⟨g, off * r.es, none⟩)
def cl : V → List V
  | .agg cs => cs
  | x => [x]
def gS : V → Bool
  | .int .. | .bool _ | .str _ | .nil | .np | .fn _ => true
  | _ => false
def gV : V → Bool
  | .int .. | .bool _ | .str _ | .nil | .np | .fn _ => true
  | .sl true _ _ => true
  | _ => false
def gO : V → Bool
  | .own .. => true
  | .un => true
  | x => gV x
section
variable (ρ : Nat → Option RI) (w : World) (I J : Nat → Prop)
inductive RepG : Value → V → Prop
  | un (v : Value) : RepG v .un
  | int (k : IntKind) (n : Int) : RepG (.int k n) (.int k n)
  | bool (b : Bool) : RepG (.bool b) (.bool b)
  | str (s : ByteArray) : RepG (.string s) (.str s)
  | nil : RepG (.slice none 0 0) .nil
  | slE (A : Option Addr) (c : Nat) (p : Bool) (es : Nat) : RepG (.slice A 0 c) (.sl p es [])
  | sl (ad : Addr) (n c : Nat) (p : Bool) (es : Nat) (xs : List V) (u : Nat → Nat → Value) (hn : xs.length = n) (hc : n ≤ c) (hm : n ≤ maxLen) (hp : if p = true then I ad.block else J ad.block)
      (hl : ∀ (k : Nat) (x : V), xs[k]? = some x → (cl x).length = es) (hu : ∀ (k : Nat) (x : V), xs[k]? = some x → ∀ (j : Nat) (y : V), (cl x)[j]? = some y → w.cell? (ad.add (k * es + j)) = some (u k j))
      (ho : ∀ (k : Nat) (x : V), xs[k]? = some x → ∀ (j : Nat) (y : V), (cl x)[j]? = some y → (u k j).oneCell' = true)
      (hq : p = true → ∀ (k : Nat) (x : V), xs[k]? = some x → (cl x).all gS = true)
      (hr : ∀ (k : Nat) (x : V), xs[k]? = some x → ∀ (j : Nat) (y : V), (cl x)[j]? = some y → RepG (u k j) y) : RepG (.slice (some ad) n c) (.sl p es xs)
  | vp (ad : Addr) (p : Bool) (es : Nat) (xs : List V) (k off : Nat) (u : Nat → Nat → Value) (hp : if p = true then I ad.block else J ad.block)
      (hl : ∀ (k : Nat) (x : V), xs[k]? = some x → (cl x).length = es) (hu : ∀ (k : Nat) (x : V), xs[k]? = some x → ∀ (j : Nat) (y : V), (cl x)[j]? = some y → w.cell? (ad.add (k * es + j)) = some (u k j))
      (ho : ∀ (k : Nat) (x : V), xs[k]? = some x → ∀ (j : Nat) (y : V), (cl x)[j]? = some y → (u k j).oneCell' = true)
      (hq : p = true → ∀ (k : Nat) (x : V), xs[k]? = some x → (cl x).all gS = true)
      (hr : ∀ (k : Nat) (x : V), xs[k]? = some x → ∀ (j : Nat) (y : V), (cl x)[j]? = some y → RepG (u k j) y) : RepG (.pointer (some (ad.add (k * es + off)))) (.vp p es xs k off)
  | np : RepG (.pointer none) .np
  | fn (f : Nat) : RepG (.func (.func f) #[] #[]) (.fn f)
inductive Rep : Value → V → Prop
  | g {v : Value} {x : V} (h : RepG w I J v x) : Rep v x
  | agg (a : Array Value) (cs : List V) (hn : a.size = cs.length) (h : ∀ (j : Nat) (x : V), cs[j]? = some x → Rep (a.getD j undef) x) : Rep (.agg a) (.agg cs)
  | tup (a : Array Value) (cs : List V) (hn : a.size = cs.length) (h : ∀ (j : Nat) (x : V), cs[j]? = some x → Rep (a.getD j undef) x) : Rep (.tuple a) (.tup cs)
  | ref (i : Nat) (r : RI) (v : Value) (h : ρ i = some r) (hv : r.sl v) : Rep v (.ref i)
  | sub (i off len : Nat) (r : RI) (v : Value) (h : ρ i = some r) (hv : r.sub off len v) : Rep v (.sub i off len)
  | ptr (i k off : Nat) (r : RI) (g : Nat) (h : ρ i = some r) (hg : r.g = some g) : Rep (.pointer (some ⟨g, k * r.es + off, none⟩)) (.ptr i k off)
structure Flat (g cap : Nat) (cur : Array Value) (e es : Nat) (ys : List V) : Prop where
  heap : w.heap[g]? = some (.cells cur e (0, 0))
  size : cur.size = cap * es
  le : ys.length ≤ cap
  max : cap ≤ maxLen
  hl : ∀ (k : Nat) (x : V), ys[k]? = some x → (cl x).length = es
  one : ∀ j, j < ys.length * es → (cur.getD j undef).oneCell' = true
  gr : ∀ x ∈ ys, (cl x).all gS = true
  rep : ∀ (k : Nat) (x : V), ys[k]? = some x → ∀ (j : Nat) (y : V), (cl x)[j]? = some y → RepG w I J (cur.getD (k * es + j) undef) y
def RepN (N : Nat → Prop) (v : Value) (x : V) : Prop :=
  match x with
  | .own e es ys => (v = .slice none 0 0 ∧ ys = [] ∧ ∀ b, ¬ N b) ∨ ∃ g cap cur, v = .slice (some ⟨g, 0, none⟩) ys.length cap ∧ Flat w I J g cap cur e es ys ∧ ∀ b, N b ↔ b = g
  | x => RepG w I J v x ∧ ∀ b, ¬ N b
structure Arr (N : Nat → Nat → Nat → Prop) (F : Nat → Prop) (g cap : Nat) (cur : Array Value) (e es : Nat) (xs : List V) : Prop where
  heap : w.heap[g]? = some (.cells cur e (0, 0))
  size : cur.size = cap * es
  le : xs.length ≤ cap
  max : cap ≤ maxLen
  hl : ∀ (k : Nat) (x : V), xs[k]? = some x → (cl x).length = es
  one : ∀ j, j < xs.length * es → (cur.getD j undef).oneCell' = true
  gr : ∀ x ∈ xs, (cl x).all gO = true
  rep : ∀ (k : Nat) (x : V), xs[k]? = some x → ∀ (j : Nat) (y : V), (cl x)[j]? = some y → RepN w I J (N k j) (cur.getD (k * es + j) undef) y
  fo : ∀ b, F b ↔ b = g ∨ ∃ k j, N k j b
  ng : ∀ k j, ¬ N k j g
  nd : ∀ k j k' j' b, N k j b → N k' j' b → k = k' ∧ j = j'
  nb : ∀ k j b, N k j b → ∃ x y, xs[k]? = some x ∧ (cl x)[j]? = some y
def OwnOb (ri : Option RI) (F : Nat → Prop) : Ob → Prop
  | .free => ri = none ∧ ∀ b, ¬ F b
  | .dead => ∀ b, ¬ F b
  | .box t cs => ∃ r g cur, ri = some r ∧ r.g = some g ∧ w.heap[g]? = some (.cells cur t (0, 0)) ∧ cur.size = cs.length ∧ (∀ (j : Nat) (x : V), cs[j]? = some x → Rep ρ w I J (cur.getD j undef) x) ∧ ∀ b, F b ↔ b = g
  | .arr e es xs => ∃ r, ri = some r ∧ r.es = es ∧ r.len = xs.length ∧ ((r.g = none ∧ xs = [] ∧ (∀ b, ¬ F b) ∧ r.cap = 0) ∨ ∃ g cur N, r.g = some g ∧ Arr w I J N F g r.cap cur e es xs)
  | .hole e es xs j off k => ∃ r g cur N, ri = some r ∧ r.es = es ∧ r.len = xs.length ∧ r.g = some g ∧ Arr w I J N F g r.cap cur e es xs ∧ Rep ρ w I J (cur.getD (j * es + off) undef) (.ref k)
  | .holes e es xs j hs => ∃ r g cur N, ri = some r ∧ r.es = es ∧ r.len = xs.length ∧ r.g = some g ∧ Arr w I J N F g r.cap cur e es xs ∧ ∀ h ∈ hs, Rep ρ w I J (cur.getD (j * es + h.1) undef) (.ref h.2)
  | .raw e l => ∃ r g cur fz, ri = some r ∧ r.es = 1 ∧ r.len = l.length ∧ r.g = some g ∧ w.heap[g]? = some (.cells cur e fz) ∧ cur.size ≤ fz.1 ∧ l.length ≤ cur.size ∧ (∀ (j : Nat) (b : UInt8), l[j]? = some b → cur.getD j undef = .int .u8 (b.toNat : Int)) ∧ ∀ b, F b ↔ b = g
end
section
variable {ρ ρ' : Nat → Option RI} {w w' : World} {I J I' J' : Nat → Prop}
theorem RepG.mono (hI : ∀ b, I b → I' b) (hJ : ∀ b, J b → J' b) (hb : ∀ b, (I b ∨ J b) → w'.heap[b]? = w.heap[b]?) {v : Value} {x : V} (h : RepG w I J v x) : RepG w' I' J' v x := by
  have hpp : ∀ (p : Bool) (b : Nat), (if p = true then I b else J b) → (if p = true then I' b else J' b) ∧ w'.heap[b]? = w.heap[b]? := by
    intro p b h
    cases p
    · exact ⟨hJ _ h, hb _ (.inr h)⟩
    · exact ⟨hI _ h, hb _ (.inl h)⟩
  have hbk : ∀ (ad : Addr) (n : Nat), (ad.add n).block = ad.block := by
    intro ad n; unfold Addr.add; split <;> rfl
  induction h with
  | un v => exact .un v
  | int k n => exact .int k n
  | bool b => exact .bool b
  | str s => exact .str s
  | nil => exact .nil
  | slE A c p es => exact .slE A c p es
  | sl ad n c p es xs u hn hc hm hp hl hu ho hq hr ih =>
    obtain ⟨h1, h2⟩ := hpp p _ hp
    exact .sl ad n c p es xs u hn hc hm h1 hl (fun k x hx j y hy => (World.cell?_of_block (by rw [hbk]; exact h2)).trans (hu k x hx j y hy)) ho hq ih
  | vp ad p es xs k off u hp hl hu ho hq hr ih =>
    obtain ⟨h1, h2⟩ := hpp p _ hp
    exact .vp ad p es xs k off u h1 hl (fun k x hx j y hy => (World.cell?_of_block (by rw [hbk]; exact h2)).trans (hu k x hx j y hy)) ho hq ih
  | np => exact .np
  | fn f => exact .fn f
theorem Rep.mono (hρ : ∀ i r, ρ i = some r → ρ' i = some r) (hI : ∀ b, I b → I' b) (hJ : ∀ b, J b → J' b) (hb : ∀ b, (I b ∨ J b) → w'.heap[b]? = w.heap[b]?) {v : Value} {x : V} (h : Rep ρ w I J v x) : Rep ρ' w' I' J' v x := by
  induction h with
  | g h => exact .g (h.mono hI hJ hb)
  | agg a cs hn h ih => exact .agg a cs hn ih
  | tup a cs hn h ih => exact .tup a cs hn ih
  | ref i r v h hv => exact .ref i r v (hρ _ _ h) hv
  | sub i off len r v h hv => exact .sub i off len r v (hρ _ _ h) hv
  | ptr i k off r g h hg => exact .ptr i k off r g (hρ _ _ h) hg
end
structure Gh where
  ρ : Nat → Option RI
  I : Nat → Prop
  J : Nat → Prop
  F : Nat → Nat → Prop
def Gh.Rep (G : Gh) (w : World) (v : Value) (x : V) : Prop := Sy.Rep G.ρ w G.I G.J v x
def Gh.Own (G : Gh) (w : World) (ri : Option RI) (F : Nat → Prop) (x : Ob) : Prop := OwnOb G.ρ w G.I G.J ri F x
structure Hold (G : Gh) (w : World) (ob : Nat → Ob) : Prop where
  ij : ∀ b, G.I b → G.J b
  lt : ∀ b, G.J b → b < w.heap.size
  own : ∀ i, G.Own w (G.ρ i) (G.F i) (ob i)
  flt : ∀ i b, G.F i b → b < w.heap.size
  fj : ∀ i b, G.F i b → ¬ G.J b
  dis : ∀ i j b, G.F i b → G.F j b → i = j
structure Fr (G : Gh) (w : World) (G' : Gh) (w' : World) : Prop where
  os : w'.os = w.os
  tape : w'.tape = w.tape
  output : w'.output = w.output
  sz : w.heap.size ≤ w'.heap.size
  blk : ∀ b, b < w.heap.size → (∀ i, ¬ G.F i b) → w'.heap[b]? = w.heap[b]?
  rho : ∀ i r, G.ρ i = some r → G'.ρ i = some r
  I : ∀ b, G.I b → G'.I b
  J : ∀ b, G.J b → G'.J b
  In : ∀ b, G'.I b → G.I b ∨ w.heap.size ≤ b ∨ ∃ i, G.F i b
  Jn : ∀ b, G'.J b → G.J b ∨ w.heap.size ≤ b ∨ ∃ i, G.F i b
  F : ∀ i b, G'.F i b → (∃ j, G.F j b) ∨ w.heap.size ≤ b
theorem Fr.refl (G : Gh) (w : World) : Fr G w G w :=
  ⟨rfl, rfl, rfl, Nat.le_refl _, fun _ _ _ => rfl, fun _ _ h => h, fun _ h => h, fun _ h => h, fun _ h => .inl h, fun _ h => .inl h, fun i b h => .inl ⟨i, h⟩⟩
theorem Fr.trans {G G1 G2 : Gh} {w w1 w2 : World} (a : Fr G w G1 w1) (b : Fr G1 w1 G2 w2) : Fr G w G2 w2 where
  os := b.os.trans a.os
  tape := b.tape.trans a.tape
  output := b.output.trans a.output
  sz := Nat.le_trans a.sz b.sz
  blk := fun k hk hf => (b.blk k (Nat.lt_of_lt_of_le hk a.sz) (fun i h => by
    rcases a.F i k h with ⟨j, hj⟩ | h
    · exact hf j hj
    · omega)).trans (a.blk k hk hf)
  rho := fun i r h => b.rho i r (a.rho i r h)
  I := fun k h => b.I k (a.I k h)
  J := fun k h => b.J k (a.J k h)
  In := fun k h => by
    rcases b.In k h with h | h | ⟨i, h⟩
    · exact a.In k h
    · exact .inr (.inl (Nat.le_trans a.sz h))
    · rcases a.F i k h with h | h
      · exact .inr (.inr h)
      · exact .inr (.inl h)
  Jn := fun k h => by
    rcases b.Jn k h with h | h | ⟨i, h⟩
    · exact a.Jn k h
    · exact .inr (.inl (Nat.le_trans a.sz h))
    · rcases a.F i k h with h | h
      · exact .inr (.inr h)
      · exact .inr (.inl h)
  F := fun i k h => by
    rcases b.F i k h with ⟨j, h⟩ | h
    · exact a.F j k h
    · exact .inr (Nat.le_trans a.sz h)
def SameW (w w' : World) : Prop := w'.heap = w.heap ∧ w'.os = w.os ∧ w'.tape = w.tape ∧ w'.output = w.output
theorem Hold.jun {G G' : Gh} {w w' : World} {ob : Nat → Ob} (H : Hold G w ob) (f : Fr G w G' w') {b : Nat} (h : G.I b ∨ G.J b) : w'.heap[b]? = w.heap[b]? := by
  have hj : G.J b := h.elim (H.ij b) id
  exact f.blk b (H.lt b hj) (fun i hi => H.fj i b hi hj)
theorem Hold.frG {G G' : Gh} {w w' : World} {ob : Nat → Ob} (H : Hold G w ob) (f : Fr G w G' w') (v : Value) (x : V) (h : RepG w G.I G.J v x) : RepG w' G'.I G'.J v x :=
  h.mono f.I f.J (fun _ hb => H.jun f hb)
theorem Gh.Rep.fr {G G' : Gh} {w w' : World} {ob : Nat → Ob} (H : Hold G w ob) (f : Fr G w G' w') {v : Value} {x : V} (h : G.Rep w v x) : G'.Rep w' v x :=
  Sy.Rep.mono f.rho f.I f.J (fun _ hb => H.jun f hb) h
section
variable {ρ ρ' : Nat → Option RI} {w w' : World} {I J I' J' : Nat → Prop}
theorem Flat.lift (L : ∀ v x, RepG w I J v x → RepG w' I' J' v x) {g cap : Nat} {cur : Array Value} {e es : Nat} {ys : List V} (h : Flat w I J g cap cur e es ys) (hb : w'.heap[g]? = w.heap[g]?) : Flat w' I' J' g cap cur e es ys :=
  ⟨hb.trans h.heap, h.size, h.le, h.max, h.hl, h.one, h.gr, fun k x hx j y hy => L _ _ (h.rep k x hx j y hy)⟩
theorem RepN.lift (L : ∀ v x, RepG w I J v x → RepG w' I' J' v x) {N : Nat → Prop} {v : Value} {x : V} (h : RepN w I J N v x) (hb : ∀ b, N b → w'.heap[b]? = w.heap[b]?) : RepN w' I' J' N v x := by
  cases x with
  | own e es ys =>
    rcases h with h | ⟨g, cap, cur, h1, h2, h3⟩
    · exact .inl h
    · exact .inr ⟨g, cap, cur, h1, h2.lift L (hb g ((h3 g).2 rfl)), h3⟩
  | _ => exact ⟨L _ _ h.1, h.2⟩
theorem Arr.lift (L : ∀ v x, RepG w I J v x → RepG w' I' J' v x) {N : Nat → Nat → Nat → Prop} {F : Nat → Prop} {g cap : Nat} {cur : Array Value} {e es : Nat} {xs : List V} (h : Arr w I J N F g cap cur e es xs) (hb : ∀ b, F b → w'.heap[b]? = w.heap[b]?) : Arr w' I' J' N F g cap cur e es xs :=
  ⟨(hb g ((h.fo g).2 (.inl rfl))).trans h.heap, h.size, h.le, h.max, h.hl, h.one, h.gr, fun k x hx j y hy => (h.rep k x hx j y hy).lift L (fun b hn => hb b ((h.fo b).2 (.inr ⟨k, j, hn⟩))), h.fo, h.ng, h.nd, h.nb⟩
theorem OwnOb.lift (LG : ∀ v x, RepG w I J v x → RepG w' I' J' v x) (L : ∀ v x, Rep ρ w I J v x → Rep ρ' w' I' J' v x) {ri : Option RI} {F : Nat → Prop} {x : Ob} (h : OwnOb ρ w I J ri F x) (hb : ∀ b, F b → w'.heap[b]? = w.heap[b]?) : OwnOb ρ' w' I' J' ri F x := by
  cases x with
  | free => exact h
  | dead => exact h
  | box t cs =>
    obtain ⟨r, g, cur, h1, h2, h3, h4, h5, h6⟩ := h
    exact ⟨r, g, cur, h1, h2, (hb g ((h6 g).2 rfl)).trans h3, h4, fun j x hx => L _ _ (h5 j x hx), h6⟩
  | arr e es xs =>
    obtain ⟨r, h1, h2, h3, h4⟩ := h
    refine ⟨r, h1, h2, h3, ?_⟩
    rcases h4 with h4 | ⟨g, cur, N, h5, h6⟩
    · exact .inl h4
    · exact .inr ⟨g, cur, N, h5, h6.lift LG hb⟩
  | hole e es xs j off k =>
    obtain ⟨r, g, cur, N, h1, h2, h3, h4, h5, h6⟩ := h
    exact ⟨r, g, cur, N, h1, h2, h3, h4, h5.lift LG hb, L _ _ h6⟩
  | holes e es xs j hs =>
    obtain ⟨r, g, cur, N, h1, h2, h3, h4, h5, h6⟩ := h
    exact ⟨r, g, cur, N, h1, h2, h3, h4, h5.lift LG hb, fun q hq => L _ _ (h6 q hq)⟩
  | raw e l =>
    obtain ⟨r, g, cur, fz, h1, h2, h3, h4, h5, h6, h7, h8, h9⟩ := h
    exact ⟨r, g, cur, fz, h1, h2, h3, h4, (hb g ((h9 g).2 rfl)).trans h5, h6, h7, h8, h9⟩
end
theorem Hold.step {G G' : Gh} {w w' : World} {ob ob' : Nat → Ob} (H : Hold G w ob) (hI : G'.I = G.I) (hJ : G'.J = G.J)
    (os : w'.os = w.os) (tape : w'.tape = w.tape) (output : w'.output = w.output) (sz : w.heap.size ≤ w'.heap.size) (rho : ∀ i r, G.ρ i = some r → G'.ρ i = some r)
    (C : Nat → Prop) (same : ∀ i, ¬ C i → ob' i = ob i ∧ G'.ρ i = G.ρ i ∧ G'.F i = G.F i)
    (wr : ∀ b, b < w.heap.size → (∀ i, C i → ¬ G.F i b) → w'.heap[b]? = w.heap[b]?)
    (own : (∀ v x, RepG w G.I G.J v x → RepG w' G'.I G'.J v x) → (∀ v x, G.Rep w v x → G'.Rep w' v x) → ∀ i, C i → G'.Own w' (G'.ρ i) (G'.F i) (ob' i))
    (cf : ∀ i b, C i → G'.F i b → (∃ j, C j ∧ G.F j b) ∨ w.heap.size ≤ b)
    (lt : ∀ i b, C i → G'.F i b → b < w'.heap.size)
    (dis : ∀ i j b, C i → C j → G'.F i b → G'.F j b → i = j) : Hold G' w' ob' ∧ Fr G w G' w' := by
  have hF : ∀ i b, G'.F i b → (∃ j, G.F j b) ∨ w.heap.size ≤ b := by
    intro i b h
    by_cases hc : C i
    · rcases cf i b hc h with ⟨j, _, h⟩ | h
      · exact .inl ⟨j, h⟩
      · exact .inr h
    · rw [(same i hc).2.2] at h
      exact .inl ⟨i, h⟩
  have f : Fr G w G' w' := ⟨os, tape, output, sz, fun b hb hf => wr b hb (fun i _ => hf i), rho, fun b h => by rw [hI]; exact h, fun b h => by rw [hJ]; exact h, fun b h => .inl (by rw [hI] at h; exact h), fun b h => .inl (by rw [hJ] at h; exact h), hF⟩
  have L : ∀ v x, G.Rep w v x → G'.Rep w' v x := fun v x h => h.fr H f
  have key : ∀ i j b, C i → ¬ C j → G'.F i b → G.F j b → False := by
    intro i j b hi hj h1 h2
    rcases cf i b hi h1 with ⟨k, hk, h⟩ | h
    · have := H.dis k j b h h2
      subst this
      exact hj hk
    · have := H.flt j b h2
      omega
  refine ⟨⟨fun b h => ?_, fun b h => ?_, fun i => ?_, fun i b h => ?_, fun i b h hj => ?_, fun i j b h1 h2 => ?_⟩, f⟩
  · rw [hI] at h; rw [hJ]; exact H.ij b h
  · rw [hJ] at h; exact Nat.lt_of_lt_of_le (H.lt b h) sz
  · by_cases hc : C i
    · exact own (H.frG f) L i hc
    · obtain ⟨h1, h2, h3⟩ := same i hc
      rw [h1, h2, h3]
      refine OwnOb.lift (H.frG f) L (H.own i) (fun b hb => wr b (H.flt i b hb) (fun j hj hjb => ?_))
      have := H.dis i j b hb hjb
      subst this
      exact hc hj
  · by_cases hc : C i
    · exact lt i b hc h
    · rw [(same i hc).2.2] at h
      exact Nat.lt_of_lt_of_le (H.flt i b h) sz
  · rw [hJ] at hj
    rcases hF i b h with ⟨k, h⟩ | h
    · exact H.fj k b h hj
    · have := H.lt b hj
      omega
  · by_cases hi : C i
    · by_cases hj : C j
      · exact dis i j b hi hj h1 h2
      · rw [(same j hj).2.2] at h2
        exact (key i j b hi hj h1 h2).elim
    · rw [(same i hi).2.2] at h1
      by_cases hj : C j
      · exact (key j i b hj hi h2 h1).elim
      · rw [(same j hj).2.2] at h2
        exact H.dis i j b h1 h2
end Go.Sy

