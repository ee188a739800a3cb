/- The program logic with symbolic states that this claim stands on (a text of several, laid together). -/
import Derived.Calls
import Derived.Orders
import Derived.Laws.AppendOwn
import Derived.Laws.Rows
import Derived.Laws.Tables
import Derived.KernelRfl
import Derived.Laws.Sem
import Derived.Laws.Small
import Derived.Laws.StructEq
import Derived.Laws.Cover3
import Derived.Laws.NewBlocks
import Derived.Great.BuildSlice
import Derived.Maps.AppendAt
section
set_option linter.unusedVariables false
set_option linter.unusedSimpArgs false
namespace Go.Sy

inductive V where
  | un
  | int (k : IntKind) (n : Int)
  | bool (b : Bool)
  | str (s : ByteArray)
  | agg (cs : List V)
  | tup (vs : List V)
  | nil
  | sl (p : Bool) (es : Nat) (xs : List V)
  | own (e es : Nat) (xs : List V)
  | ref (i : Nat)
  | sub (i off len : Nat)
  | ptr (i k off : Nat)
  | vp (p : Bool) (es : Nat) (xs : List V) (k off : Nat)
  | np
  | fn (f : Nat)
inductive Ob where
  | free
  | dead
  | box (t : Nat) (cs : List V)
  | arr (e es : Nat) (xs : List V)
  | hole (e es : Nat) (xs : List V) (j off k : Nat)
  | holes (e es : Nat) (xs : List V) (j : Nat) (hs : List (Nat × Nat))
  | raw (e : Nat) (l : List UInt8)
structure RI where
  g : Option Nat
  cap : Nat
  es : Nat
  len : Nat
def RI.sl (r : RI) (v : Value) : Prop :=
  match r.g with
  | none => v = .slice none 0 0 ∧ r.len = 0
  | some g => v = .slice (some ⟨g, 0, none⟩) r.len r.cap
def RI.sub (r : RI) (off len : Nat) (v : Value) : Prop :=
  off + len ≤ r.len ∧ ∃ A, v = .slice A len (r.cap - off) ∧ (0 < len ∨ off = 0 → A = r.g.map fun g => ⟨g, off * r.es, none⟩)
def cl : V → List V
  | .agg cs => cs
  | x => [x]
def gS : V → Bool
  | .int .. | .bool _ | .str _ | .nil | .np | .fn _ => true
  | _ => false
def gV : V → Bool
  | .int .. | .bool _ | .str _ | .nil | .np | .fn _ => true
  | .sl true _ _ => true
  | _ => false
def gO : V → Bool
  | .own .. => true
  | .un => true
  | x => gV x
section
variable (ρ : Nat → Option RI) (w : World) (I J : Nat → Prop)
inductive RepG : Value → V → Prop
  | un (v : Value) : RepG v .un
  | int (k : IntKind) (n : Int) : RepG (.int k n) (.int k n)
  | bool (b : Bool) : RepG (.bool b) (.bool b)
  | str (s : ByteArray) : RepG (.string s) (.str s)
  | nil : RepG (.slice none 0 0) .nil
  | slE (A : Option Addr) (c : Nat) (p : Bool) (es : Nat) : RepG (.slice A 0 c) (.sl p es [])
  | sl (ad : Addr) (n c : Nat) (p : Bool) (es : Nat) (xs : List V) (u : Nat → Nat → Value) (hn : xs.length = n) (hc : n ≤ c) (hm : n ≤ maxLen) (hp : if p = true then I ad.block else J ad.block)
      (hl : ∀ (k : Nat) (x : V), xs[k]? = some x → (cl x).length = es) (hu : ∀ (k : Nat) (x : V), xs[k]? = some x → ∀ (j : Nat) (y : V), (cl x)[j]? = some y → w.cell? (ad.add (k * es + j)) = some (u k j))
      (ho : ∀ (k : Nat) (x : V), xs[k]? = some x → ∀ (j : Nat) (y : V), (cl x)[j]? = some y → (u k j).oneCell' = true)
      (hq : p = true → ∀ (k : Nat) (x : V), xs[k]? = some x → (cl x).all gS = true)
      (hr : ∀ (k : Nat) (x : V), xs[k]? = some x → ∀ (j : Nat) (y : V), (cl x)[j]? = some y → RepG (u k j) y) : RepG (.slice (some ad) n c) (.sl p es xs)
  | vp (ad : Addr) (p : Bool) (es : Nat) (xs : List V) (k off : Nat) (u : Nat → Nat → Value) (hp : if p = true then I ad.block else J ad.block)
      (hl : ∀ (k : Nat) (x : V), xs[k]? = some x → (cl x).length = es) (hu : ∀ (k : Nat) (x : V), xs[k]? = some x → ∀ (j : Nat) (y : V), (cl x)[j]? = some y → w.cell? (ad.add (k * es + j)) = some (u k j))
      (ho : ∀ (k : Nat) (x : V), xs[k]? = some x → ∀ (j : Nat) (y : V), (cl x)[j]? = some y → (u k j).oneCell' = true)
      (hq : p = true → ∀ (k : Nat) (x : V), xs[k]? = some x → (cl x).all gS = true)
      (hr : ∀ (k : Nat) (x : V), xs[k]? = some x → ∀ (j : Nat) (y : V), (cl x)[j]? = some y → RepG (u k j) y) : RepG (.pointer (some (ad.add (k * es + off)))) (.vp p es xs k off)
  | np : RepG (.pointer none) .np
  | fn (f : Nat) : RepG (.func (.func f) #[] #[]) (.fn f)
inductive Rep : Value → V → Prop
  | g {v : Value} {x : V} (h : RepG w I J v x) : Rep v x
  | agg (a : Array Value) (cs : List V) (hn : a.size = cs.length) (h : ∀ (j : Nat) (x : V), cs[j]? = some x → Rep (a.getD j undef) x) : Rep (.agg a) (.agg cs)
  | tup (a : Array Value) (cs : List V) (hn : a.size = cs.length) (h : ∀ (j : Nat) (x : V), cs[j]? = some x → Rep (a.getD j undef) x) : Rep (.tuple a) (.tup cs)
  | ref (i : Nat) (r : RI) (v : Value) (h : ρ i = some r) (hv : r.sl v) : Rep v (.ref i)
  | sub (i off len : Nat) (r : RI) (v : Value) (h : ρ i = some r) (hv : r.sub off len v) : Rep v (.sub i off len)
  | ptr (i k off : Nat) (r : RI) (g : Nat) (h : ρ i = some r) (hg : r.g = some g) : Rep (.pointer (some ⟨g, k * r.es + off, none⟩)) (.ptr i k off)
structure Flat (g cap : Nat) (cur : Array Value) (e es : Nat) (ys : List V) : Prop where
  heap : w.heap[g]? = some (.cells cur e (0, 0))
  size : cur.size = cap * es
  le : ys.length ≤ cap
  max : cap ≤ maxLen
  hl : ∀ (k : Nat) (x : V), ys[k]? = some x → (cl x).length = es
  one : ∀ j, j < ys.length * es → (cur.getD j undef).oneCell' = true
  gr : ∀ x ∈ ys, (cl x).all gS = true
  rep : ∀ (k : Nat) (x : V), ys[k]? = some x → ∀ (j : Nat) (y : V), (cl x)[j]? = some y → RepG w I J (cur.getD (k * es + j) undef) y
def RepN (N : Nat → Prop) (v : Value) (x : V) : Prop :=
  match x with
  | .own e es ys => (v = .slice none 0 0 ∧ ys = [] ∧ ∀ b, ¬ N b) ∨ ∃ g cap cur, v = .slice (some ⟨g, 0, none⟩) ys.length cap ∧ Flat w I J g cap cur e es ys ∧ ∀ b, N b ↔ b = g
  | x => RepG w I J v x ∧ ∀ b, ¬ N b
structure Arr (N : Nat → Nat → Nat → Prop) (F : Nat → Prop) (g cap : Nat) (cur : Array Value) (e es : Nat) (xs : List V) : Prop where
  heap : w.heap[g]? = some (.cells cur e (0, 0))
  size : cur.size = cap * es
  le : xs.length ≤ cap
  max : cap ≤ maxLen
  hl : ∀ (k : Nat) (x : V), xs[k]? = some x → (cl x).length = es
  one : ∀ j, j < xs.length * es → (cur.getD j undef).oneCell' = true
  gr : ∀ x ∈ xs, (cl x).all gO = true
  rep : ∀ (k : Nat) (x : V), xs[k]? = some x → ∀ (j : Nat) (y : V), (cl x)[j]? = some y → RepN w I J (N k j) (cur.getD (k * es + j) undef) y
  fo : ∀ b, F b ↔ b = g ∨ ∃ k j, N k j b
  ng : ∀ k j, ¬ N k j g
  nd : ∀ k j k' j' b, N k j b → N k' j' b → k = k' ∧ j = j'
  nb : ∀ k j b, N k j b → ∃ x y, xs[k]? = some x ∧ (cl x)[j]? = some y
def OwnOb (ri : Option RI) (F : Nat → Prop) : Ob → Prop
  | .free => ri = none ∧ ∀ b, ¬ F b
  | .dead => ∀ b, ¬ F b
  | .box t cs => ∃ r g cur, ri = some r ∧ r.g = some g ∧ w.heap[g]? = some (.cells cur t (0, 0)) ∧ cur.size = cs.length ∧ (∀ (j : Nat) (x : V), cs[j]? = some x → Rep ρ w I J (cur.getD j undef) x) ∧ ∀ b, F b ↔ b = g
  | .arr e es xs => ∃ r, ri = some r ∧ r.es = es ∧ r.len = xs.length ∧ ((r.g = none ∧ xs = [] ∧ (∀ b, ¬ F b) ∧ r.cap = 0) ∨ ∃ g cur N, r.g = some g ∧ Arr w I J N F g r.cap cur e es xs)
  | .hole e es xs j off k => ∃ r g cur N, ri = some r ∧ r.es = es ∧ r.len = xs.length ∧ r.g = some g ∧ Arr w I J N F g r.cap cur e es xs ∧ Rep ρ w I J (cur.getD (j * es + off) undef) (.ref k)
  | .holes e es xs j hs => ∃ r g cur N, ri = some r ∧ r.es = es ∧ r.len = xs.length ∧ r.g = some g ∧ Arr w I J N F g r.cap cur e es xs ∧ ∀ h ∈ hs, Rep ρ w I J (cur.getD (j * es + h.1) undef) (.ref h.2)
  | .raw e l => ∃ r g cur fz, ri = some r ∧ r.es = 1 ∧ r.len = l.length ∧ r.g = some g ∧ w.heap[g]? = some (.cells cur e fz) ∧ cur.size ≤ fz.1 ∧ l.length ≤ cur.size ∧ (∀ (j : Nat) (b : UInt8), l[j]? = some b → cur.getD j undef = .int .u8 (b.toNat : Int)) ∧ ∀ b, F b ↔ b = g
end
section
variable {ρ ρ' : Nat → Option RI} {w w' : World} {I J I' J' : Nat → Prop}
theorem RepG.mono (hI : ∀ b, I b → I' b) (hJ : ∀ b, J b → J' b) (hb : ∀ b, (I b ∨ J b) → w'.heap[b]? = w.heap[b]?) {v : Value} {x : V} (h : RepG w I J v x) : RepG w' I' J' v x := by
  have hpp : ∀ (p : Bool) (b : Nat), (if p = true then I b else J b) → (if p = true then I' b else J' b) ∧ w'.heap[b]? = w.heap[b]? := by
    intro p b h
    cases p
    · exact ⟨hJ _ h, hb _ (.inr h)⟩
    · exact ⟨hI _ h, hb _ (.inl h)⟩
  have hbk : ∀ (ad : Addr) (n : Nat), (ad.add n).block = ad.block := by
    intro ad n; unfold Addr.add; split <;> rfl
  induction h with
  | un v => exact .un v
  | int k n => exact .int k n
  | bool b => exact .bool b
  | str s => exact .str s
  | nil => exact .nil
  | slE A c p es => exact .slE A c p es
  | sl ad n c p es xs u hn hc hm hp hl hu ho hq hr ih =>
    obtain ⟨h1, h2⟩ := hpp p _ hp
    exact .sl ad n c p es xs u hn hc hm h1 hl (fun k x hx j y hy => (World.cell?_of_block (by rw [hbk]; exact h2)).trans (hu k x hx j y hy)) ho hq ih
  | vp ad p es xs k off u hp hl hu ho hq hr ih =>
    obtain ⟨h1, h2⟩ := hpp p _ hp
    exact .vp ad p es xs k off u h1 hl (fun k x hx j y hy => (World.cell?_of_block (by rw [hbk]; exact h2)).trans (hu k x hx j y hy)) ho hq ih
  | np => exact .np
  | fn f => exact .fn f
theorem Rep.mono (hρ : ∀ i r, ρ i = some r → ρ' i = some r) (hI : ∀ b, I b → I' b) (hJ : ∀ b, J b → J' b) (hb : ∀ b, (I b ∨ J b) → w'.heap[b]? = w.heap[b]?) {v : Value} {x : V} (h : Rep ρ w I J v x) : Rep ρ' w' I' J' v x := by
  induction h with
  | g h => exact .g (h.mono hI hJ hb)
  | agg a cs hn h ih => exact .agg a cs hn ih
  | tup a cs hn h ih => exact .tup a cs hn ih
  | ref i r v h hv => exact .ref i r v (hρ _ _ h) hv
  | sub i off len r v h hv => exact .sub i off len r v (hρ _ _ h) hv
  | ptr i k off r g h hg => exact .ptr i k off r g (hρ _ _ h) hg
end
structure Gh where
  ρ : Nat → Option RI
  I : Nat → Prop
  J : Nat → Prop
  F : Nat → Nat → Prop
def Gh.Rep (G : Gh) (w : World) (v : Value) (x : V) : Prop := Sy.Rep G.ρ w G.I G.J v x
def Gh.Own (G : Gh) (w : World) (ri : Option RI) (F : Nat → Prop) (x : Ob) : Prop := OwnOb G.ρ w G.I G.J ri F x
structure Hold (G : Gh) (w : World) (ob : Nat → Ob) : Prop where
  ij : ∀ b, G.I b → G.J b
  lt : ∀ b, G.J b → b < w.heap.size
  own : ∀ i, G.Own w (G.ρ i) (G.F i) (ob i)
  flt : ∀ i b, G.F i b → b < w.heap.size
  fj : ∀ i b, G.F i b → ¬ G.J b
  dis : ∀ i j b, G.F i b → G.F j b → i = j
structure Fr (G : Gh) (w : World) (G' : Gh) (w' : World) : Prop where
  os : w'.os = w.os
  tape : w'.tape = w.tape
  output : w'.output = w.output
  sz : w.heap.size ≤ w'.heap.size
  blk : ∀ b, b < w.heap.size → (∀ i, ¬ G.F i b) → w'.heap[b]? = w.heap[b]?
  rho : ∀ i r, G.ρ i = some r → G'.ρ i = some r
  I : ∀ b, G.I b → G'.I b
  J : ∀ b, G.J b → G'.J b
  In : ∀ b, G'.I b → G.I b ∨ w.heap.size ≤ b ∨ ∃ i, G.F i b
  Jn : ∀ b, G'.J b → G.J b ∨ w.heap.size ≤ b ∨ ∃ i, G.F i b
  F : ∀ i b, G'.F i b → (∃ j, G.F j b) ∨ w.heap.size ≤ b
theorem Fr.refl (G : Gh) (w : World) : Fr G w G w :=
  ⟨rfl, rfl, rfl, Nat.le_refl _, fun _ _ _ => rfl, fun _ _ h => h, fun _ h => h, fun _ h => h, fun _ h => .inl h, fun _ h => .inl h, fun i b h => .inl ⟨i, h⟩⟩
theorem Fr.trans {G G1 G2 : Gh} {w w1 w2 : World} (a : Fr G w G1 w1) (b : Fr G1 w1 G2 w2) : Fr G w G2 w2 where
  os := b.os.trans a.os
  tape := b.tape.trans a.tape
  output := b.output.trans a.output
  sz := Nat.le_trans a.sz b.sz
  blk := fun k hk hf => (b.blk k (Nat.lt_of_lt_of_le hk a.sz) (fun i h => by
    rcases a.F i k h with ⟨j, hj⟩ | h
    · exact hf j hj
    · omega)).trans (a.blk k hk hf)
  rho := fun i r h => b.rho i r (a.rho i r h)
  I := fun k h => b.I k (a.I k h)
  J := fun k h => b.J k (a.J k h)
  In := fun k h => by
    rcases b.In k h with h | h | ⟨i, h⟩
    · exact a.In k h
    · exact .inr (.inl (Nat.le_trans a.sz h))
    · rcases a.F i k h with h | h
      · exact .inr (.inr h)
      · exact .inr (.inl h)
  Jn := fun k h => by
    rcases b.Jn k h with h | h | ⟨i, h⟩
    · exact a.Jn k h
    · exact .inr (.inl (Nat.le_trans a.sz h))
    · rcases a.F i k h with h | h
      · exact .inr (.inr h)
      · exact .inr (.inl h)
  F := fun i k h => by
    rcases b.F i k h with ⟨j, h⟩ | h
    · exact a.F j k h
    · exact .inr (Nat.le_trans a.sz h)
def SameW (w w' : World) : Prop := w'.heap = w.heap ∧ w'.os = w.os ∧ w'.tape = w.tape ∧ w'.output = w.output
theorem Hold.jun {G G' : Gh} {w w' : World} {ob : Nat → Ob} (H : Hold G w ob) (f : Fr G w G' w') {b : Nat} (h : G.I b ∨ G.J b) : w'.heap[b]? = w.heap[b]? := by
  have hj : G.J b := h.elim (H.ij b) id
  exact f.blk b (H.lt b hj) (fun i hi => H.fj i b hi hj)
theorem Hold.frG {G G' : Gh} {w w' : World} {ob : Nat → Ob} (H : Hold G w ob) (f : Fr G w G' w') (v : Value) (x : V) (h : RepG w G.I G.J v x) : RepG w' G'.I G'.J v x :=
  h.mono f.I f.J (fun _ hb => H.jun f hb)
theorem Gh.Rep.fr {G G' : Gh} {w w' : World} {ob : Nat → Ob} (H : Hold G w ob) (f : Fr G w G' w') {v : Value} {x : V} (h : G.Rep w v x) : G'.Rep w' v x :=
  Sy.Rep.mono f.rho f.I f.J (fun _ hb => H.jun f hb) h
section
variable {ρ ρ' : Nat → Option RI} {w w' : World} {I J I' J' : Nat → Prop}
theorem Flat.lift (L : ∀ v x, RepG w I J v x → RepG w' I' J' v x) {g cap : Nat} {cur : Array Value} {e es : Nat} {ys : List V} (h : Flat w I J g cap cur e es ys) (hb : w'.heap[g]? = w.heap[g]?) : Flat w' I' J' g cap cur e es ys :=
  ⟨hb.trans h.heap, h.size, h.le, h.max, h.hl, h.one, h.gr, fun k x hx j y hy => L _ _ (h.rep k x hx j y hy)⟩
theorem RepN.lift (L : ∀ v x, RepG w I J v x → RepG w' I' J' v x) {N : Nat → Prop} {v : Value} {x : V} (h : RepN w I J N v x) (hb : ∀ b, N b → w'.heap[b]? = w.heap[b]?) : RepN w' I' J' N v x := by
  cases x with
  | own e es ys =>
    rcases h with h | ⟨g, cap, cur, h1, h2, h3⟩
    · exact .inl h
    · exact .inr ⟨g, cap, cur, h1, h2.lift L (hb g ((h3 g).2 rfl)), h3⟩
  | _ => exact ⟨L _ _ h.1, h.2⟩
theorem Arr.lift (L : ∀ v x, RepG w I J v x → RepG w' I' J' v x) {N : Nat → Nat → Nat → Prop} {F : Nat → Prop} {g cap : Nat} {cur : Array Value} {e es : Nat} {xs : List V} (h : Arr w I J N F g cap cur e es xs) (hb : ∀ b, F b → w'.heap[b]? = w.heap[b]?) : Arr w' I' J' N F g cap cur e es xs :=
  ⟨(hb g ((h.fo g).2 (.inl rfl))).trans h.heap, h.size, h.le, h.max, h.hl, h.one, h.gr, fun k x hx j y hy => (h.rep k x hx j y hy).lift L (fun b hn => hb b ((h.fo b).2 (.inr ⟨k, j, hn⟩))), h.fo, h.ng, h.nd, h.nb⟩
theorem OwnOb.lift (LG : ∀ v x, RepG w I J v x → RepG w' I' J' v x) (L : ∀ v x, Rep ρ w I J v x → Rep ρ' w' I' J' v x) {ri : Option RI} {F : Nat → Prop} {x : Ob} (h : OwnOb ρ w I J ri F x) (hb : ∀ b, F b → w'.heap[b]? = w.heap[b]?) : OwnOb ρ' w' I' J' ri F x := by
  cases x with
  | free => exact h
  | dead => exact h
  | box t cs =>
    obtain ⟨r, g, cur, h1, h2, h3, h4, h5, h6⟩ := h
    exact ⟨r, g, cur, h1, h2, (hb g ((h6 g).2 rfl)).trans h3, h4, fun j x hx => L _ _ (h5 j x hx), h6⟩
  | arr e es xs =>
    obtain ⟨r, h1, h2, h3, h4⟩ := h
    refine ⟨r, h1, h2, h3, ?_⟩
    rcases h4 with h4 | ⟨g, cur, N, h5, h6⟩
    · exact .inl h4
    · exact .inr ⟨g, cur, N, h5, h6.lift LG hb⟩
  | hole e es xs j off k =>
    obtain ⟨r, g, cur, N, h1, h2, h3, h4, h5, h6⟩ := h
    exact ⟨r, g, cur, N, h1, h2, h3, h4, h5.lift LG hb, L _ _ h6⟩
  | holes e es xs j hs =>
    obtain ⟨r, g, cur, N, h1, h2, h3, h4, h5, h6⟩ := h
    exact ⟨r, g, cur, N, h1, h2, h3, h4, h5.lift LG hb, fun q hq => L _ _ (h6 q hq)⟩
  | raw e l =>
    obtain ⟨r, g, cur, fz, h1, h2, h3, h4, h5, h6, h7, h8, h9⟩ := h
    exact ⟨r, g, cur, fz, h1, h2, h3, h4, (hb g ((h9 g).2 rfl)).trans h5, h6, h7, h8, h9⟩
end
theorem Hold.step {G G' : Gh} {w w' : World} {ob ob' : Nat → Ob} (H : Hold G w ob) (hI : G'.I = G.I) (hJ : G'.J = G.J)
    (os : w'.os = w.os) (tape : w'.tape = w.tape) (output : w'.output = w.output) (sz : w.heap.size ≤ w'.heap.size) (rho : ∀ i r, G.ρ i = some r → G'.ρ i = some r)
    (C : Nat → Prop) (same : ∀ i, ¬ C i → ob' i = ob i ∧ G'.ρ i = G.ρ i ∧ G'.F i = G.F i)
    (wr : ∀ b, b < w.heap.size → (∀ i, C i → ¬ G.F i b) → w'.heap[b]? = w.heap[b]?)
    (own : (∀ v x, RepG w G.I G.J v x → RepG w' G'.I G'.J v x) → (∀ v x, G.Rep w v x → G'.Rep w' v x) → ∀ i, C i → G'.Own w' (G'.ρ i) (G'.F i) (ob' i))
    (cf : ∀ i b, C i → G'.F i b → (∃ j, C j ∧ G.F j b) ∨ w.heap.size ≤ b)
    (lt : ∀ i b, C i → G'.F i b → b < w'.heap.size)
    (dis : ∀ i j b, C i → C j → G'.F i b → G'.F j b → i = j) : Hold G' w' ob' ∧ Fr G w G' w' := by
  have hF : ∀ i b, G'.F i b → (∃ j, G.F j b) ∨ w.heap.size ≤ b := by
    intro i b h
    by_cases hc : C i
    · rcases cf i b hc h with ⟨j, _, h⟩ | h
      · exact .inl ⟨j, h⟩
      · exact .inr h
    · rw [(same i hc).2.2] at h
      exact .inl ⟨i, h⟩
  have f : Fr G w G' w' := ⟨os, tape, output, sz, fun b hb hf => wr b hb (fun i _ => hf i), rho, fun b h => by rw [hI]; exact h, fun b h => by rw [hJ]; exact h, fun b h => .inl (by rw [hI] at h; exact h), fun b h => .inl (by rw [hJ] at h; exact h), hF⟩
  have L : ∀ v x, G.Rep w v x → G'.Rep w' v x := fun v x h => h.fr H f
  have key : ∀ i j b, C i → ¬ C j → G'.F i b → G.F j b → False := by
    intro i j b hi hj h1 h2
    rcases cf i b hi h1 with ⟨k, hk, h⟩ | h
    · have := H.dis k j b h h2
      subst this
      exact hj hk
    · have := H.flt j b h2
      omega
  refine ⟨⟨fun b h => ?_, fun b h => ?_, fun i => ?_, fun i b h => ?_, fun i b h hj => ?_, fun i j b h1 h2 => ?_⟩, f⟩
  · rw [hI] at h; rw [hJ]; exact H.ij b h
  · rw [hJ] at h; exact Nat.lt_of_lt_of_le (H.lt b h) sz
  · by_cases hc : C i
    · exact own (H.frG f) L i hc
    · obtain ⟨h1, h2, h3⟩ := same i hc
      rw [h1, h2, h3]
      refine OwnOb.lift (H.frG f) L (H.own i) (fun b hb => wr b (H.flt i b hb) (fun j hj hjb => ?_))
      have := H.dis i j b hb hjb
      subst this
      exact hc hj
  · by_cases hc : C i
    · exact lt i b hc h
    · rw [(same i hc).2.2] at h
      exact Nat.lt_of_lt_of_le (H.flt i b h) sz
  · rw [hJ] at hj
    rcases hF i b h with ⟨k, h⟩ | h
    · exact H.fj k b h hj
    · have := H.lt b hj
      omega
  · by_cases hi : C i
    · by_cases hj : C j
      · exact dis i j b hi hj h1 h2
      · rw [(same j hj).2.2] at h2
        exact (key i j b hi hj h1 h2).elim
    · rw [(same i hi).2.2] at h1
      by_cases hj : C j
      · exact (key j i b hj hi h2 h1).elim
      · rw [(same j hj).2.2] at h2
        exact H.dis i j b h1 h2
end Go.Sy
end

section
set_option linter.unusedVariables false
set_option linter.unusedSimpArgs false
namespace Go.Sy
structure Sg where
  tm : Nat → V
  ob : Nat → Ob
inductive W where
  | t (k : Nat) (v : V)
  | o (k : Nat) (x : Ob)
def W.key : W → Nat
  | .t k _ => 2 * k
  | .o k _ => 2 * k + 1
def Sg.put (σ : Sg) : W → Sg
  | .t k v => { σ with tm := fun i => if i = k then v else σ.tm i }
  | .o k x => { σ with ob := fun i => if i = k then x else σ.ob i }
def Sg.puts (σ : Sg) : List W → Sg
  | [] => σ
  | x :: l => (σ.put x).puts l
def Sg.has1 (σ : Sg) : W → Prop
  | .t k v => σ.tm k = v
  | .o k x => σ.ob k = x
def Sg.has (σ : Sg) : List W → Prop
  | [] => True
  | x :: l => σ.has1 x ∧ σ.has l
structure Tr where
  pre : List W
  post : List W
structure Cx where
  n : Nat
  m : Nat
  q : Gh → World → Prop
def Cx.of (n m : Nat) : Cx := ⟨n, m, fun _ _ => True⟩
def St (G0 : Gh) (w0 : World) (N : Cx) (σ : Sg) (a : Act) (w : World) : Prop :=
  ∃ G, Hold G w σ.ob ∧ (∀ t, G.Rep w (a.tmps.getD t undef) (σ.tm t)) ∧ a.tmps.size = N.n ∧ a.defers = [] ∧ Fr G0 w0 G w ∧ (∀ i, N.m ≤ i → G0.ρ i = none) ∧ N.q G0 w0
section
variable (P : Program) (N : Cx) (ops : Array Oper)
def wpOne (Q : Exit → Act → World → Prop) (o : Oper) (K : Act → World → Prop) (a : Act) (w : World) : Prop :=
  if Region.wanted o (yielded ops a.tmps) = true then o.wp P a w K Q else K (a.put o.dst undef) w
def TrOk (o : Oper) (tr : Tr) : Prop :=
  ∀ G0 w0 σ a w, St G0 w0 N σ a w → σ.has tr.pre → ∀ Q K, (∀ a' w', St G0 w0 N (σ.puts tr.post) a' w' → K a' w') → wpOne P ops Q o K a w
end
def chain : Sg → List Tr → Sg → Prop
  | σ, [], σ' => σ = σ'
  | σ, tr :: l, σ' => σ.has tr.pre ∧ chain (σ.puts tr.post) l σ'
def disj (a b : List W) : Bool := a.all fun x => b.all fun y => x.key != y.key
def indep (x y : Tr) : Bool := disj x.post y.pre && disj x.pre y.post && disj x.post y.post
theorem put_comm (σ : Sg) (x y : W) (h : x.key ≠ y.key) : (σ.put x).put y = (σ.put y).put x := by
  cases x <;> cases y <;> simp only [W.key] at h <;> simp only [Sg.put]
  · rename_i k v k' v'
    have hk : k ≠ k' := by omega
    congr 1
    funext i
    by_cases h1 : i = k' <;> by_cases h2 : i = k <;> simp [h1, h2] <;> omega
  · rename_i k v k' v'
    have hk : k ≠ k' := by omega
    congr 1
    funext i
    by_cases h1 : i = k' <;> by_cases h2 : i = k <;> simp [h1, h2] <;> omega
theorem puts_put (σ : Sg) (x : W) (l : List W) (h : ∀ y ∈ l, x.key ≠ y.key) : (σ.put x).puts l = (σ.puts l).put x := by
  induction l generalizing σ with
  | nil => rfl
  | cons y l ih =>
    simp only [Sg.puts]
    rw [put_comm σ x y (h y List.mem_cons_self)]
    exact ih (σ.put y) (fun z hz => h z (List.mem_cons_of_mem _ hz))
theorem disj_iff {a b : List W} (h : disj a b = true) : ∀ x ∈ a, ∀ y ∈ b, x.key ≠ y.key := by
  intro x hx y hy
  simp only [disj, List.all_eq_true] at h
  simpa using h x hx y hy
theorem puts_comm (σ : Sg) (a b : List W) (h : disj a b = true) : (σ.puts a).puts b = (σ.puts b).puts a := by
  induction a generalizing σ with
  | nil => rfl
  | cons x a ih =>
    simp only [Sg.puts]
    have h' := disj_iff h
    rw [ih (σ.put x) (by simp only [disj, List.all_cons, Bool.and_eq_true] at h; exact h.2)]
    rw [puts_put σ x b (h' x List.mem_cons_self)]
theorem has1_put (σ : Sg) (x y : W) (h : x.key ≠ y.key) : (σ.put x).has1 y ↔ σ.has1 y := by
  cases x <;> cases y <;> simp only [W.key] at h <;> simp only [Sg.put, Sg.has1]
  · rename_i k v k' v'
    rw [if_neg (by omega)]
  · rename_i k v k' v'
    rw [if_neg (by omega)]
theorem has1_puts (σ : Sg) (l : List W) (y : W) (h : ∀ x ∈ l, x.key ≠ y.key) : (σ.puts l).has1 y ↔ σ.has1 y := by
  induction l generalizing σ with
  | nil => exact Iff.rfl
  | cons x l ih =>
    simp only [Sg.puts]
    rw [ih (σ.put x) (fun z hz => h z (List.mem_cons_of_mem _ hz))]
    exact has1_put σ x y (h x List.mem_cons_self)
theorem has_puts (σ : Sg) (l p : List W) (h : disj l p = true) : (σ.puts l).has p ↔ σ.has p := by
  induction p with
  | nil => exact Iff.rfl
  | cons y p ih =>
    have h' := disj_iff h
    have hp : disj l p = true := by
      simp only [disj, List.all_eq_true]
      intro x hx y' hy'
      simpa using h' x hx y' (List.mem_cons_of_mem _ hy')
    simp only [Sg.has]
    rw [has1_puts σ l y (fun x hx => h' x hx y List.mem_cons_self), ih hp]
theorem indep_iff {x y : Tr} (h : indep x y = true) : disj x.post y.pre = true ∧ disj x.pre y.post = true ∧ disj x.post y.post = true := by
  simp only [indep, Bool.and_eq_true] at h
  exact ⟨h.1.1, h.1.2, h.2⟩
theorem disj_symm {a b : List W} (h : disj a b = true) : disj b a = true := by
  simp only [disj, List.all_eq_true]
  intro x hx y hy
  simpa using (disj_iff h y hy x hx).symm
theorem bring_front {tr : Tr} {L2 : List Tr} {σ' : Sg} : ∀ (L1 : List Tr) (σ : Sg), chain σ (L1 ++ tr :: L2) σ' → (∀ x ∈ L1, indep x tr = true) → σ.has tr.pre ∧ chain (σ.puts tr.post) (L1 ++ L2) σ'
  | [], σ, h, _ => h
  | x :: L1, σ, h, hi => by
    obtain ⟨h1, h2⟩ := h
    obtain ⟨h3, h4⟩ := bring_front L1 _ h2 (fun y hy => hi y (List.mem_cons_of_mem _ hy))
    obtain ⟨i1, i2, i3⟩ := indep_iff (hi x List.mem_cons_self)
    refine ⟨(has_puts σ x.post tr.pre i1).1 h3, (has_puts σ tr.post x.pre (disj_symm i2)).2 h1, ?_⟩
    rw [puts_comm σ tr.post x.post (disj_symm i3)]
    exact h4
def maskOf (acc : Array Nat) (o : Oper) : Nat := o.after.foldl (fun s e => if Region.binds .any e then s ||| 2 ^ e.on ||| acc.getD e.on 0 else s) 0
theorem mask_fold (acc : Array Nat) (j : Nat) : ∀ (l : List Edge) (s : Nat), (l.foldl (fun s e => if Region.binds .any e then s ||| 2 ^ e.on ||| acc.getD e.on 0 else s) s).testBit j = true →
    s.testBit j = true ∨ ∃ e ∈ l, Region.binds .any e = true ∧ (e.on = j ∨ (acc.getD e.on 0).testBit j = true)
  | [], s, h => .inl h
  | e :: l, s, h => by
    rcases mask_fold acc j l _ h with h1 | ⟨e', he', h1⟩
    · by_cases hb : Region.binds .any e = true
      · simp only [hb, if_true, Nat.testBit_or, Bool.or_eq_true] at h1
        rcases h1 with (h1 | h1) | h1
        · exact .inl h1
        · refine .inr ⟨e, List.mem_cons_self, hb, .inl ?_⟩
          rw [Nat.testBit_two_pow] at h1
          simpa using h1
        · exact .inr ⟨e, List.mem_cons_self, hb, .inr h1⟩
      · simp only [hb] at h1
        exact .inl (by simpa using h1)
    · exact .inr ⟨e', List.mem_cons_of_mem _ he', h1⟩
theorem mask_of (acc : Array Nat) (o : Oper) (j : Nat) (h : (maskOf acc o).testBit j = true) : ∃ e ∈ o.after.toList, Region.binds .any e = true ∧ (e.on = j ∨ (acc.getD e.on 0).testBit j = true) := by
  unfold maskOf at h
  rw [← Array.foldl_toList] at h
  rcases mask_fold acc j o.after.toList 0 h with h | h
  · simp at h
  · exact h
def befores (acc : Array Nat) : List Oper → Array Nat
  | [] => acc
  | o :: l => befores (acc.push (maskOf acc o)) l
def Tab (ops : List Oper) (acc : Array Nat) : Prop := ∀ i j, (acc.getD i 0).testBit j = true → ∃ o, ops[i]? = some o ∧ ∃ e ∈ o.after.toList, Region.binds .any e = true ∧ e.on < ops.length ∧ (e.on = j ∨ (e.on < i ∧ (acc.getD e.on 0).testBit j = true))
def edgesIn (n : Nat) (o : Oper) : Bool := o.after.all fun e => !Region.binds .any e || e.on < n
theorem tab_befores (ops : List Oper) (hin : ∀ o ∈ ops, edgesIn ops.length o = true) : ∀ (l : List Oper) (pre : List Oper) (acc : Array Nat), pre ++ l = ops → acc.size = pre.length → Tab ops acc → Tab ops (befores acc l)
  | [], pre, acc, _, _, h => h
  | o :: l, pre, acc, he, hs, h => by
    refine tab_befores ops hin l (pre ++ [o]) _ (by simpa using he) (by simp [hs]) ?_
    intro i j hb
    have hget : ∀ k, ((acc.push (maskOf acc o)).getD k 0) = if k = acc.size then maskOf acc o else acc.getD k 0 := by
      intro k
      rw [Array.getD_eq_getD_getElem?, Array.getElem?_push, Array.getD_eq_getD_getElem?]
      split <;> simp_all
    rw [hget] at hb
    by_cases hk : i = acc.size
    · rw [if_pos hk] at hb
      obtain ⟨e, he1, he2, he3⟩ := mask_of acc o j hb
      have ho : ops[i]? = some o := by rw [← he, hk, hs]; simp
      have hmem : o ∈ ops := by rw [← he]; simp
      have hlt : e.on < ops.length := by
        have h1 := hin o hmem
        simp only [edgesIn, ← Array.all_toList, List.all_eq_true] at h1
        have h2 := h1 e he1
        simp only [he2, Bool.not_true, Bool.false_or, decide_eq_true_eq] at h2
        exact h2
      refine ⟨o, ho, e, he1, he2, hlt, ?_⟩
      rcases he3 with he3 | he3
      · exact .inl he3
      · refine .inr ⟨?_, ?_⟩
        · rcases Nat.lt_or_ge e.on acc.size with h1 | h1
          · omega
          · rw [Array.getD_eq_getD_getElem?, Array.getElem?_eq_none h1] at he3
            simp at he3
        · rw [hget]
          by_cases h1 : e.on = acc.size
          · rw [Array.getD_eq_getD_getElem?, Array.getElem?_eq_none (by omega)] at he3
            simp at he3
          · rw [if_neg h1]
            exact he3
    · rw [if_neg hk] at hb
      obtain ⟨o', ho', e, he1, he2, hlt, he3⟩ := h i j hb
      refine ⟨o', ho', e, he1, he2, hlt, ?_⟩
      rcases he3 with he3 | ⟨he3, he4⟩
      · exact .inl he3
      · refine .inr ⟨he3, ?_⟩
        rw [hget]
        by_cases h1 : e.on = acc.size
        · rw [Array.getD_eq_getD_getElem?, Array.getElem?_eq_none (by omega)] at he4
          simp at he4
        · rw [if_neg h1]
          exact he4
def chkTo (mask : Nat) (tr : Tr) : List (Nat × Tr) → Bool
  | [] => true
  | (j, x) :: l => (mask.testBit j || indep x tr) && chkTo mask tr l
def chkGo : List Nat → List (Nat × Tr) → List (Nat × Tr) → Bool
  | _, _, [] => true
  | [], _, _ :: _ => false
  | m :: ms, done, (i, tr) :: l => chkTo m tr done && chkGo ms ((i, tr) :: done) l
def number : Nat → List Tr → List (Nat × Tr)
  | _, [] => []
  | i, x :: l => (i, x) :: number (i + 1) l
def edgesOk : Nat → List Oper → Bool
  | _, [] => true
  | i, o :: l => edgesIn i o && edgesOk (i + 1) l
def chk (ops : List Oper) (trs : List Tr) : Bool := edgesOk 0 ops && chkGo (befores #[] ops).toList [] (number 0 trs)
theorem edgesOk_at : ∀ (ops : List Oper) (k : Nat), edgesOk k ops = true → ∀ i o, ops[i]? = some o → edgesIn (k + i) o = true
  | [], k, _, i, o, h => by simp at h
  | x :: l, k, h, 0, o, ho => by
    simp only [edgesOk, Bool.and_eq_true] at h
    simp only [List.getElem?_cons_zero, Option.some.injEq] at ho
    subst ho
    exact h.1
  | x :: l, k, h, i + 1, o, ho => by
    simp only [edgesOk, Bool.and_eq_true] at h
    simp only [List.getElem?_cons_succ] at ho
    have := edgesOk_at l (k + 1) h.2 i o ho
    rwa [Nat.add_assoc, Nat.add_comm 1 i] at this
theorem edgesIn_mono {n m : Nat} (h : n ≤ m) {o : Oper} (ho : edgesIn n o = true) : edgesIn m o = true := by
  simp only [edgesIn, ← Array.all_toList, List.all_eq_true] at ho ⊢
  intro e he
  have h1 := ho e he
  simp only [Bool.or_eq_true, Bool.not_eq_true', decide_eq_true_eq] at h1 ⊢
  rcases h1 with h1 | h1
  · exact .inl h1
  · exact .inr (by omega)
theorem number_get : ∀ (trs : List Tr) (k i : Nat), (number k trs)[i]? = (trs[i]?).map (fun t => (k + i, t))
  | [], k, i => by simp [number]
  | x :: l, k, 0 => by simp [number]
  | x :: l, k, i + 1 => by
    simp only [number, List.getElem?_cons_succ]
    rw [number_get l (k + 1) i]
    cases l[i]? <;> simp; omega
theorem number_snd : ∀ (trs : List Tr) (k : Nat), (number k trs).map Prod.snd = trs
  | [], k => rfl
  | x :: l, k => by simp [number, number_snd l (k + 1)]
theorem number_fst_ge : ∀ (trs : List Tr) (k : Nat), ∀ x ∈ number k trs, k ≤ x.1
  | [], k, x, h => by simp [number] at h
  | y :: l, k, x, h => by
    simp only [number, List.mem_cons] at h
    rcases h with rfl | h
    · exact Nat.le_refl _
    · have := number_fst_ge l (k + 1) x h
      omega
theorem number_asc : ∀ (trs : List Tr) (k : Nat), (number k trs).Pairwise (fun x y => x.1 < y.1)
  | [], k => List.Pairwise.nil
  | y :: l, k => by
    simp only [number]
    refine List.Pairwise.cons (fun x hx => ?_) (number_asc l (k + 1))
    have := number_fst_ge l (k + 1) x hx
    simp only
    omega
theorem chkTo_mem (m : Nat) (tr : Tr) : ∀ (l : List (Nat × Tr)), chkTo m tr l = true → ∀ x ∈ l, m.testBit x.1 = true ∨ indep x.2 tr = true
  | [], _, x, h => by simp at h
  | (j, y) :: l, hc, x, h => by
    simp only [chkTo, Bool.and_eq_true, Bool.or_eq_true] at hc
    rcases List.mem_cons.1 h with rfl | h
    · exact hc.1
    · exact chkTo_mem m tr l hc.2 x h
theorem chkGo_pw (T : List Nat) : ∀ (l : List (Nat × Tr)) (ms : List Nat) (done : List (Nat × Tr)) (k : Nat), (∀ i, ms[i]? = T[k + i]?) → (∀ i x, l[i]? = some x → x.1 = k + i) → chkGo ms done l = true →
    l.Pairwise (fun x y => (T.getD y.1 0).testBit x.1 = true ∨ indep x.2 y.2 = true) ∧ ∀ x ∈ done, ∀ y ∈ l, (T.getD y.1 0).testBit x.1 = true ∨ indep x.2 y.2 = true
  | [], ms, done, k, _, _, _ => ⟨List.Pairwise.nil, fun x _ y hy => by simp at hy⟩
  | (i, tr) :: l, [], done, k, _, _, h => by simp [chkGo] at h
  | (i, tr) :: l, m :: ms, done, k, hm, hl, h => by
    simp only [chkGo, Bool.and_eq_true] at h
    have hi : i = k := by have := hl 0 (i, tr) rfl; simpa using this
    have hmk : T.getD i 0 = m := by
      have := hm 0
      simp only [List.getElem?_cons_zero, Nat.add_zero] at this
      rw [hi, List.getD_eq_getElem?_getD, ← this]
      rfl
    obtain ⟨h1, h2⟩ := chkGo_pw T l ms ((i, tr) :: done) (k + 1) (fun j => by
      have := hm (j + 1)
      simp only [List.getElem?_cons_succ] at this
      rw [this]; congr 1; omega) (fun j x hx => by
      have := hl (j + 1) x (by simpa using hx)
      rw [this]; omega) h.2
    refine ⟨List.Pairwise.cons (fun y hy => h2 (i, tr) List.mem_cons_self y hy) h1, fun x hx y hy => ?_⟩
    rcases List.mem_cons.1 hy with rfl | hy
    · simp only
      rw [hmk]
      exact chkTo_mem m tr done h.1 x hx
    · exact h2 x (List.mem_cons_of_mem _ hx) y hy
section
variable {P : Program} {N : Cx} {ops : Array Oper}
theorem getD_true_false {l : Array Bool} {j : Nat} (h : j < l.size) : l.getD j true = l.getD j false := by
  simp [Array.getD, h]
theorem ready_tab {T : Array Nat} (hT : Tab ops.toList T) {listed : Array Bool}
    (dc : ∀ i o, ops[i]? = some o → listed.getD i false = true → ∀ e ∈ o.after, Region.binds .any e = true → listed.getD e.on false = true) (j : Nat) :
    ∀ i, (∀ o, ops[i]? = some o → ∀ e ∈ o.after, Region.binds .any e = true → listed.getD e.on false = true) → (T.getD i 0).testBit j = true → listed.getD j false = true := by
  intro i
  induction i using Nat.strongRecOn with
  | _ i ih =>
    intro he hb
    obtain ⟨o, ho, e, h1, h2, h3, h4⟩ := hT i j hb
    have ho' : ops[i]? = some o := by simpa using ho
    have hl := he o ho' e (by simpa using h1) h2
    rcases h4 with rfl | ⟨h4, h5⟩
    · exact hl
    · exact ih e.on h4 (fun o' ho'' e' he' hb' => dc e.on o' ho'' hl e' he' hb') h5
theorem wpAny_of {G0 : Gh} {w0 : World} {T : Array Nat} (hT : Tab ops.toList T) (hE : ∀ i o, ops[i]? = some o → edgesIn i o = true) {σ' : Sg} {Q : Exit → Act → World → Prop} (hQ : ∀ a w, St G0 w0 N σ' a w → Q .normal a w) :
    ∀ (fuel : Nat) (listed : Array Bool) (rem : List (Nat × Tr)) (σ : Sg) (a : Act) (w : World), listed.size = ops.size →
    (∀ j, j < ops.size → (listed.getD j true = false ↔ ∃ tr, (j, tr) ∈ rem)) →
    (∀ x ∈ rem, ∃ o, ops[x.1]? = some o ∧ TrOk P N ops o x.2) →
    rem.Pairwise (fun x y => x.1 < y.1) →
    rem.Pairwise (fun x y => (T.getD y.1 0).testBit x.1 = true ∨ indep x.2 y.2 = true) →
    (∀ i o, ops[i]? = some o → listed.getD i false = true → ∀ e ∈ o.after, Region.binds .any e = true → listed.getD e.on false = true) →
    rem.length ≤ fuel → chain σ (rem.map Prod.snd) σ' → St G0 w0 N σ a w → wpAny P .any ops Q fuel listed a w := by
  intro fuel
  induction fuel with
  | zero =>
    intro listed rem σ a w hs h1 h2 h3 h4 h5 h6 h7 h8
    obtain rfl : rem = [] := List.eq_nil_of_length_eq_zero (by omega)
    have : σ = σ' := h7
    subst this
    refine ⟨?_, hQ a w h8⟩
    rw [List.eq_nil_iff_forall_not_mem]
    intro j hj
    rw [mem_ready] at hj
    have hlt : j < ops.size := by
      obtain ⟨_, o, ho, _⟩ := hj
      exact (Array.getElem?_eq_some_iff.1 ho).1
    obtain ⟨tr, ht⟩ := (h1 j hlt).1 hj.1
    simp at ht
  | succ fuel ih =>
    intro listed rem σ a w hs h1 h2 h3 h4 h5 h6 h7 h8
    constructor
    · intro hr
      cases rem with
      | nil =>
        have : σ = σ' := h7
        subst this
        exact hQ a w h8
      | cons x l =>
        exfalso
        obtain ⟨o, ho, _⟩ := h2 x List.mem_cons_self
        have hlt : x.1 < ops.size := (Array.getElem?_eq_some_iff.1 ho).1
        have : x.1 ∈ Region.ready .any ops listed := by
          rw [mem_ready]
          refine ⟨(h1 x.1 hlt).2 ⟨x.2, List.mem_cons_self⟩, o, ho, fun e he hb => ?_⟩
          have h9 := hE x.1 o ho
          simp only [edgesIn, ← Array.all_toList, List.all_eq_true] at h9
          have h10 := h9 e (by simpa using he)
          simp only [hb, Bool.not_true, Bool.false_or, decide_eq_true_eq] at h10
          have hlt' : e.on < ops.size := by omega
          rw [← getD_true_false (by omega)]
          rcases Bool.eq_false_or_eq_true (listed.getD e.on true) with h | h
          · exact h
          · obtain ⟨tr, ht⟩ := (h1 e.on hlt').1 h
            rcases List.mem_cons.1 ht with ht | ht
            · have : e.on = x.1 := by rw [← ht]
              omega
            · have := (List.pairwise_cons.1 h3).1 _ ht
              simp only at this
              omega
        rw [hr] at this
        simp at this
    · intro i hi
      have hi' := hi
      rw [mem_ready] at hi'
      obtain ⟨hl0, o, ho, hall⟩ := hi'
      have hlt : i < ops.size := (Array.getElem?_eq_some_iff.1 ho).1
      obtain ⟨tr, ht⟩ := (h1 i hlt).1 hl0
      obtain ⟨L1, L2, rfl⟩ := List.append_of_mem ht
      have hin : ∀ x ∈ L1, indep x.2 tr = true := by
        intro x hx
        have hp := (List.pairwise_append.1 h4).2.2 x hx (i, tr) List.mem_cons_self
        rcases hp with hp | hp
        · exfalso
          have hj : listed.getD x.1 false = true := ready_tab hT h5 x.1 i (fun o' ho' e he hb => by
            have : o = o' := by rw [ho] at ho'; exact Option.some.inj ho'
            subst this
            exact hall e he hb) hp
          obtain ⟨o', ho', _⟩ := h2 x (by simp [hx])
          have hlt' : x.1 < ops.size := (Array.getElem?_eq_some_iff.1 ho').1
          have := (h1 x.1 hlt').2 ⟨x.2, by simp [hx]⟩
          rw [getD_true_false (by omega)] at this
          rw [this] at hj
          cases hj
        · exact hp
      rw [List.map_append, List.map_cons] at h7
      obtain ⟨c1, c2⟩ := bring_front (L1.map Prod.snd) σ h7 (by
        intro y hy
        obtain ⟨x, hx, rfl⟩ := List.mem_map.1 hy
        exact hin x hx)
      rw [← List.map_append] at c2
      obtain ⟨o', ho', hok⟩ := h2 (i, tr) (by simp)
      have : o = o' := by
        have h9 : ops[i]? = some o' := ho'
        rw [ho] at h9
        exact Option.some.inj h9
      subst this
      have hasc := List.pairwise_append.1 h3
      have hone := hok G0 w0 σ a w h8 c1 Q (wpAny P .any ops Q fuel (listed.setIfInBounds i true)) (fun a' w' hst => by
        refine ih (listed.setIfInBounds i true) (L1 ++ L2) (σ.puts tr.post) a' w' (by simpa using hs) ?_ ?_ ?_ ?_ ?_ (by simp only [List.length_append, List.length_cons] at h6 ⊢; omega) c2 hst
        · intro j hj
          by_cases hji : j = i
          · subst hji
            constructor
            · intro h
              exfalso
              simp [Array.getD, hs, hj] at h
            · rintro ⟨t', ht'⟩
              exfalso
              rcases List.mem_append.1 ht' with ht' | ht'
              · have := hasc.2.2 _ ht' (j, tr) List.mem_cons_self
                simp only at this
                omega
              · have := (List.pairwise_cons.1 hasc.2.1).1 _ ht'
                simp only at this
                omega
          · rw [getD_set_ne true (Ne.symm hji), h1 j hj]
            constructor
            · rintro ⟨t', ht'⟩
              refine ⟨t', ?_⟩
              simp only [List.mem_append, List.mem_cons, Prod.mk.injEq] at ht' ⊢
              rcases ht' with ht' | ⟨ht', _⟩ | ht'
              · exact .inl ht'
              · exact (hji ht').elim
              · exact .inr ht'
            · rintro ⟨t', ht'⟩
              refine ⟨t', ?_⟩
              simp only [List.mem_append, List.mem_cons] at ht' ⊢
              rcases ht' with ht' | ht'
              · exact .inl ht'
              · exact .inr (.inr ht')
        · intro x hx
          refine h2 x ?_
          simp only [List.mem_append, List.mem_cons] at hx ⊢
          rcases hx with hx | hx
          · exact .inl hx
          · exact .inr (.inr hx)
        · exact List.Pairwise.sublist (List.Sublist.append (List.Sublist.refl _) (List.sublist_cons_self _ _)) h3
        · exact List.Pairwise.sublist (List.Sublist.append (List.Sublist.refl _) (List.sublist_cons_self _ _)) h4
        · intro k o' ho' hk e he hb
          by_cases hki : k = i
          · have h9 : o = o' := Option.some.inj (ho.symm.trans (hki ▸ ho'))
            rw [← h9] at he
            exact getD_set_true (hall e he hb)
          · rw [getD_set_ne false (Ne.symm hki)] at hk
            exact getD_set_true (h5 k o' ho' hk e he hb))
      unfold wpOp
      simp only [ho]
      unfold wpOne at hone
      split
      · rename_i hw
        rw [if_pos hw] at hone
        exact .inl hone
      · rename_i hw
        rw [if_neg hw] at hone
        exact hone
end
end Go.Sy
end

section
set_option linter.unusedVariables false
set_option linter.unusedSimpArgs false
namespace Go.Sy
mutual
def V.ren (h : Nat → Option Nat) : V → V
  | .ref i => match h i with
    | some j => .ref j
    | none => .un
  | .sub i a b => match h i with
    | some j => .sub j a b
    | none => .un
  | .ptr i a b => match h i with
    | some j => .ptr j a b
    | none => .un
  | .agg cs => .agg (renL h cs)
  | .tup cs => .tup (renL h cs)
  | .un => .un
  | .int k n => .int k n
  | .bool b => .bool b
  | .str s => .str s
  | .nil => .nil
  | .sl p es xs => .sl p es xs
  | .own e es xs => .own e es xs
  | .vp p es xs k off => .vp p es xs k off
  | .np => .np
  | .fn f => .fn f
def renL (h : Nat → Option Nat) : List V → List V
  | [] => []
  | x :: l => x.ren h :: renL h l
end
theorem renL_get (h : Nat → Option Nat) : ∀ (l : List V) (j : Nat), (renL h l)[j]? = (l[j]?).map (V.ren h)
  | [], j => by simp [renL]
  | x :: l, 0 => by simp [renL]
  | x :: l, j + 1 => by simp [renL, renL_get h l j]
theorem renL_length (h : Nat → Option Nat) : ∀ (l : List V), (renL h l).length = l.length
  | [] => rfl
  | x :: l => by simp [renL, renL_length h l]
theorem Rep.ren {ρ ρ' : Nat → Option RI} {w : World} {I J : Nat → Prop} {h : Nat → Option Nat} (hh : ∀ i j r, h i = some j → ρ i = some r → ρ' j = some r) {v : Value} {x : V} (a : Rep ρ w I J v x) : Rep ρ' w I J v (x.ren h) := by
  induction a with
  | g a => cases a <;> simp only [V.ren] <;> refine .g ?_
           · exact .un _
           · exact .int _ _
           · exact .bool _
           · exact .str _
           · exact .nil
           · exact .slE _ _ _ _
           · exact .sl _ _ _ _ _ _ _ ‹_› ‹_› ‹_› ‹_› ‹_› ‹_› ‹_› ‹_› ‹_›
           · exact .vp _ _ _ _ _ _ _ ‹_› ‹_› ‹_› ‹_› ‹_› ‹_›
           · exact .np
           · exact .fn _
  | agg a cs hn _ ih =>
    simp only [V.ren]
    refine .agg a _ (by rw [renL_length]; exact hn) (fun j x hx => ?_)
    rw [renL_get, Option.map_eq_some_iff] at hx
    obtain ⟨y, hy, rfl⟩ := hx
    exact ih j y hy
  | tup a cs hn _ ih =>
    simp only [V.ren]
    refine .tup a _ (by rw [renL_length]; exact hn) (fun j x hx => ?_)
    rw [renL_get, Option.map_eq_some_iff] at hx
    obtain ⟨y, hy, rfl⟩ := hx
    exact ih j y hy
  | ref i r v h1 h2 =>
    simp only [V.ren]
    split
    · rename_i j hj
      exact .ref j r v (hh i j r hj h1) h2
    · exact .g (.un _)
  | sub i off len r v h1 h2 =>
    simp only [V.ren]
    split
    · rename_i j hj
      exact .sub j off len r v (hh i j r hj h1) h2
    · exact .g (.un _)
  | ptr i k off r g h1 h2 =>
    simp only [V.ren]
    split
    · rename_i j hj
      exact .ptr j k off r g (hh i j r hj h1) h2
    · exact .g (.un _)
section
variable {ρ : Nat → Option RI} {w : World} {I J : Nat → Prop} {v : Value}
theorem Rep.inv_bool {b : Bool} (h : Rep ρ w I J v (.bool b)) : v = .bool b := by
  cases h with
  | g h => cases h; rfl
theorem Rep.inv_int {k : IntKind} {n : Int} (h : Rep ρ w I J v (.int k n)) : v = .int k n := by
  cases h with
  | g h => cases h; rfl
theorem Rep.inv_str {s : ByteArray} (h : Rep ρ w I J v (.str s)) : v = .string s := by
  cases h with
  | g h => cases h; rfl
theorem Rep.inv_nil (h : Rep ρ w I J v .nil) : v = .slice none 0 0 := by
  cases h with
  | g h => cases h; rfl
theorem Rep.inv_ptr {i k off : Nat} (h : Rep ρ w I J v (.ptr i k off)) : ∃ r g, ρ i = some r ∧ r.g = some g ∧ v = .pointer (some ⟨g, k * r.es + off, none⟩) := by
  cases h with
  | g h => cases h
  | ptr _ _ _ r g h1 h2 => exact ⟨r, g, h1, h2, rfl⟩
theorem Rep.inv_ref {i : Nat} (h : Rep ρ w I J v (.ref i)) : ∃ r, ρ i = some r ∧ r.sl v := by
  cases h with
  | g h => cases h
  | ref _ r _ h1 h2 => exact ⟨r, h1, h2⟩
theorem Rep.inv_sub {i off len : Nat} (h : Rep ρ w I J v (.sub i off len)) : ∃ r, ρ i = some r ∧ r.sub off len v := by
  cases h with
  | g h => cases h
  | sub _ _ _ r _ h1 h2 => exact ⟨r, h1, h2⟩
theorem Rep.inv_agg {cs : List V} (h : Rep ρ w I J v (.agg cs)) : ∃ a : Array Value, v = .agg a ∧ a.size = cs.length ∧ ∀ (j : Nat) (x : V), cs[j]? = some x → Rep ρ w I J (a.getD j undef) x := by
  cases h with
  | g h => cases h
  | agg a _ h1 h2 => exact ⟨a, rfl, h1, h2⟩
theorem Rep.inv_tup {cs : List V} (h : Rep ρ w I J v (.tup cs)) : ∃ a : Array Value, v = .tuple a ∧ a.size = cs.length ∧ ∀ (j : Nat) (x : V), cs[j]? = some x → Rep ρ w I J (a.getD j undef) x := by
  cases h with
  | g h => cases h
  | tup a _ h1 h2 => exact ⟨a, rfl, h1, h2⟩
theorem Rep.inv_sl {p : Bool} {es : Nat} {xs : List V} (h : Rep ρ w I J v (.sl p es xs)) : RepG w I J v (.sl p es xs) := by
  cases h with
  | g h => exact h
theorem Rep.inv_vp {p : Bool} {es : Nat} {xs : List V} {k off : Nat} (h : Rep ρ w I J v (.vp p es xs k off)) : RepG w I J v (.vp p es xs k off) := by
  cases h with
  | g h => exact h
end
def renH (h : Nat → Option Nat) : List (Nat × Nat) → List (Nat × Nat)
  | [] => []
  | (off, k) :: l => match h k with
    | some k' => (off, k') :: renH h l
    | none => renH h l
theorem renH_mem {h : Nat → Option Nat} : ∀ {l : List (Nat × Nat)} {q : Nat × Nat}, q ∈ renH h l → ∃ k, (q.1, k) ∈ l ∧ h k = some q.2
  | (off, k) :: l, q, hq => by
    simp only [renH] at hq
    split at hq
    · rename_i k' hk
      rcases List.mem_cons.1 hq with rfl | hq
      · exact ⟨k, List.mem_cons_self, hk⟩
      · obtain ⟨k2, h1, h2⟩ := renH_mem hq
        exact ⟨k2, List.mem_cons_of_mem _ h1, h2⟩
    · obtain ⟨k2, h1, h2⟩ := renH_mem hq
      exact ⟨k2, List.mem_cons_of_mem _ h1, h2⟩
def Ob.ren (h : Nat → Option Nat) : Ob → Ob
  | .box t cs => .box t (renL h cs)
  | .free => .free
  | .dead => .dead
  | .arr e es xs => .arr e es xs
  | .hole e es xs j off k => match h k with
    | some k' => .hole e es xs j off k'
    | none => .arr e es xs
  | .holes e es xs j hs => .holes e es xs j (renH h hs)
  | .raw e l => .raw e l
theorem OwnOb.ren {ρ ρ' : Nat → Option RI} {w : World} {I J : Nat → Prop} {h : Nat → Option Nat} (hh : ∀ i j r, h i = some j → ρ i = some r → ρ' j = some r) {ri : Option RI} {F : Nat → Prop} {x : Ob} (a : OwnOb ρ w I J ri F x) : OwnOb ρ' w I J ri F (x.ren h) := by
  cases x with
  | free => exact a
  | dead => exact a
  | raw e l => exact a
  | arr e es xs => exact a
  | hole e es xs j off k =>
    obtain ⟨r, g, cur, N, h1, h2, h3, h4, h5, h6⟩ := a
    simp only [Ob.ren]
    split
    · rename_i k' hk
      have := h6.ren hh
      simp only [V.ren, hk] at this
      exact ⟨r, g, cur, N, h1, h2, h3, h4, h5, this⟩
    · exact ⟨r, h1, h2, h3, .inr ⟨g, cur, N, h4, h5⟩⟩
  | holes e es xs j hs =>
    obtain ⟨r, g, cur, N, h1, h2, h3, h4, h5, h6⟩ := a
    simp only [Ob.ren]
    refine ⟨r, g, cur, N, h1, h2, h3, h4, h5, fun q hq => ?_⟩
    obtain ⟨k, q1, q2⟩ := renH_mem hq
    have := (h6 _ q1).ren hh
    simp only [V.ren, q2] at this
    exact this
  | box t cs =>
    obtain ⟨r, g, cur, h1, h2, h3, h4, h5, h6⟩ := a
    refine ⟨r, g, cur, h1, h2, h3, by rw [renL_length]; exact h4, fun j x hx => ?_, h6⟩
    rw [renL_get, Option.map_eq_some_iff] at hx
    obtain ⟨y, hy, rfl⟩ := hx
    exact (h5 j y hy).ren hh
def hOf : List (Nat × Nat) → Nat → Option Nat
  | [], _ => none
  | (a, b) :: l, i => if i = a then some b else hOf l i
def gOf : List (Nat × Nat) → Nat → Option Nat
  | [], _ => none
  | (a, b) :: l, j => if j = b then some a else gOf l j
def okL : List (Nat × Nat) → Bool
  | [] => true
  | (a, b) :: l => l.all (fun p => p.1 != a && p.2 != b) && okL l
theorem hOf_mem : ∀ {L : List (Nat × Nat)} {i j : Nat}, hOf L i = some j → (i, j) ∈ L
  | (a, b) :: l, i, j, h => by
    simp only [hOf] at h
    split at h
    · rename_i e; subst e; simp_all
    · exact List.mem_cons_of_mem _ (hOf_mem h)
theorem gOf_mem : ∀ {L : List (Nat × Nat)} {i j : Nat}, gOf L j = some i → (i, j) ∈ L
  | (a, b) :: l, i, j, h => by
    simp only [gOf] at h
    split at h
    · rename_i e; subst e; simp_all
    · exact List.mem_cons_of_mem _ (gOf_mem h)
theorem hOf_of : ∀ {L : List (Nat × Nat)} {i j : Nat}, okL L = true → (i, j) ∈ L → hOf L i = some j
  | (a, b) :: l, i, j, ho, h => by
    simp only [okL, Bool.and_eq_true, List.all_eq_true] at ho
    simp only [hOf]
    rcases List.mem_cons.1 h with h | h
    · simp only [Prod.mk.injEq] at h
      rw [if_pos h.1, h.2]
    · have := ho.1 _ h
      simp only [bne_iff_ne, ne_eq] at this
      rw [if_neg (by simpa using this.1)]
      exact hOf_of ho.2 h
theorem gOf_of : ∀ {L : List (Nat × Nat)} {i j : Nat}, okL L = true → (i, j) ∈ L → gOf L j = some i
  | (a, b) :: l, i, j, ho, h => by
    simp only [okL, Bool.and_eq_true, List.all_eq_true] at ho
    simp only [gOf]
    rcases List.mem_cons.1 h with h | h
    · simp only [Prod.mk.injEq] at h
      rw [if_pos h.2, h.1]
    · have := ho.1 _ h
      simp only [bne_iff_ne, ne_eq] at this
      rw [if_neg (by simpa using this.2)]
      exact gOf_of ho.2 h
def Gh.ren (G : Gh) (L : List (Nat × Nat)) : Gh where
  ρ := fun j => match gOf L j with
    | some i => G.ρ i
    | none => none
  I := G.I
  J := G.J
  F := fun j b => match gOf L j with
    | some i => G.F i b
    | none => False
def obRen (ob : Nat → Ob) (L : List (Nat × Nat)) (j : Nat) : Ob :=
  match gOf L j with
  | some i => (ob i).ren (hOf L)
  | none => .free
theorem Gh.ren_rho {G : Gh} {L : List (Nat × Nat)} (hL : okL L = true) : ∀ i j r, hOf L i = some j → G.ρ i = some r → (G.ren L).ρ j = some r := by
  intro i j r h1 h2
  simp only [Gh.ren, gOf_of hL (hOf_mem h1)]
  exact h2
theorem Hold.ren {G : Gh} {w : World} {ob : Nat → Ob} (H : Hold G w ob) {L : List (Nat × Nat)} (hL : okL L = true) : Hold (G.ren L) w (obRen ob L) where
  ij := H.ij
  lt := H.lt
  own := fun j => by
    show OwnOb (G.ren L).ρ w G.I G.J ((G.ren L).ρ j) ((G.ren L).F j) (obRen ob L j)
    cases hj : gOf L j with
    | none =>
      simp only [Gh.ren, obRen, hj]
      exact ⟨rfl, fun _ h => h⟩
    | some i =>
      have := OwnOb.ren (Gh.ren_rho hL) (H.own i)
      simpa only [Gh.ren, obRen, hj] using this
  flt := fun j b h => by
    simp only [Gh.ren] at h
    split at h
    · exact H.flt _ b h
    · exact h.elim
  fj := fun j b h => by
    simp only [Gh.ren] at h
    split at h
    · exact H.fj _ b h
    · exact h.elim
  dis := fun i j b h1 h2 => by
    simp only [Gh.ren] at h1 h2
    split at h1
    · rename_i a ha
      split at h2
      · rename_i c hc
        have := H.dis a c b h1 h2
        subst this
        have e1 := hOf_of hL (gOf_mem ha)
        have e2 := hOf_of hL (gOf_mem hc)
        rw [e1] at e2
        exact Option.some.inj e2
      · exact h2.elim
    · exact h1.elim
theorem Fr.ren {G0 G : Gh} {w0 w : World} (f : Fr G0 w0 G w) {L : List (Nat × Nat)} {m : Nat} (hm : ∀ i, m ≤ i → G0.ρ i = none) (hL : ∀ i, i < m → gOf L i = some i) : Fr G0 w0 (G.ren L) w where
  os := f.os
  tape := f.tape
  output := f.output
  sz := f.sz
  blk := f.blk
  rho := fun i r h => by
    have hi : i < m := by
      rcases Nat.lt_or_ge i m with h' | h'
      · exact h'
      · rw [hm i h'] at h; cases h
    simp only [Gh.ren, hL i hi]
    exact f.rho i r h
  I := f.I
  J := f.J
  In := f.In
  Jn := f.Jn
  F := fun j b h => by
    simp only [Gh.ren] at h
    split at h
    · exact f.F _ b h
    · exact h.elim
def Sub (N : Cx) (σ σ1 : Sg) : Prop := ∀ G0 w0 a w, St G0 w0 N σ a w → St G0 w0 N σ1 a w
def lkO : List (Nat × Ob) → Nat → Ob
  | [], _ => .free
  | (k, x) :: l, i => if i = k then x else lkO l i
def lkT : List V → Nat → V
  | [], _ => .un
  | x :: _, 0 => x
  | _ :: l, n + 1 => lkT l n
def mk (tl : List V) (ol : List (Nat × Ob)) : Sg := ⟨lkT tl, lkO ol⟩
def keepT (σ : Sg) (h : Nat → Option Nat) : Nat → List Bool → List V
  | _, [] => []
  | k, b :: l => (match b with
    | true => (σ.tm k).ren h
    | false => .un) :: keepT σ h (k + 1) l
def keepO (σ : Sg) (h : Nat → Option Nat) : List (Nat × Nat) → List (Nat × Ob)
  | [] => []
  | (i, j) :: l => (j, (σ.ob i).ren h) :: keepO σ h l
theorem lkT_keep (σ : Sg) (h : Nat → Option Nat) : ∀ (mask : List Bool) (k t : Nat), lkT (keepT σ h k mask) t = .un ∨ lkT (keepT σ h k mask) t = (σ.tm (k + t)).ren h
  | [], k, t => .inl rfl
  | b :: l, k, 0 => by cases b <;> simp [keepT, lkT]
  | b :: l, k, t + 1 => by
    have := lkT_keep σ h l (k + 1) t
    rwa [Nat.add_assoc, Nat.add_comm 1 t] at this
theorem lkO_keep (σ : Sg) (h : Nat → Option Nat) (ob : Nat → Ob) : ∀ (L : List (Nat × Nat)) (j : Nat), lkO (keepO σ h L) j = match gOf L j with
    | some i => (σ.ob i).ren h
    | none => .free
  | [], j => rfl
  | (a, b) :: l, j => by
    simp only [keepO, lkO, gOf]
    split
    · simp
    · exact lkO_keep σ h ob l j
def fixes (m : Nat) (L : List (Nat × Nat)) : Bool := (List.range m).all fun i => gOf L i == some i
theorem Sub.of {N : Cx} {σ : Sg} (L : List (Nat × Nat)) (mask : List Bool) (tl : List V) (ol : List (Nat × Ob)) (hL : (okL L && fixes N.m L) = true) (ht : tl = keepT σ (hOf L) 0 mask) (ho : ol = keepO σ (hOf L) L) : Sub N σ (mk tl ol) := by
  intro G0 w0 a w h
  obtain ⟨G, H, ht', h1, h2, h3, h4⟩ := h
  simp only [Bool.and_eq_true, fixes, List.all_eq_true, List.mem_range, beq_iff_eq] at hL
  refine ⟨G.ren L, ?_, fun t => ?_, h1, h2, h3.ren h4.1 hL.2, h4⟩
  · have : (mk tl ol).ob = obRen σ.ob L := by
      funext j
      simp only [mk, ho, obRen]
      exact lkO_keep σ _ σ.ob L j
    rw [this]
    exact H.ren hL.1
  · show (G.ren L).Rep w _ (lkT tl t)
    rw [ht]
    rcases lkT_keep σ (hOf L) mask 0 t with h | h
    · rw [h]; exact .g (.un _)
    · rw [h, Nat.zero_add]
      exact Rep.ren (Gh.ren_rho hL.1) (ht' t)
theorem Sub.refl (N : Cx) (σ : Sg) : Sub N σ σ := fun _ _ _ _ h => h
theorem Sub.trans {N : Cx} {σ σ1 σ2 : Sg} (a : Sub N σ σ1) (b : Sub N σ1 σ2) : Sub N σ σ2 := fun _ _ _ _ h => b _ _ _ _ (a _ _ _ _ h)
theorem St.same {G0 : Gh} {w0 : World} {N : Cx} {σ : Sg} {a : Act} {w w' : World} (s : SameW w w') (h : St G0 w0 N σ a w) : St G0 w0 N σ a w' := by
  obtain ⟨G, H, ht, h1, h2, h3, h4⟩ := h
  obtain ⟨s1, s2, s3, s4⟩ := s
  have f : Fr G w G w' := ⟨s2, s3, s4, by rw [s1]; exact Nat.le_refl _, fun b _ _ => by rw [s1], fun _ _ h => h, fun _ h => h, fun _ h => h, fun _ h => .inl h, fun _ h => .inl h, fun i b h => .inl ⟨i, h⟩⟩
  refine ⟨G, ⟨H.ij, fun b h => by rw [s1]; exact H.lt b h, fun i => OwnOb.lift (H.frG f) (fun v x h => Gh.Rep.fr H f h) (H.own i) (fun b _ => by rw [s1]), fun i b h => by rw [s1]; exact H.flt i b h, H.fj, H.dis⟩, fun t => Gh.Rep.fr H f (ht t), h1, h2, h3.trans f, h4⟩
def AW (P : Program) (N : Cx) (c : Code) (σ : Sg) (K : Exit → Sg → Prop) : Prop :=
  ∀ G0 w0 a w, St G0 w0 N σ a w → c.wp P (fun e a' w' => ∃ σ', K e σ' ∧ St G0 w0 N σ' a' w') a w
def thenK (K1 : Sg → Prop) (K : Exit → Sg → Prop) : Exit → Sg → Prop
  | .normal, σ => K1 σ
  | e, σ => K e σ
def blockK (id : Nat) (K : Exit → Sg → Prop) : Exit → Sg → Prop
  | .exit j, σ => if j = id then K .normal σ else K (.exit j) σ
  | e, σ => K e σ
def toV : Value → V
  | .int k n => .int k n
  | .bool b => .bool b
  | .string s => .str s
  | .slice none 0 0 => .nil
  | .pointer none => .np
  | .func (.func f) a b => if a.size = 0 ∧ b.size = 0 then .fn f else .un
  | _ => .un
theorem toV_rep (G : Gh) (w : World) (v : Value) : G.Rep w v (toV v) := by
  unfold toV
  split
  · exact .g (.int _ _)
  · exact .g (.bool _)
  · exact .g (.str _)
  · exact .g .nil
  · exact .g .np
  · rename_i f a b
    split
    · rename_i h
      obtain rfl : a = #[] := Array.eq_empty_of_size_eq_zero h.1
      obtain rfl : b = #[] := Array.eq_empty_of_size_eq_zero h.2
      exact .g (.fn f)
    · exact .g (.un _)
  · exact .g (.un _)
def Sg.ev (σ : Sg) : Operand → V
  | .tmp t => σ.tm t
  | .const v => toV v
  | .func f => .fn f
  | .global _ => .un
section
variable {P : Program} {N : Cx}
theorem St.ev {G0 : Gh} {w0 : World} {σ : Sg} {a : Act} {w : World} {G : Gh} (ht : ∀ t, G.Rep w (a.tmps.getD t undef) (σ.tm t)) (x : Operand) : G.Rep w (a.eval x) (σ.ev x) := by
  cases x with
  | tmp t => exact ht t
  | const v => exact toV_rep G w v
  | func f => exact .g (.fn f)
  | global g => exact .g (.un _)
theorem AW.mono {c : Code} {σ : Sg} {K K' : Exit → Sg → Prop} (h : AW P N c σ K) (hk : ∀ e σ, K e σ → K' e σ) : AW P N c σ K' :=
  fun G0 w0 a w s => wp_mono (h G0 w0 a w s) fun e a' w' ⟨σ', h1, h2⟩ => ⟨σ', hk _ _ h1, h2⟩
theorem AW.weak {c : Code} {σ σ1 : Sg} {K : Exit → Sg → Prop} (h : Sub N σ σ1) (k : AW P N c σ1 K) : AW P N c σ K :=
  fun G0 w0 a w s => k G0 w0 a w (h G0 w0 a w s)
theorem AW.skip {σ : Sg} {K : Exit → Sg → Prop} (h : K .normal σ) : AW P N .skip σ K := fun G0 w0 a w s => wp_skip ⟨σ, h, s⟩
theorem AW.ret {σ : Sg} {K : Exit → Sg → Prop} (h : K .ret σ) : AW P N .ret σ K := fun G0 w0 a w s => wp_ret ⟨σ, h, s⟩
theorem AW.exit {σ : Sg} {K : Exit → Sg → Prop} {id : Nat} (h : K (.exit id) σ) : AW P N (.exit id) σ K := fun G0 w0 a w s => wp_exit ⟨σ, h, s⟩
theorem AW.seq {x y : Code} {σ : Sg} {K : Exit → Sg → Prop} (h : AW P N x σ (thenK (fun σ' => AW P N y σ' K) K)) : AW P N (.seq x y) σ K := by
  intro G0 w0 a w s
  refine wp_seq (wp_mono (h G0 w0 a w s) ?_)
  rintro e a' w' ⟨σ', h1, h2⟩
  cases e with
  | normal => exact h1 G0 w0 a' w' h2
  | _ => exact ⟨σ', h1, h2⟩
theorem AW.cond {c : Operand} {x y : Code} {σ : Sg} {K : Exit → Sg → Prop} (b : Bool) (hc : σ.ev c = .bool b) (h1 : b = true → AW P N x σ K) (h2 : b = false → AW P N y σ K) : AW P N (.cond c x y) σ K := by
  intro G0 w0 a w s
  obtain ⟨G, H, ht, _⟩ := id s
  have he := St.ev (G0 := G0) (w0 := w0) ht c
  rw [hc] at he
  have he' : a.eval c = .bool b := Rep.inv_bool he
  exact wp_cond_split he' (fun hb => h1 hb G0 w0 a w s) (fun hb => h2 hb G0 w0 a w s)
theorem AW.block {id : Nat} {c : Code} {σ : Sg} {K : Exit → Sg → Prop} (h : AW P N c σ (blockK id K)) : AW P N (.block id c) σ K := by
  intro G0 w0 a w s
  refine wp_block (wp_mono (h G0 w0 a w s) ?_)
  rintro e a' w' ⟨σ', h1, h2⟩
  cases e with
  | exit j =>
    simp only [Exit.inBlock, blockK] at h1 ⊢
    split
    · rename_i h; rw [if_pos h] at h1; exact ⟨σ', h1, h2⟩
    · rename_i h; rw [if_neg h] at h1; exact ⟨σ', h1, h2⟩
  | _ => exact ⟨σ', h1, h2⟩
theorem wp_loop_ix {Q : Exit → Act → World → Prop} {c : Code} {β : Type} (R : β → Act → World → Prop) (m : β → Nat)
    (round : ∀ x a w, R x a w → c.wp P (Exit.then (fun a' w' => ∃ y, R y a' w' ∧ m y < m x) Q) a w) (x : β) (a : Act) (w : World) (h0 : R x a w) : (Code.loop c).wp P Q a w := by
  intro b k cs
  have key : ∀ n x a w, m x = n → R x a w → ∃ e a' w', Q e a' w' ∧ Arrives P (lone (b.at a (.code c :: .inLoop c :: k)) cs w) b k cs e a' w' := by
    intro n
    induction n using Nat.strongRecOn with
    | _ n ih =>
      intro x a w hn hI
      obtain ⟨e, a₁, w₁, hq, harr⟩ := round x a w hI b (.inLoop c :: k) cs
      cases e with
      | normal =>
        obtain ⟨y, hI₁, hlt⟩ := hq
        obtain ⟨e₂, a₂, w₂, hq₂, harr₂⟩ := ih (m y) (hn ▸ hlt) y a₁ w₁ rfl hI₁
        exact ⟨e₂, a₂, w₂, hq₂, .of_steps (Steps.trans harr (.one step_inLoop)) harr₂⟩
      | exit id => exact ⟨_, a₁, w₁, hq, .pass (x := .inLoop c) rfl (fun _ _ => .inl (by simp)) harr⟩
      | goto l => exact ⟨_, a₁, w₁, hq, .pass (x := .inLoop c) rfl (fun _ _ => .inl (by simp)) harr⟩
      | ret => exact ⟨_, a₁, w₁, hq, .pass (x := .inLoop c) rfl (fun _ _ => .inl (by simp)) harr⟩
      | panic ch => exact ⟨_, a₁, w₁, hq, .pass (x := .inLoop c) rfl (fun _ _ => .inl (by simp)) harr⟩
      | outgrown => exact ⟨_, a₁, w₁, hq, .pass (x := .inLoop c) rfl (fun _ _ => .inl (by simp)) harr⟩
  obtain ⟨e, a', w', hq, harr⟩ := key _ x a w rfl h0
  exact ⟨e, a', w', hq, .of_steps (.one step_loop) harr⟩
theorem AW.loop {c : Code} {K : Exit → Sg → Prop} {β : Type} (S : β → Sg) (R : β → Prop) (m : β → Nat) (x : β) (hx : R x)
    (round : ∀ x, R x → AW P N c (S x) (thenK (fun σ' => ∃ y, R y ∧ m y < m x ∧ Sub N σ' (S y)) K)) : AW P N (.loop c) (S x) K := by
  intro G0 w0 a w s
  refine wp_loop_ix (fun x a w => R x ∧ St G0 w0 N (S x) a w) m ?_ x a w ⟨hx, s⟩
  rintro y a1 w1 ⟨hy, sy⟩
  refine wp_mono (round y hy G0 w0 a1 w1 sy) ?_
  rintro e a' w' ⟨σ', h1, h2⟩
  cases e with
  | normal =>
    obtain ⟨z, hz, hm, hsub⟩ := h1
    exact ⟨z, ⟨hz, hsub G0 w0 a' w' h2⟩, hm⟩
  | _ => exact ⟨σ', h1, h2⟩
def All2 (P : Program) (N : Cx) (ops : Array Oper) : List Oper → List Tr → Prop
  | [], [] => True
  | o :: l, t :: k => TrOk P N ops o t ∧ All2 P N ops l k
  | _, _ => False
theorem All2.get {ops : Array Oper} : ∀ {l : List Oper} {k : List Tr}, All2 P N ops l k → ∀ (i : Nat) (o : Oper), l[i]? = some o → ∃ t, k[i]? = some t ∧ TrOk P N ops o t
  | o :: l, t :: k, h, 0, o', ho => by
    simp only [List.getElem?_cons_zero, Option.some.injEq] at ho
    subst ho
    exact ⟨t, rfl, h.1⟩
  | o :: l, t :: k, h, i + 1, o', ho => by
    simp only [List.getElem?_cons_succ] at ho ⊢
    exact All2.get h.2 i o' ho
  | [], _, _, i, o', ho => by simp at ho
  | _ :: _, [], h, i, o', ho => h.elim
theorem All2.length {ops : Array Oper} : ∀ {l : List Oper} {k : List Tr}, All2 P N ops l k → l.length = k.length
  | [], [], _ => rfl
  | o :: l, t :: k, h => by simp [All2.length h.2]
  | [], _ :: _, h => h.elim
  | _ :: _, [], h => h.elim
def Run (P : Program) (N : Cx) (ops : Array Oper) (l : List Oper) (σ : Sg) (K : List Tr → Sg → Prop) : Prop := ∃ trs σ', All2 P N ops l trs ∧ chain σ trs σ' ∧ K trs σ'
theorem Run.nil {ops : Array Oper} {σ : Sg} {K : List Tr → Sg → Prop} (h : K [] σ) : Run P N ops [] σ K := ⟨[], σ, trivial, rfl, h⟩
theorem Run.cons {ops : Array Oper} {o : Oper} {l : List Oper} {σ : Sg} {K : List Tr → Sg → Prop} (tr : Tr) (h : TrOk P N ops o tr) (hp : σ.has tr.pre) (k : Run P N ops l (σ.puts tr.post) (fun trs σ' => K (tr :: trs) σ')) : Run P N ops (o :: l) σ K := by
  obtain ⟨trs, σ', h1, h2, h3⟩ := k
  exact ⟨tr :: trs, σ', ⟨h, h1⟩, ⟨hp, h2⟩, h3⟩
theorem wpOps_of {ops : Array Oper} {G0 : Gh} {w0 : World} {σ' : Sg} {Q : Exit → Act → World → Prop} (hQ : ∀ a w, St G0 w0 N σ' a w → Q .normal a w) :
    ∀ (l : List Oper) (trs : List Tr) (k : Nat) (σ : Sg) (a : Act) (w : World), (∀ i, l[i]? = ops[k + i]?) → All2 P N ops l trs → chain σ trs σ' → St G0 w0 N σ a w → wpOps P ops Q (List.range' k l.length) a w
  | [], [], k, σ, a, w, hl, h1, h2, s => by
    have : σ = σ' := h2
    subst this
    exact hQ a w s
  | o :: l, t :: trs, k, σ, a, w, hl, h1, h2, s => by
    simp only [List.length_cons, List.range'_succ]
    have ho : ops[k]? = some o := by
      have := hl 0
      simpa using this.symm
    rw [wpOps_cons]
    have hone := h1.1 G0 w0 σ a w s h2.1 Q (wpOps P ops Q (List.range' (k + 1) l.length)) (fun a' w' s' => wpOps_of hQ l trs (k + 1) _ a' w' (fun i => by
      have := hl (i + 1)
      simp only [List.getElem?_cons_succ] at this
      rw [this]; congr 1; omega) h1.2 h2.2 s')
    unfold wpOp
    simp only [ho]
    unfold wpOne at hone
    split
    · rename_i hw
      rw [if_pos hw] at hone
      exact .inl hone
    · rename_i hw
      rw [if_neg hw] at hone
      exact hone
  | [], _ :: _, _, _, _, _, _, h, _, _ => h.elim
  | _ :: _, [], _, _, _, _, _, h, _, _ => h.elim
theorem AW.region {id : Nat} {ops : Array Oper} {σ : Sg} {K : Exit → Sg → Prop} (h : Run P N ops ops.toList σ (fun _ σ' => K .normal σ')) : AW P N (.region id ops false) σ K := by
  obtain ⟨trs, σ', h1, h2, h3⟩ := h
  intro G0 w0 a w s
  refine wp_region ?_
  have := wpOps_of (P := P) (Q := fun e a' w' => ∃ σ', K e σ' ∧ St G0 w0 N σ' a' w') (fun a w s => ⟨σ', h3, s⟩) ops.toList trs 0 σ a w (by intro i; simp) h1 h2 s
  rwa [Array.length_toList, ← List.range_eq_range'] at this
theorem tab_all {ops : List Oper} (h : edgesOk 0 ops = true) : Tab ops (befores #[] ops) := by
  refine tab_befores ops (fun o ho => ?_) ops [] #[] rfl rfl (fun i j hb => by simp at hb)
  obtain ⟨i, hi⟩ := List.getElem?_of_mem ho
  have h1 := edgesOk_at ops 0 h i o hi
  have h2 := (List.getElem?_eq_some_iff.1 hi).1
  exact edgesIn_mono (by omega) h1
theorem AW.regionD {id : Nat} {ops : Array Oper} {σ : Sg} {K : Exit → Sg → Prop} (hm : P.follows .mixedOrders = true) (h : Run P N ops ops.toList σ (fun trs σ' => chk ops.toList trs = true ∧ K .normal σ')) : AW P N (.region id ops true) σ K := by
  obtain ⟨trs, σ', h1, h2, h4, h3⟩ := h
  intro G0 w0 a w s
  refine wp_region_any hm ?_
  simp only [chk, Bool.and_eq_true] at h4
  have hT := tab_all h4.1
  have hlen : ops.size = trs.length := by rw [← Array.length_toList]; exact h1.length
  have hnum : ∀ (i : Nat) (x : Nat × Tr), (number 0 trs)[i]? = some x → x.1 = i ∧ trs[i]? = some x.2 := by
    intro i x hx
    rw [number_get] at hx
    obtain ⟨t, ht, rfl⟩ := Option.map_eq_some_iff.1 hx
    exact ⟨by simp, ht⟩
  refine wpAny_of (P := P) (T := befores #[] ops.toList) (N := N) (σ' := σ') (G0 := G0) (w0 := w0) hT (fun i o ho => ?_) (fun a w s => ⟨σ', h3, s⟩) ops.size (Array.replicate ops.size false) (number 0 trs) σ a _ (by simp) (fun j hj => ?_) (fun x hx => ?_) (number_asc trs 0) ?_ (fun i o ho hl => ?_) ?_ (by rw [number_snd]; exact h2) (St.same (w := w) ⟨rfl, rfl, rfl, rfl⟩ s)
  · have := edgesOk_at ops.toList 0 h4.1 i o (by simpa using ho)
    rwa [Nat.zero_add] at this
  · refine ⟨fun _ => ?_, fun _ => by simp [Array.getD, hj]⟩
    have hj' : j < trs.length := by omega
    refine ⟨trs[j], List.mem_of_getElem? (i := j) ?_⟩
    rw [number_get, List.getElem?_eq_getElem hj']
    simp
  · obtain ⟨i, hi⟩ := List.getElem?_of_mem hx
    obtain ⟨e1, e2⟩ := hnum i x hi
    have hi2 : i < ops.toList.length := by
      have := (List.getElem?_eq_some_iff.1 e2).1
      rw [Array.length_toList]; omega
    obtain ⟨t, ht, hok⟩ := h1.get i _ (List.getElem?_eq_getElem hi2)
    rw [e2] at ht
    have : x.2 = t := Option.some.inj ht
    rw [this]
    refine ⟨ops.toList[i], ?_, hok⟩
    rw [e1]
    simp [List.getElem?_eq_getElem, Array.getElem?_eq_getElem (show i < ops.size by rw [← Array.length_toList]; exact hi2)]
  · have := (chkGo_pw (befores #[] ops.toList).toList (number 0 trs) (befores #[] ops.toList).toList [] 0 (by intro i; simp) (fun i x hx => by rw [(hnum i x hx).1]; omega) h4.2).1
    refine this.imp (fun {x y} h => ?_)
    rcases h with h | h
    · left
      simpa [List.getD_eq_getElem?_getD, Array.getD_eq_getD_getElem?] using h
    · exact .inr h
  · exfalso
    have hlt : i < ops.size := (Array.getElem?_eq_some_iff.1 ho).1
    simp [Array.getD, hlt] at hl
  · have : (number 0 trs).length = trs.length := by
      have := congrArg List.length (number_snd trs 0)
      simpa using this
    omega
end
end Go.Sy
end

section
set_option linter.unusedVariables false
set_option linter.unusedSimpArgs false
namespace Go.Sy
section
variable (P : Program) (N : Cx) (ops : Array Oper)
def CoreOk (o : Oper) (pre post : List W) : Prop :=
  ∀ G0 w0 σ a w, St G0 w0 N σ a w → σ.has pre → ∀ Q K, (∀ a' w', St G0 w0 N (σ.puts post) a' w' → K a' w') → o.wp P a w K Q
def guardPre (o : Oper) : Option (List W) :=
  match o.guard with
  | none => some []
  | some (j, b) => match ((ops[j]?).bind (·.dst) : Option Tmp) with
    | some t => some [.t t (.bool b)]
    | none => none
end
section
variable {P : Program} {N : Cx} {ops : Array Oper}
theorem has_append {σ : Sg} : ∀ {a b : List W}, σ.has (a ++ b) ↔ σ.has a ∧ σ.has b
  | [], b => by simp [Sg.has]
  | x :: a, b => by simp [Sg.has, has_append (a := a), and_assoc]
theorem puts_append : ∀ (a b : List W) (σ : Sg), σ.puts (a ++ b) = (σ.puts a).puts b
  | [], b, σ => rfl
  | x :: a, b, σ => by simp [Sg.puts, puts_append a b]
theorem getD_set (x : Array Value) (d t : Nat) (v e : Value) (h : d < x.size) : (x.setIfInBounds d v).getD t e = if t = d then v else x.getD t e := by
  simp only [Array.getD_eq_getD_getElem?, Array.getElem?_setIfInBounds]
  by_cases ht : t = d
  · subst ht; simp [h]
  · simp [ht, Ne.symm ht]
theorem guard_wanted {o : Oper} {gp : List W} (hg : guardPre ops o = some gp) {G : Gh} {w : World} {σ : Sg} {a : Act} (ht : ∀ t, G.Rep w (a.tmps.getD t undef) (σ.tm t)) (hp : σ.has gp) : Region.wanted o (yielded ops a.tmps) = true := by
  unfold guardPre at hg
  unfold Region.wanted
  split at hg
  · rename_i h; rw [h]
  · rename_i j b h
    rw [h]
    split at hg
    · rename_i t hd
      obtain rfl := Option.some.inj hg
      have h1 : σ.tm t = .bool b := hp.1
      have h2 := ht t
      rw [h1] at h2
      have h3 := Rep.inv_bool h2
      have h4 : a.tmps[t]? = some (.bool b) := by
        rw [Array.getD_eq_getD_getElem?] at h3
        cases hq : a.tmps[t]? with
        | none => rw [hq] at h3; simp [undef] at h3
        | some u => rw [hq] at h3; simp at h3; rw [h3]
      simp [yielded, hd, h4]
    · cases hg
theorem TrOk.of {o : Oper} {gp pre post : List W} (hg : guardPre ops o = some gp) (h : CoreOk P N o pre post) : TrOk P N ops o ⟨gp ++ pre, post⟩ := by
  intro G0 w0 σ a w s hp Q K hK
  obtain ⟨hp1, hp2⟩ := has_append.1 hp
  unfold wpOne
  obtain ⟨G, H, ht, h1⟩ := id s
  rw [if_pos (guard_wanted hg ht hp1)]
  exact h G0 w0 σ a w s hp2 Q K hK
theorem TrOk.skip {o : Oper} {j : Nat} {b : Bool} {t d : Nat} (v : V) (hg : o.guard = some (j, b)) (hj : (ops[j]?).bind (·.dst) = some t) (hv : v = .bool (!b) ∨ v = .tup []) (hd : o.dst = some d) (hn : d < N.n) : TrOk P N ops o ⟨[.t t v], [.t d (.tup [])]⟩ := by
  intro G0 w0 σ a w s hp Q K hK
  obtain ⟨G, H, ht, h1, h2, h3, h4⟩ := id s
  have hw : Region.wanted o (yielded ops a.tmps) = false := by
    unfold Region.wanted
    rw [hg]
    have e1 : σ.tm t = v := hp.1
    have e2 := ht t
    rw [e1] at e2
    have e3 : a.tmps.getD t undef = .bool (!b) ∨ a.tmps.getD t undef = .tuple #[] := by
      rcases hv with rfl | rfl
      · exact .inl (Rep.inv_bool e2)
      · obtain ⟨u, e, hs, _⟩ := Rep.inv_tup e2
        obtain rfl : u = #[] := Array.eq_empty_of_size_eq_zero (by simpa using hs)
        exact .inr e
    simp only [yielded, hj, Option.bind_some]
    rw [Array.getD_eq_getD_getElem?] at e3
    cases hq : a.tmps[t]? with
    | none => simp
    | some u =>
      rw [hq] at e3
      simp only [Option.getD_some] at e3
      rcases e3 with rfl | rfl
      · cases b <;> simp
      · simp
  unfold wpOne
  rw [hw]
  refine hK _ _ ⟨G, H, fun k => ?_, ?_, ?_, h3, h4⟩
  · simp only [Act.put, hd]
    rw [getD_set _ _ _ _ _ (by rw [h1]; exact hn)]
    show G.Rep w _ (if k = d then _ else _)
    split
    · exact .tup #[] [] rfl (fun j x hx => by simp at hx)
    · exact ht k
  · simp [Act.put, hd, h1]
  · simp [Act.put, hd, h2]
theorem eff_ok {o : Oper} {pre wo : List W} {d : Nat} {x : V} (hd : o.dst = some d) (hn : d < N.n) (hwo : ∀ y ∈ wo, ∃ k z, y = W.o k z)
    (h : ∀ (G : Gh) (w : World) (σ : Sg) (a : Act), Hold G w σ.ob → (∀ t, G.Rep w (a.tmps.getD t undef) (σ.tm t)) → (∀ y, G.Rep w (a.eval y) (σ.ev y)) → σ.has pre → ∃ v w' G', (execOp a.eval o).run P w = .ok (.value v) w' ∧ Hold G' w' (σ.puts wo).ob ∧ Fr G w G' w' ∧ G'.Rep w' v x) : CoreOk P N o pre (wo ++ [.t d x]) := by
  intro G0 w0 σ a w s hp Q K hK
  obtain ⟨G, H, ht, h1, h2, h3, h4⟩ := s
  obtain ⟨v, w', G', e, H', f, hr⟩ := h G w σ a H ht (fun y => St.ev (G0 := G0) (w0 := w0) ht y) hp
  unfold Oper.wp
  rw [e]
  refine hK _ _ ?_
  have htm : (σ.puts wo).tm = σ.tm := by
    clear H' h hp H ht hK
    induction wo generalizing σ with
    | nil => rfl
    | cons y l ih =>
      obtain ⟨k, z, rfl⟩ := hwo _ List.mem_cons_self
      simp only [Sg.puts]
      rw [ih (fun y hy => hwo y (List.mem_cons_of_mem _ hy))]
      rfl
  rw [puts_append]
  refine ⟨G', H', fun k => ?_, ?_, ?_, h3.trans f, h4⟩
  · simp only [Act.put, hd]
    rw [getD_set _ _ _ _ _ (by rw [h1]; exact hn)]
    show G'.Rep w' _ (if k = d then _ else (σ.puts wo).tm k)
    split
    · exact hr
    · rw [htm]; exact (ht k).fr H f
  · simp [Act.put, hd, h1]
  · simp [Act.put, hd, h2]
theorem val_ok {o : Oper} {pre : List W} {d : Nat} {x : V} (hd : o.dst = some d) (hn : d < N.n)
    (h : ∀ (G : Gh) (w : World) (σ : Sg) (a : Act), Hold G w σ.ob → (∀ y, G.Rep w (a.eval y) (σ.ev y)) → σ.has pre → ∃ v, (execOp a.eval o).run P w = .ok (.value v) w ∧ G.Rep w v x) : CoreOk P N o pre [.t d x] :=
  eff_ok (wo := []) hd hn (fun _ h => by simp at h) fun G w σ a H _ he hp =>
    let ⟨v, e, r⟩ := h G w σ a H he hp
    ⟨v, w, G, e, H, Fr.refl G w, r⟩
theorem sto_ok {o : Oper} {pre wo : List W} (hd : o.dst = none) (hwo : ∀ y ∈ wo, ∃ k z, y = W.o k z)
    (h : ∀ (G : Gh) (w : World) (σ : Sg) (a : Act), Hold G w σ.ob → (∀ y, G.Rep w (a.eval y) (σ.ev y)) → σ.has pre → ∃ w' G', (execOp a.eval o).run P w = .ok .skip w' ∧ Hold G' w' (σ.puts wo).ob ∧ Fr G w G' w') : CoreOk P N o pre wo := by
  intro G0 w0 σ a w s hp Q K hK
  obtain ⟨G, H, ht, h1, h2, h3, h4⟩ := s
  obtain ⟨w', G', e, H', f⟩ := h G w σ a H (fun y => St.ev (G0 := G0) (w0 := w0) ht y) hp
  unfold Oper.wp
  rw [e]
  refine hK _ _ ?_
  have htm : (σ.puts wo).tm = σ.tm := by
    clear H' h hp H ht hK
    induction wo generalizing σ with
    | nil => rfl
    | cons y l ih =>
      obtain ⟨k, z, rfl⟩ := hwo _ List.mem_cons_self
      simp only [Sg.puts]
      rw [ih (fun y hy => hwo y (List.mem_cons_of_mem _ hy))]
      rfl
  refine ⟨G', H', fun k => ?_, ?_, ?_, h3.trans f, h4⟩
  · simp only [Act.put, hd]
    rw [htm]; exact (ht k).fr H f
  · simp [Act.put, hd, h1]
  · simp [Act.put, hd, h2]
def opw (x : Operand) (v : V) : List W :=
  match x with
  | .tmp t => [.t t v]
  | _ => []
theorem opw_ev {σ σ' : Sg} {x : Operand} {v : V} (hv : σ.ev x = v) (h : σ'.has (opw x v)) : σ'.ev x = v := by
  subst hv
  cases x with
  | tmp t => exact h.1
  | const v => rfl
  | func f => rfl
  | global g => rfl
theorem opw_has {σ : Sg} {x : Operand} {v : V} (hv : σ.ev x = v) : σ.has (opw x v) := by
  subst hv
  cases x <;> simp [opw, Sg.has, Sg.has1, Sg.ev]
theorem ok_move {o : Oper} {x : Operand} {d : Nat} {σ : Sg} {v : V} (ho : o.op = .move x ∨ o.op = .assign x) (hd : o.dst = some d) (hn : d < N.n) (hv : σ.ev x = v) : CoreOk P N o (opw x v) [.t d v] :=
  val_ok hd hn fun G w σ' a H he hp => ⟨a.eval x, by rcases ho with ho | ho <;> simp [execOp, ho], by have := he x; rwa [opw_ev hv hp] at this⟩
theorem ok_pick {o : Oper} {c x y : Operand} {d : Nat} {σ : Sg} {b : Bool} {v : V} (ho : o.op = .pick c x y) (hd : o.dst = some d) (hn : d < N.n) (hc : σ.ev c = .bool b) (hv : σ.ev (if b = true then x else y) = v) : CoreOk P N o (opw c (.bool b) ++ opw (if b = true then x else y) v) [.t d v] :=
  val_ok hd hn fun G w σ' a H he hp => by
    obtain ⟨hp1, hp2⟩ := has_append.1 hp
    have h1 := he c
    rw [opw_ev hc hp1] at h1
    refine ⟨a.eval (if b = true then x else y), ?_, by have := he (if b = true then x else y); rwa [opw_ev hv hp2] at this⟩
    simp only [execOp, ho, Rep.inv_bool h1, asBool]
    cases b <;> simp
theorem ok_extract {o : Oper} {x : Operand} {d i : Nat} {σ : Sg} {vs : List V} {v : V} (ho : o.op = .extract x i) (hd : o.dst = some d) (hn : d < N.n) (hx : σ.ev x = .tup vs) (hv : vs[i]? = some v) : CoreOk P N o (opw x (.tup vs)) [.t d v] :=
  val_ok hd hn fun G w σ' a H he hp => by
    have h1 := he x
    rw [opw_ev hx hp] at h1
    obtain ⟨t, e, hs, hr⟩ := Rep.inv_tup h1
    have hi : i < t.size := by rw [hs]; exact (List.getElem?_eq_some_iff.1 hv).1
    refine ⟨t.getD i undef, ?_, hr i v hv⟩
    simp [execOp, ho, e, Instr.extract, Array.getD, hi]
theorem ok_not {o : Oper} {x : Operand} {t : TypeId} {d : Nat} {σ : Sg} {b : Bool} (ho : o.op = .unOp .not t x) (hd : o.dst = some d) (hn : d < N.n) (hx : σ.ev x = .bool b) : CoreOk P N o (opw x (.bool b)) [.t d (.bool (!b))] :=
  val_ok hd hn fun G w σ' a H he hp => by
    have h1 := he x
    rw [opw_ev hx hp] at h1
    exact ⟨.bool (!b), by simp [execOp, ho, Rep.inv_bool h1, Op.unary], .g (.bool _)⟩
def isAddr : V → Bool
  | .ptr .. | .vp .. => true
  | _ => false
theorem RepG.inv_vp {w : World} {I J : Nat → Prop} {v : Value} {p : Bool} {es : Nat} {xs : List V} {k off : Nat} (h : RepG w I J v (.vp p es xs k off)) : ∃ ad : Addr, v = .pointer (some (ad.add (k * es + off))) ∧ ∀ k' off', RepG w I J (.pointer (some (ad.add (k' * es + off')))) (.vp p es xs k' off') := by
  cases h with
  | vp ad _ _ _ _ _ u hp hl hu ho hq hr => exact ⟨ad, rfl, fun k' off' => .vp ad p es xs k' off' u hp hl hu ho hq hr⟩
theorem ok_nilCheck {o : Oper} {x : Operand} {d : Nat} {σ : Sg} {v : V} (ho : o.op = .nilCheck x) (hd : o.dst = some d) (hn : d < N.n) (hx : σ.ev x = v) (hv : isAddr v = true) : CoreOk P N o (opw x v) [.t d v] :=
  val_ok hd hn fun G w σ' a H he hp => by
    have h1 := he x
    rw [opw_ev hx hp] at h1
    have : ∃ ad, a.eval x = .pointer (some ad) := by
      cases v <;> simp [isAddr] at hv
      · obtain ⟨r, g, _, _, e⟩ := Rep.inv_ptr h1
        exact ⟨_, e⟩
      · obtain ⟨ad, e, _⟩ := RepG.inv_vp (Rep.inv_vp h1)
        exact ⟨_, e⟩
    obtain ⟨ad, e⟩ := this
    exact ⟨a.eval x, by simp [execOp, ho, e], h1⟩
def szOf (P : Program) (t : TypeId) : Option Nat := (P.info? t).map (·.size)
def isA (P : Program) (t : TypeId) : Option Bool :=
  match P.underlying t with
  | some (.struct _) | some (.array _ _) => some true
  | some _ => some false
  | none => none
theorem run_sz {t : TypeId} {n : Nat} (h : szOf P t = some n) (w : World) : (sizeOf t).run P w = .ok n w := by
  unfold szOf at h
  obtain ⟨i, h1, h2⟩ := Option.map_eq_some_iff.1 h
  simp [sizeOf, typeInfo, h1, h2]
theorem run_isA {t : TypeId} {b : Bool} (h : isA P t = some b) (w : World) : (isAgg t).run P w = .ok b w := by
  unfold isA at h
  cases hu : P.underlying t with
  | none => simp [hu] at h
  | some d =>
    unfold isAgg
    rw [Sem.run_bind, run_underlying hu w]
    cases d <;> simp_all
def fieldOff (P : Program) (s f : Nat) : Option Nat :=
  match P.underlying s with
  | some (.struct fields) => match (fields[f]? : Option Field) with
    | some fl => match szOf P fl.type with
      | some (n + 1) => some fl.offset
      | _ => none
    | none => none
  | _ => none
theorem run_field {s f off : Nat} (h : fieldOff P s f = some off) (w : World) (ad : Addr) : (Instr.fieldAt s (.pointer (some ad)) f).run P w = .ok (.pointer (some (ad.add off))) w := by
  unfold fieldOff at h
  split at h
  · rename_i fields hu
    split at h
    · rename_i fl hf
      split at h
      · rename_i n hs
        obtain rfl := Option.some.inj h
        simp [Instr.fieldAt, run_underlying hu, hf, Instr.sureAddr, fieldPlace, run_sz hs]
      · cases h
    · cases h
  · cases h
theorem add_lit (g o n : Nat) : (⟨g, o, none⟩ : Addr).add n = ⟨g, o + n, none⟩ := by unfold Addr.add; split <;> simp_all
theorem add_add (ad : Addr) (a b : Nat) : (ad.add a).add b = ad.add (a + b) := by
  unfold Addr.add
  by_cases h1 : a = 0 <;> by_cases h2 : b = 0 <;> simp [h1, h2, Nat.add_assoc]
def fieldV : V → Nat → Option V
  | .ptr i k o, off => some (.ptr i k (o + off))
  | .vp p es xs k o, off => some (.vp p es xs k (o + off))
  | _, _ => none
theorem ok_field {o : Oper} {x : Operand} {s f d off : Nat} {σ : Sg} {v v' : V} (ho : o.op = .fieldAddr s x f) (hd : o.dst = some d) (hn : d < N.n) (hx : σ.ev x = v) (hf : fieldOff P s f = some off) (hv : fieldV v off = some v') : CoreOk P N o (opw x v) [.t d v'] :=
  val_ok hd hn fun G w σ' a H he hp => by
    have h1 := he x
    rw [opw_ev hx hp] at h1
    cases v <;> simp [fieldV] at hv
    · rename_i i k q
      subst hv
      obtain ⟨r, g, e1, e2, e⟩ := Rep.inv_ptr h1
      refine ⟨.pointer (some ((⟨g, k * r.es + q, none⟩ : Addr).add off)), by simp only [execOp, ho, e, Sem.run_bind, run_field hf, Result.andThen_ok, Sem.run_pure], ?_⟩
      rw [add_lit, Nat.add_assoc]
      exact .ptr _ _ _ r g e1 e2
    · rename_i p es xs k q
      subst hv
      obtain ⟨ad, e, hr⟩ := RepG.inv_vp (Rep.inv_vp h1)
      refine ⟨.pointer (some ((ad.add (k * es + q)).add off)), by simp only [execOp, ho, e, Sem.run_bind, run_field hf, Result.andThen_ok, Sem.run_pure], ?_⟩
      rw [add_add, Nat.add_assoc]
      exact .g (hr _ _)
def binI (op : BinOp) (k : IntKind) (a b : Int) : Option V :=
  match op with
  | .add => some (.int k (k.wrap (a + b)))
  | .sub => some (.int k (k.wrap (a - b)))
  | .mul => some (.int k (k.wrap (a * b)))
  | .eql => some (.bool (a == b))
  | .neq => some (.bool (a != b))
  | .lss => some (.bool (decide (a < b)))
  | .leq => some (.bool (decide (a ≤ b)))
  | .gtr => some (.bool (decide (a > b)))
  | .geq => some (.bool (decide (a ≥ b)))
  | _ => none
theorem ok_binI {o : Oper} {op : BinOp} {x y : Operand} {t u : TypeId} {d : Nat} {σ : Sg} {k k' : IntKind} {a b : Int} {v : V} (ho : o.op = .binOp op t x y u) (hd : o.dst = some d) (hn : d < N.n)
    (hx : σ.ev x = .int k a) (hy : σ.ev y = .int k' b) (hk : k = k') (hv : binI op k a b = some v) : CoreOk P N o (opw x (.int k a) ++ opw y (.int k' b)) [.t d v] :=
  val_ok hd hn fun G w σ' ac H he hp => by
    subst hk
    obtain ⟨hp1, hp2⟩ := has_append.1 hp
    have h1 := he x
    rw [opw_ev hx hp1] at h1
    have h2 := he y
    rw [opw_ev hy hp2] at h2
    have e1 := Rep.inv_int h1
    have e2 := Rep.inv_int h2
    cases op <;> simp only [binI, Option.some.injEq, reduceCtorEq] at hv <;> subst hv <;> first | refine ⟨_, ?_, .g (.int _ _)⟩ | refine ⟨_, ?_, .g (.bool _)⟩
    all_goals simp [execOp, ho, e1, e2, eqGuard, binOp, Op.intArith, Op.intCmp]
theorem ok_div {o : Oper} {op : BinOp} {x y : Operand} {t u : TypeId} {d : Nat} {σ : Sg} {k k' : IntKind} {a b : Int} (ho : o.op = .binOp op t x y u) (hd : o.dst = some d) (hn : d < N.n)
    (hx : σ.ev x = .int k a) (hy : σ.ev y = .int k' b) (hk : k = k') (hb : b ≠ 0) (hop : op = .quo ∨ op = .rem) : CoreOk P N o (opw x (.int k a) ++ opw y (.int k' b)) [.t d (.int k (match op with
      | .quo => k.wrap (a.tdiv b)
      | _ => a.tmod b))] :=
  val_ok hd hn fun G w σ' ac H he hp => by
    subst hk
    obtain ⟨hp1, hp2⟩ := has_append.1 hp
    have h1 := he x
    rw [opw_ev hx hp1] at h1
    have h2 := he y
    rw [opw_ev hy hp2] at h2
    have e1 := Rep.inv_int h1
    have e2 := Rep.inv_int h2
    rcases hop with rfl | rfl
    · exact ⟨.int k (k.wrap (a.tdiv b)), by simp [execOp, ho, e1, e2, eqGuard, binOp, Op.intDiv, if_neg hb], .g (.int _ _)⟩
    · exact ⟨.int k (a.tmod b), by simp [execOp, ho, e1, e2, eqGuard, binOp, Op.intDiv, if_neg hb], .g (.int _ _)⟩
def binS (op : BinOp) (a b : ByteArray) : Option V :=
  match op with
  | .eql => some (.bool (a.toList == b.toList))
  | .neq => some (.bool (!(a.toList == b.toList)))
  | .lss => some (.bool (Op.bytesLess a.toList b.toList))
  | .leq => some (.bool (Op.bytesLess a.toList b.toList || a.toList == b.toList))
  | .gtr => some (.bool (!(Op.bytesLess a.toList b.toList || a.toList == b.toList)))
  | .geq => some (.bool (!Op.bytesLess a.toList b.toList))
  | _ => none
theorem ok_binS {o : Oper} {op : BinOp} {x y : Operand} {t u : TypeId} {d : Nat} {σ : Sg} {a b : ByteArray} {v : V} (ho : o.op = .binOp op t x y u) (hd : o.dst = some d) (hn : d < N.n)
    (hx : σ.ev x = .str a) (hy : σ.ev y = .str b) (hv : binS op a b = some v) : CoreOk P N o (opw x (.str a) ++ opw y (.str b)) [.t d v] :=
  val_ok hd hn fun G w σ' ac H he hp => by
    obtain ⟨hp1, hp2⟩ := has_append.1 hp
    have h1 := he x
    rw [opw_ev hx hp1] at h1
    have h2 := he y
    rw [opw_ev hy hp2] at h2
    have e1 := Rep.inv_str h1
    have e2 := Rep.inv_str h2
    cases op <;> simp only [binS, Option.some.injEq, reduceCtorEq] at hv <;> subst hv <;> refine ⟨_, ?_, .g (.bool _)⟩
    all_goals simp [execOp, ho, e1, e2, eqGuard, binOp, Op.stringOp]
theorem ok_cat {o : Oper} {x y : Operand} {t u : TypeId} {d : Nat} {σ : Sg} {a b : ByteArray} (ho : o.op = .binOp .add t x y u) (hd : o.dst = some d) (hn : d < N.n)
    (hx : σ.ev x = .str a) (hy : σ.ev y = .str b) (hl : a.size + b.size ≤ 9223372036854775807) : CoreOk P N o (opw x (.str a) ++ opw y (.str b)) [.t d (.str (a ++ b))] :=
  val_ok hd hn fun G w σ' ac H he hp => by
    obtain ⟨hp1, hp2⟩ := has_append.1 hp
    have h1 := he x
    rw [opw_ev hx hp1] at h1
    have h2 := he y
    rw [opw_ev hy hp2] at h2
    have e1 := Rep.inv_str h1
    have e2 := Rep.inv_str h2
    refine ⟨.string (a ++ b), ?_, .g (.str _)⟩
    have hm : ¬ (((a.size + b.size : Nat) : Int) > IntKind.i64.max) := by
      have : IntKind.i64.max = 9223372036854775807 := rfl
      omega
    simp [execOp, ho, e1, e2, eqGuard, binOp, Op.stringOp, if_neg hm]
    omega
theorem ok_binB {o : Oper} {op : BinOp} {x y : Operand} {t u : TypeId} {d : Nat} {σ : Sg} {a b : Bool} {v : V} (hu : P.underlying t = some .bool) (ho : o.op = .binOp op t x y u) (hd : o.dst = some d) (hn : d < N.n)
    (hx : σ.ev x = .bool a) (hy : σ.ev y = .bool b) (hop : (op = .eql ∧ v = .bool (a == b)) ∨ (op = .neq ∧ v = .bool (!(a == b)))) : CoreOk P N o (opw x (.bool a) ++ opw y (.bool b)) [.t d v] :=
  val_ok hd hn fun G w σ' ac H he hp => by
    obtain ⟨hp1, hp2⟩ := has_append.1 hp
    have h1 := he x
    rw [opw_ev hx hp1] at h1
    have h2 := he y
    rw [opw_ev hy hp2] at h2
    have e1 := Rep.inv_bool h1
    have e2 := Rep.inv_bool h2
    have he : (Op.equal t (.bool a) (.bool b)).run P w = .ok (a == b) w := by
      exact run_equal_bool w t a b hu
    rcases hop with ⟨rfl, rfl⟩ | ⟨rfl, rfl⟩ <;> refine ⟨_, ?_, .g (.bool _)⟩
    all_goals simp [execOp, ho, e1, e2, eqGuard, binOp, he]
theorem ok_conv {o : Oper} {x : Operand} {s t : TypeId} {d : Nat} {σ : Sg} {k k' : IntKind} {a : Int} (hs : (P.underlying s).isSome = true) (ht : P.underlying t = some (.int k')) (ho : o.op = .convert s t x) (hd : o.dst = some d) (hn : d < N.n) (hx : σ.ev x = .int k a) : CoreOk P N o (opw x (.int k a)) [.t d (.int k' (k'.wrap a))] :=
  val_ok hd hn fun G w σ' ac H he hp => by
    have h1 := he x
    rw [opw_ev hx hp] at h1
    have e1 := Rep.inv_int h1
    obtain ⟨u, hu⟩ := Option.isSome_iff_exists.1 hs
    refine ⟨.int k' (k'.wrap a), ?_, .g (.int _ _)⟩
    simp [execOp, ho, e1, convert, run_underlying hu, run_underlying ht, Conv.intToInt]
def lenV (σ : Sg) : V → Option Nat
  | .nil => some 0
  | .str s => some s.size
  | .sl _ _ xs => some xs.length
  | .sub _ _ n => some n
  | .ref i => match σ.ob i with
    | .arr _ _ xs => some xs.length
    | .holes _ _ xs _ _ => some xs.length
    | _ => none
  | _ => none
def obw (σ : Sg) : V → List W
  | .ref i => [.o i (σ.ob i)]
  | _ => []
def lenOk (v : V) (u : TypeDesc) : Bool := match v, u with
  | .str _, .string => true
  | .str _, _ => false
  | _, .slice _ => true
  | _, _ => false
theorem ok_len {o : Oper} {x : Operand} {t : TypeId} {d n : Nat} {σ : Sg} {v : V} {u : TypeDesc} (hu : P.underlying t = some u) (hk : lenOk v u = true) (ho : o.op = .call { callee := .builtin .len, args := #[x], argTypes := #[t] }) (hd : o.dst = some d) (hn : d < N.n) (hx : σ.ev x = v) (hv : lenV σ v = some n) : CoreOk P N o (opw x v ++ obw σ v) [.t d (.int .i64 n)] :=
  val_ok hd hn fun G w σ' a H he hp => by
    obtain ⟨hp1, hp2⟩ := has_append.1 hp
    have h1 := he x
    rw [opw_ev hx hp1] at h1
    refine ⟨.int .i64 n, ?_, .g (.int _ _)⟩
    have hlen : ∀ A c, a.eval x = .slice A n c → (∃ e, u = .slice e) → (execOp a.eval o).run P w = .ok (.value (.int .i64 n)) w := by
      rintro A c e ⟨el, rfl⟩
      simp [execOp, ho, resolve, invoke, builtin, Builtin.len_, e, run_underlying hu, goInt]
    have hsl : (∃ s, v = .str s) ∨ ∃ e, u = .slice e := by
      cases v <;> cases u <;> simp [lenOk] at hk <;> simp
    cases v <;> simp only [lenV, reduceCtorEq, Option.some.injEq] at hv
    · subst hv
      obtain rfl : u = .string := by cases u <;> simp [lenOk] at hk; rfl
      simp [execOp, ho, resolve, invoke, builtin, Builtin.len_, Rep.inv_str h1, run_underlying hu, goInt]
    all_goals (have hs : ∃ e, u = .slice e := by rcases hsl with ⟨s, h⟩ | h; (· cases h); (· exact h))
    · subst hv
      exact hlen none 0 (Rep.inv_nil h1) hs
    · subst hv
      have h1 := Rep.inv_sl h1
      have hev : ∃ z, a.eval x = z := ⟨_, rfl⟩
      obtain ⟨z, hev⟩ := hev
      rw [hev] at h1
      · cases h1 with
        | slE A c => exact hlen A c hev hs
        | sl ad m c _ _ _ u hm => subst hm; exact hlen _ c hev hs
    · rename_i i
      obtain ⟨r, e1, e2⟩ := Rep.inv_ref h1
      have hob : σ'.ob i = σ.ob i := hp2.1
      split at hv
      · rename_i e es xs hxs
        obtain rfl := Option.some.inj hv
        have hown := H.own i
        rw [hob, hxs] at hown
        obtain ⟨r', f1, f2, f3, _⟩ := hown
        rw [e1] at f1
        obtain rfl := Option.some.inj f1
        unfold RI.sl at e2
        split at e2
        · refine hlen none 0 ?_ hs
          rw [e2.1, ← f3, e2.2]
        · exact hlen _ _ (by rw [e2, f3]) hs
      · rename_i e es xs j hs' hxs
        obtain rfl := Option.some.inj hv
        have hown := H.own i
        rw [hob, hxs] at hown
        obtain ⟨r', _, _, _, f1, f2, f3, _⟩ := hown
        rw [e1] at f1
        obtain rfl := Option.some.inj f1
        unfold RI.sl at e2
        split at e2
        · refine hlen none 0 ?_ hs
          rw [e2.1, ← f3, e2.2]
        · exact hlen _ _ (by rw [e2, f3]) hs
      · cases hv
    · subst hv
      obtain ⟨r, e1, _, A, e, _⟩ := Rep.inv_sub h1
      exact hlen A _ e hs
end
end Go.Sy
end

section
set_option linter.unusedVariables false
set_option linter.unusedSimpArgs false
namespace Go.Sy
section
variable {P : Program} {N : Cx} {ops : Array Oper}
theorem run_load1 {t : TypeId} (hA : isA P t = some false) {w : World} {ad : Addr} {v : Value} (h : w.cell? ad = some v) : (Instr.loadAt t (.pointer (some ad))).run P w = .ok v w := by
  simp [Instr.loadAt, Instr.sureAddr, loadVar, run_isA hA, load, Sem.run, h]
theorem run_loadN {t : TypeId} {n : Nat} (hA : isA P t = some true) (hs : szOf P t = some n) {w : World} {ad : Addr} (us : List Value) (hn : us.length = n) (h : ∀ (j : Nat) (v : Value), us[j]? = some v → w.cell? (ad.add j) = some v) : (Instr.loadAt t (.pointer (some ad))).run P w = .ok (.agg us.toArray) w := by
  subst hn
  simp [Instr.loadAt, Instr.sureAddr, loadVar, run_isA hA, run_sz hs, run_loadCells_list (P := P) w ad us h]
def loadV (b : Bool) (n off : Nat) (cs : List V) : Option V :=
  match b with
  | true => if off + n ≤ cs.length then some (.agg ((cs.drop off).take n)) else none
  | false => cs[off]?
theorem load_of {t : TypeId} {b : Bool} {n : Nat} (hA : isA P t = some b) (hs : szOf P t = some n) {G : Gh} {w : World} {ad : Addr} {off : Nat} {cs : List V} {v : V} (u : Nat → Value)
    (hu : ∀ (j : Nat) (x : V), cs[j]? = some x → w.cell? (ad.add j) = some (u j) ∧ G.Rep w (u j) x) (hv : loadV b n off cs = some v) :
    ∃ z, (Instr.loadAt t (.pointer (some (ad.add off)))).run P w = .ok z w ∧ G.Rep w z v := by
  cases b with
  | false =>
    obtain ⟨h1, h2⟩ := hu off v hv
    exact ⟨u off, run_load1 hA h1, h2⟩
  | true =>
    simp only [loadV] at hv
    split at hv
    · rename_i hl
      obtain rfl := Option.some.inj hv
      have hget : ∀ j, j < n → ∃ x, cs[off + j]? = some x := fun j hj => ⟨_, List.getElem?_eq_getElem (by omega)⟩
      refine ⟨_, run_loadN hA hs ((List.range n).map fun j => u (off + j)) (by simp) (fun j x hx => ?_), ?_⟩
      · rw [List.getElem?_map] at hx
        obtain ⟨k, hk, rfl⟩ := Option.map_eq_some_iff.1 hx
        have hj : j < n := by have := (List.getElem?_eq_some_iff.1 hk).1; simpa using this
        obtain rfl : j = k := by simpa [List.getElem?_range hj] using hk
        obtain ⟨x, hx⟩ := hget j hj
        rw [add_add]
        exact (hu _ x hx).1
      · refine .agg _ _ (by simp; omega) (fun j x hx => ?_)
        rw [List.getElem?_take] at hx
        split at hx
        · rename_i hj
          rw [List.getElem?_drop] at hx
          have : (((List.range n).map fun j => u (off + j)).toArray).getD j undef = u (off + j) := by simp [Array.getD, hj]
          rw [this]
          exact (hu _ x hx).2
        · cases hx
    · cases hv
theorem box_of {G : Gh} {w : World} {ob : Nat → Ob} (H : Hold G w ob) {i tb : Nat} {cs : List V} (hob : ob i = .box tb cs) :
    ∃ r g cur, G.ρ i = some r ∧ r.g = some g ∧ w.heap[g]? = some (.cells cur tb (0, 0)) ∧ cur.size = cs.length ∧ (∀ (j : Nat) (x : V), cs[j]? = some x → G.Rep w (cur.getD j undef) x) ∧ ∀ b, G.F i b ↔ b = g := by
  have h := H.own i
  rw [hob] at h
  exact h
theorem ok_load {o : Oper} {x : Operand} {t : TypeId} {d i off tb n : Nat} {b : Bool} {σ : Sg} {cs : List V} {v : V} (ho : o.op = .load t x) (hd : o.dst = some d) (hn : d < N.n) (hx : σ.ev x = .ptr i 0 off) (hob : σ.ob i = .box tb cs)
    (hA : isA P t = some b) (hs : szOf P t = some n) (hv : loadV b n off cs = some v) : CoreOk P N o (opw x (.ptr i 0 off) ++ [.o i (.box tb cs)]) [.t d v] :=
  val_ok hd hn fun G w σ' a H he hp => by
    obtain ⟨hp1, hp2⟩ := has_append.1 hp
    have h1 := he x
    rw [opw_ev hx hp1] at h1
    obtain ⟨r, g, e1, e2, e⟩ := Rep.inv_ptr h1
    obtain ⟨r', g', cur, f1, f2, f3, f4, f5, f6⟩ := box_of H (show σ'.ob i = .box tb cs from hp2.1)
    rw [e1] at f1
    obtain rfl := Option.some.inj f1
    rw [e2] at f2
    obtain rfl := Option.some.inj f2
    have ea : (⟨g, 0 * r.es + off, none⟩ : Addr) = (⟨g, 0, none⟩ : Addr).add off := by rw [add_lit]; simp
    obtain ⟨z, h3, h4⟩ := load_of hA hs (G := G) (w := w) (ad := ⟨g, 0, none⟩) (off := off) (cs := cs) (fun j => cur.getD j undef) (fun j x hx => by
      refine ⟨?_, f5 j x hx⟩
      rw [add_lit, Nat.zero_add, cell_of_row w g j cur tb (0, 0) f3]
      have : j < cur.size := by rw [f4]; exact (List.getElem?_eq_some_iff.1 hx).1
      simp [Array.getD, this]) hv
    refine ⟨z, ?_, h4⟩
    simp only [execOp, ho, e, ea, Sem.run_bind, h3, Result.andThen_ok, Sem.run_pure]
theorem ok_loadVp {o : Oper} {x : Operand} {t : TypeId} {d es k off n : Nat} {p b : Bool} {σ : Sg} {xs : List V} {y v : V} (ho : o.op = .load t x) (hd : o.dst = some d) (hn : d < N.n) (hx : σ.ev x = .vp p es xs k off) (hy : xs[k]? = some y)
    (hA : isA P t = some b) (hs : szOf P t = some n) (hv : loadV b n off (cl y) = some v) : CoreOk P N o (opw x (.vp p es xs k off)) [.t d v] :=
  val_ok hd hn fun G w σ' a H he hp => by
    have h1 := he x
    rw [opw_ev hx hp] at h1
    have h2 := Rep.inv_vp h1
    have hz : ∃ z, a.eval x = z := ⟨_, rfl⟩
    obtain ⟨z, hz⟩ := hz
    rw [hz] at h2
    cases h2 with
    | vp ad _ _ _ _ _ u hp' hl hu ho' hq' hr =>
      obtain ⟨q, h3, h4⟩ := load_of hA hs (G := G) (w := w) (ad := ad.add (k * es)) (off := off) (cs := cl y) (fun j => u k j) (fun j x hx => by
        refine ⟨?_, .g (hr k y hy j x hx)⟩
        rw [add_add]
        exact hu k y hy j x hx) hv
      refine ⟨q, ?_, h4⟩
      rw [add_add] at h3
      simp only [execOp, ho, hz, Sem.run_bind, h3, Result.andThen_ok, Sem.run_pure]
def oneV : V → Bool
  | .un | .agg _ | .tup _ | .own .. => false
  | _ => true
def cellsV : V → Option (List V)
  | .agg cs => if cs.all oneV then some cs else none
  | .un | .tup _ | .own .. => none
  | x => some [x]
theorem Rep.oneCell {ρ : Nat → Option RI} {w : World} {I J : Nat → Prop} {v : Value} {x : V} (h : Rep ρ w I J v x) (hx : oneV x = true) : v.oneCell' = true := by
  cases h with
  | g h => cases h <;> simp [oneV] at hx <;> rfl
  | agg => simp [oneV] at hx
  | tup => simp [oneV] at hx
  | ref i r v h hv =>
    unfold RI.sl at hv
    split at hv
    · rw [hv.1]; rfl
    · rw [hv]; rfl
  | sub i off len r v h hv =>
    obtain ⟨_, A, e, _⟩ := hv
    rw [e]; rfl
  | ptr => rfl
theorem Rep.cells {ρ : Nat → Option RI} {w : World} {I J : Nat → Prop} {v : Value} {x : V} (h : Rep ρ w I J v x) {ys : List V} (hx : cellsV x = some ys) :
    v.cells.size = ys.length ∧ (∀ (j : Nat) (y : V), ys[j]? = some y → Rep ρ w I J (v.cells.getD j undef) y) ∧ ∀ u ∈ v.cells.toList, u.oneCell' = true := by
  by_cases ha : ∃ cs, x = .agg cs
  · obtain ⟨cs, rfl⟩ := ha
    obtain ⟨a, rfl, h1, h2⟩ := Rep.inv_agg h
    simp only [cellsV] at hx
    split at hx
    · rename_i hall
      obtain rfl := Option.some.inj hx
      refine ⟨h1, h2, fun u hu => ?_⟩
      simp only [Value.cells] at hu
      obtain ⟨j, hj⟩ := List.getElem?_of_mem hu
      have hlt : j < a.size := by simpa using (List.getElem?_eq_some_iff.1 hj).1
      have hlt' : j < cs.length := by omega
      have h3 := h2 j _ (List.getElem?_eq_getElem hlt')
      have : a.getD j undef = u := by
        have : a[j]? = some u := by simpa using hj
        simp [Array.getD_eq_getD_getElem?, this]
      rw [this] at h3
      exact h3.oneCell ((List.all_eq_true.1 hall) _ (List.getElem_mem hlt'))
    · cases hx
  · have hone : oneV x = true ∧ ys = [x] := by
      cases x <;> simp_all [cellsV, oneV]
    obtain ⟨h1, rfl⟩ := hone
    have h2 := h.oneCell h1
    have hc : v.cells = #[v] := by cases v <;> simp_all [Value.oneCell', Value.cells]
    rw [hc]
    refine ⟨rfl, fun j y hy => ?_, fun u hu => ?_⟩
    · cases j with
      | zero => simp at hy; subst hy; exact h
      | succ j => simp at hy
    · simp at hu; subst hu; exact h2
theorem run_storeAt {t : TypeId} {n : Nat} (hs : szOf P t = some n) {w : World} {v : Value} (hv : v.cells.size = n) {g off tb : Nat} {cur : Array Value} (hg : w.heap[g]? = some (.cells cur tb (0, 0))) (hf : off + n ≤ cur.size) (h1 : ∀ u ∈ v.cells.toList, u.oneCell' = true) :
    (Instr.storeAt t (.pointer (some ⟨g, off, none⟩)) v).run P w = .ok () (w.setRow g (cur.toList.take off ++ v.cells.toList ++ cur.toList.drop (off + n)).toArray) := by
  have h := run_storeCells_at P g off tb v.cells.toList 0 cur w hg (by simpa [hv] using hf) h1
  simp only [Nat.add_zero, Array.length_toList, hv] at h
  simp [Instr.storeAt, Instr.sureAddr, storeVar, run_sz hs, hv, h]
def storeV (off : Nat) (ys cs : List V) : Option (List V) := if off + ys.length ≤ cs.length then some (cs.take off ++ ys ++ cs.drop (off + ys.length)) else none
theorem getD_splice {off : Nat} {vs : List Value} {cur : Array Value} (hf : off + vs.length ≤ cur.size) (j : Nat) : ((cur.toList.take off ++ vs ++ cur.toList.drop (off + vs.length)).toArray).getD j undef = if j < off then cur.getD j undef else if j < off + vs.length then vs.toArray.getD (j - off) undef else cur.getD j undef := by
  simp only [Array.getD_eq_getD_getElem?, List.getElem?_toArray, List.append_assoc, List.getElem?_append, List.length_take, List.getElem?_take, Array.length_toList, List.getElem?_drop, Nat.min_eq_left (show off ≤ cur.size by omega)]
  by_cases h1 : j < off
  · simp [h1]
  · by_cases h2 : j < off + vs.length
    · simp [h1, h2, show j - off < vs.length by omega]
    · simp [h1, h2, show ¬ j - off < vs.length by omega, show off + vs.length + (j - off - vs.length) = j by omega]
theorem rep_splice {ρ : Nat → Option RI} {w : World} {I J : Nat → Prop} {off : Nat} {ys cs cs' : List V} {vs : List Value} {cur : Array Value} (hcs : cur.size = cs.length) (hvs : vs.length = ys.length)
    (h1 : ∀ (j : Nat) (x : V), cs[j]? = some x → Rep ρ w I J (cur.getD j undef) x) (h2 : ∀ (j : Nat) (y : V), ys[j]? = some y → Rep ρ w I J (vs.toArray.getD j undef) y) (hs : storeV off ys cs = some cs') :
    cs'.length = cs.length ∧ ∀ (j : Nat) (x : V), cs'[j]? = some x → Rep ρ w I J (((cur.toList.take off ++ vs ++ cur.toList.drop (off + vs.length)).toArray).getD j undef) x := by
  unfold storeV at hs
  split at hs
  · rename_i hl
    obtain rfl := Option.some.inj hs
    refine ⟨by simp; omega, fun j x hx => ?_⟩
    rw [getD_splice (by omega)]
    rw [List.append_assoc, List.getElem?_append, List.length_take, Nat.min_eq_left (by omega)] at hx
    by_cases h3 : j < off
    · rw [if_pos h3] at hx ⊢
      rw [List.getElem?_take, if_pos h3] at hx
      exact h1 j x hx
    · rw [if_neg h3] at hx ⊢
      rw [List.getElem?_append] at hx
      by_cases h4 : j < off + vs.length
      · rw [if_pos (by omega)] at hx
        rw [if_pos h4]
        exact h2 _ x hx
      · rw [if_neg (by omega), List.getElem?_drop] at hx
        rw [if_neg h4]
        have : off + ys.length + (j - off - ys.length) = j := by omega
        rw [this] at hx
        exact h1 j x hx
  · cases hs
theorem Hold.boxset {G : Gh} {w : World} {ob ob' : Nat → Ob} (H : Hold G w ob) {i tb g : Nat} {cs cs' : List V} {r : RI} {cur cur' : Array Value} (hρ : G.ρ i = some r) (hr : r.g = some g) (hg : w.heap[g]? = some (.cells cur tb (0, 0))) (hF : ∀ b, G.F i b ↔ b = g)
    (hs : cur'.size = cs'.length) (hrep : ∀ (j : Nat) (x : V), cs'[j]? = some x → G.Rep w (cur'.getD j undef) x) (h1 : ob' i = .box tb cs') (h2 : ∀ k, k ≠ i → ob' k = ob k) : Hold G (w.setRow g cur') ob' ∧ Fr G w G (w.setRow g cur') := by
  refine Hold.step H rfl rfl rfl rfl rfl (by simp) (fun _ _ h => h) (fun k => k = i) (fun k hk => ⟨h2 k hk, rfl, rfl⟩) (fun b hb hf => setRow_other w g b cur' (fun e => hf i rfl ((hF b).2 e))) (fun LG L k hk => ?_) (fun k b hk h => ?_) (fun k b hk h => ?_) (fun k l b hk hl _ _ => by rw [hk, hl])
  · subst hk
    rw [h1, hρ]
    exact ⟨r, g, cur', rfl, hr, setRow_heap w g cur cur' tb (0, 0) hg, hs, fun j x hx => L _ _ (hrep j x hx), hF⟩
  · exact .inl ⟨k, hk, h⟩
  · simpa using H.flt k b h
theorem ok_store {o : Oper} {x y : Operand} {t : TypeId} {i off tb n : Nat} {σ : Sg} {cs cs' ys : List V} {v : V} (ho : o.op = .store t x y) (hd : o.dst = none) (hx : σ.ev x = .ptr i 0 off) (hy : σ.ev y = v) (hob : σ.ob i = .box tb cs)
    (hs : szOf P t = some n) (hc : cellsV v = some ys) (hn : ys.length = n) (hv : storeV off ys cs = some cs') : CoreOk P N o (opw x (.ptr i 0 off) ++ opw y v ++ [.o i (.box tb cs)]) [.o i (.box tb cs')] :=
  sto_ok hd (fun z hz => by simp at hz; exact ⟨_, _, hz⟩) fun G w σ' a H he hp => by
    obtain ⟨hp12, hp3⟩ := has_append.1 hp
    obtain ⟨hp1, hp2⟩ := has_append.1 hp12
    have h1 := he x
    rw [opw_ev hx hp1] at h1
    have h2 := he y
    rw [opw_ev hy hp2] at h2
    obtain ⟨r, g, e1, e2, e⟩ := Rep.inv_ptr h1
    obtain ⟨r', g', cur, f1, f2, f3, f4, f5, f6⟩ := box_of H (show σ'.ob i = .box tb cs from hp3.1)
    rw [e1] at f1
    obtain rfl := Option.some.inj f1
    rw [e2] at f2
    obtain rfl := Option.some.inj f2
    obtain ⟨c1, c2, c3⟩ := Rep.cells h2 hc
    have hfit : off + ys.length ≤ cs.length := by
      unfold storeV at hv
      split at hv
      · assumption
      · cases hv
    have ea : (⟨g, 0 * r.es + off, none⟩ : Addr) = ⟨g, off, none⟩ := by simp
    rw [ea] at e
    have hst := run_storeAt (P := P) hs (w := w) (v := a.eval y) (by omega) f3 (off := off) (by omega) c3
    obtain ⟨s1, s2⟩ := rep_splice (vs := (a.eval y).cells.toList) (off := off) f4 (by simpa using c1) f5 (by simpa using c2) hv
    have hlen : (a.eval y).cells.toList.length = n := by simp; omega
    rw [hlen] at s2
    refine ⟨_, G, by simp only [execOp, ho, e, Sem.run_bind, hst, Result.andThen_ok, Sem.run_pure], H.boxset (cs := cs) e1 e2 f3 f6 (ob' := (σ'.puts [.o i (.box tb cs')]).ob) (cs' := cs') ?_ s2 ?_ (fun k hk => ?_)⟩
    · simp; omega
    · simp [Sg.puts, Sg.put]
    · simp [Sg.puts, Sg.put, hk]
def Gh.new (G : Gh) (k : Nat) (r : RI) (g : Nat) : Gh where
  ρ := fun i => if i = k then some r else G.ρ i
  I := G.I
  J := G.J
  F := fun i b => if i = k then b = g else G.F i b
theorem Hold.free {G : Gh} {w : World} {ob : Nat → Ob} (H : Hold G w ob) {k : Nat} (hk : ob k = .free) : G.ρ k = none ∧ ∀ b, ¬ G.F k b := by
  have h := H.own k
  rw [hk] at h
  exact h
theorem Hold.new {G : Gh} {w : World} {ob ob' : Nat → Ob} (H : Hold G w ob) {k : Nat} (hk : ob k = .free) (cur : Array Value) (t : TypeId) (r : RI) (x : Ob) (h1 : ob' k = x) (h2 : ∀ i, i ≠ k → ob' i = ob i)
    (hx : (∀ v x, RepG w G.I G.J v x → RepG (w.alloc (.cells cur t)) G.I G.J v x) → (∀ v x, G.Rep w v x → (G.new k r w.heap.size).Rep (w.alloc (.cells cur t)) v x) → (w.alloc (.cells cur t)).heap[w.heap.size]? = some (.cells cur t (0, 0)) → (G.new k r w.heap.size).Own (w.alloc (.cells cur t)) (some r) (fun b => b = w.heap.size) x) :
    Hold (G.new k r w.heap.size) (w.alloc (.cells cur t)) ob' ∧ Fr G w (G.new k r w.heap.size) (w.alloc (.cells cur t)) := by
  obtain ⟨f1, f2⟩ := H.free hk
  refine Hold.step H rfl rfl rfl rfl rfl (by simp) (fun i r' h => ?_) (fun i => i = k) (fun i hi => ⟨h2 i hi, by simp [Gh.new, hi], by funext b; simp [Gh.new, hi]⟩) (fun b hb _ => heap_alloc_old w _ b hb) (fun LG L i hi => ?_) (fun i b hi h => ?_) (fun i b hi h => ?_) (fun i j b hi hj _ _ => by rw [hi, hj])
  · simp only [Gh.new]
    by_cases hi : i = k
    · subst hi; rw [f1] at h; cases h
    · rw [if_neg hi]; exact h
  · subst hi
    have := hx LG L (heap_alloc_new w _)
    rw [h1]
    simpa [Gh.new] using this
  · simp only [Gh.new, if_pos hi] at h
    exact .inr (by omega)
  · simp only [Gh.new, if_pos hi] at h
    simp; omega
theorem ok_box {o : Oper} {x : Operand} {t : TypeId} {d k : Nat} {σ : Sg} {v : V} {cs : List V} (ho : o.op = .box t x) (hd : o.dst = some d) (hn : d < N.n) (hx : σ.ev x = v) (hc : cellsV v = some cs) : CoreOk P N o (opw x v ++ [.o k .free]) ([.o k (.box t cs)] ++ [.t d (.ptr k 0 0)]) :=
  eff_ok hd hn (fun z hz => by simp at hz; exact ⟨_, _, hz⟩) fun G w σ' a H _ he hp => by
    obtain ⟨hp1, hp2⟩ := has_append.1 hp
    have h1 := he x
    rw [opw_ev hx hp1] at h1
    obtain ⟨c1, c2, c3⟩ := Rep.cells h1 hc
    refine ⟨.pointer (some ⟨w.heap.size, 0, none⟩), w.alloc (.cells (a.eval x).cells t), G.new k ⟨some w.heap.size, 0, 1, 0⟩ w.heap.size, ?_, ?_⟩
    · simp [execOp, ho, Instr.box, newVar, newRow]
    · obtain ⟨q1, q2⟩ := H.new (k := k) hp2.1 (a.eval x).cells t ⟨some w.heap.size, 0, 1, 0⟩ (.box t cs) (ob' := (σ'.puts [.o k (.box t cs)]).ob) (by simp [Sg.puts, Sg.put]) (fun i hi => by simp [Sg.puts, Sg.put, hi]) (fun LG L hh =>
        ⟨_, _, _, rfl, rfl, hh, c1, fun j y hy => L _ _ (c2 j y hy), fun b => Iff.rfl⟩)
      refine ⟨q1, q2, ?_⟩
      exact Rep.ptr k 0 0 ⟨some w.heap.size, 0, 1, 0⟩ w.heap.size (by simp [Gh.new]) rfl
def zeroCs (P : Program) (t : TypeId) : Option (List V) := ((P.info? t).bind (·.zero)).map fun z => z.cells.toList.map toV
theorem run_zero {t : TypeId} {cs : List V} (h : zeroCs P t = some cs) (w : World) : ∃ z, (zeroValue t).run P w = .ok z w ∧ cs = z.cells.toList.map toV := by
  unfold zeroCs at h
  obtain ⟨z, h1, rfl⟩ := Option.map_eq_some_iff.1 h
  obtain ⟨i, h2, h3⟩ := Option.bind_eq_some_iff.1 h1
  exact ⟨z, by simp [zeroValue, typeInfo, h2, h3], rfl⟩
theorem rep_toV (G : Gh) (w : World) (z : Array Value) : ∀ (j : Nat) (y : V), (z.toList.map toV)[j]? = some y → G.Rep w (z.getD j undef) y := by
  intro j y hy
  rw [List.getElem?_map] at hy
  obtain ⟨u, hu, rfl⟩ := Option.map_eq_some_iff.1 hy
  have : z.getD j undef = u := by
    have : z[j]? = some u := by simpa using hu
    simp [Array.getD_eq_getD_getElem?, this]
  rw [this]
  exact toV_rep G w u
theorem ok_alloc {o : Oper} {t : TypeId} {d k : Nat} {cs : List V} (ho : o.op = .alloc t) (hd : o.dst = some d) (hn : d < N.n) (hz : zeroCs P t = some cs) : CoreOk P N o [.o k .free] ([.o k (.box t cs)] ++ [.t d (.ptr k 0 0)]) :=
  eff_ok hd hn (fun z hz => by simp at hz; exact ⟨_, _, hz⟩) fun G w σ' a H _ he hp => by
    obtain ⟨z, hz1, rfl⟩ := run_zero hz w
    refine ⟨.pointer (some ⟨w.heap.size, 0, none⟩), w.alloc (.cells z.cells t), G.new k ⟨some w.heap.size, 0, 1, 0⟩ w.heap.size, ?_, ?_⟩
    · simp [execOp, ho, Instr.alloc, hz1, newVar, newRow]
    · obtain ⟨q1, q2⟩ := H.new (k := k) hp.1 z.cells t ⟨some w.heap.size, 0, 1, 0⟩ (.box t (z.cells.toList.map toV)) (ob' := (σ'.puts [.o k (.box t (z.cells.toList.map toV))]).ob) (by simp [Sg.puts, Sg.put]) (fun i hi => by simp [Sg.puts, Sg.put, hi]) (fun LG L hh =>
        ⟨_, _, _, rfl, rfl, hh, by simp, rep_toV _ _ _, fun b => Iff.rfl⟩)
      refine ⟨q1, q2, ?_⟩
      exact Rep.ptr k 0 0 ⟨some w.heap.size, 0, 1, 0⟩ w.heap.size (by simp [Gh.new]) rfl
def fillV (place : Nat → Option (Nat × Nat)) (cells : List V) : List (Nat × V) → Option (List V)
  | [] => some cells
  | (i, v) :: rest =>
    match place i, cellsV v with
    | some (off, size), some ys => if ys.length = size then (storeV off ys cells).bind fun c => fillV place c rest else none
    | _, _ => none
theorem foldl_set (off : Nat) : ∀ (l : List Value) (j0 : Nat) (cs : Array Value), (((l.zipIdx j0).foldl (fun cs (c, j) => cs.setIfInBounds (off + j) c) cs).size = cs.size) ∧
    ∀ j, off + j0 + l.length ≤ cs.size → ((l.zipIdx j0).foldl (fun cs (c, j) => cs.setIfInBounds (off + j) c) cs).getD j undef = if off + j0 ≤ j ∧ j < off + j0 + l.length then l.getD (j - (off + j0)) undef else cs.getD j undef
  | [], j0, cs => ⟨rfl, fun j _ => by simp; omega⟩
  | c :: l, j0, cs => by
    simp only [List.zipIdx_cons, List.foldl_cons]
    obtain ⟨h1, h2⟩ := foldl_set off l (j0 + 1) (cs.setIfInBounds (off + j0) c)
    refine ⟨by rw [h1]; simp, fun j hj => ?_⟩
    simp only [List.length_cons] at hj
    rw [h2 j (by simp; omega), getD_set _ _ _ _ _ (by omega)]
    simp only [List.length_cons]
    by_cases a : j = off + j0
    · subst a
      rw [if_neg (by omega), if_pos rfl, if_pos (by omega), Nat.sub_self]
      rfl
    · rw [if_neg a]
      by_cases b : off + (j0 + 1) ≤ j ∧ j < off + (j0 + 1) + l.length
      · rw [if_pos b, if_pos (by omega), show j - (off + j0) = (j - (off + (j0 + 1))) + 1 by omega]
        rfl
      · rw [if_neg b, if_neg (by omega)]
theorem storeV_get {off : Nat} {ys cs cs' : List V} (h : storeV off ys cs = some cs') : cs'.length = cs.length ∧ off + ys.length ≤ cs.length ∧ ∀ j, cs'[j]? = if off ≤ j ∧ j < off + ys.length then ys[j - off]? else cs[j]? := by
  unfold storeV at h
  split at h
  · rename_i hl
    obtain rfl := Option.some.inj h
    refine ⟨by simp; omega, hl, fun j => ?_⟩
    rw [List.append_assoc, List.getElem?_append, List.length_take, Nat.min_eq_left (by omega)]
    by_cases h1 : j < off
    · rw [if_pos h1, if_neg (by omega), List.getElem?_take, if_pos h1]
    · rw [if_neg h1, List.getElem?_append]
      by_cases h2 : j - off < ys.length
      · rw [if_pos h2, if_pos (by omega)]
      · rw [if_neg h2, if_neg (by omega), List.getElem?_drop]
        congr 1
        omega
  · cases h
def PartsRep (G : Gh) (w : World) : List (Nat × Value) → List (Nat × V) → Prop
  | [], [] => True
  | (i, v) :: l, (j, x) :: k => i = j ∧ G.Rep w v x ∧ PartsRep G w l k
  | _, _ => False
theorem fill_of {G : Gh} {w : World} {place : Nat → Option (Nat × Nat)} : ∀ (ps : List (Nat × Value)) (vs : List (Nat × V)) (cells : Array Value) (cs cs' : List V), PartsRep G w ps vs → cells.size = cs.length →
    (∀ (j : Nat) (y : V), cs[j]? = some y → G.Rep w (cells.getD j undef) y) → fillV place cs vs = some cs' →
    ∃ cells', Instr.fill place cells ps = some cells' ∧ cells'.size = cs'.length ∧ ∀ (j : Nat) (y : V), cs'[j]? = some y → G.Rep w (cells'.getD j undef) y
  | [], [], cells, cs, cs', _, hs, hr, h => by
    obtain rfl := Option.some.inj h
    exact ⟨cells, rfl, hs, hr⟩
  | (i, v) :: ps, (j, x) :: vs, cells, cs, cs', hp, hs, hr, h => by
    obtain ⟨rfl, hv, hp⟩ := hp
    simp only [fillV] at h
    split at h
    · rename_i off size ys hpl hc
      split at h
      · rename_i hlen
        obtain ⟨c1, hst, h⟩ := Option.bind_eq_some_iff.1 h
        obtain ⟨s1, s2, s3⟩ := storeV_get hst
        obtain ⟨q1, q2, _⟩ := Rep.cells hv hc
        have hf := foldl_set off v.cells.toList 0 cells
        simp only [Instr.fill, hpl]
        rw [if_neg (by simp; omega)]
        have hconv : (v.cells.zipIdx.foldl (fun cs (c, j) => cs.setIfInBounds (off + j) c) cells) = ((v.cells.toList.zipIdx 0).foldl (fun cs (c, j) => cs.setIfInBounds (off + j) c) cells) := by
          rw [← Array.foldl_toList]
          simp
        rw [hconv]
        refine fill_of ps vs _ c1 cs' hp (by rw [hf.1]; omega) (fun j y hy => ?_) h
        rw [hf.2 j (by simp; omega)]
        rw [s3] at hy
        simp only [Nat.add_zero, Array.length_toList] at *
        by_cases hj : off ≤ j ∧ j < off + ys.length
        · rw [if_pos hj] at hy
          rw [if_pos (by omega)]
          have := q2 _ y hy
          show Sy.Rep _ _ _ _ _ _
          simpa [Array.getD_eq_getD_getElem?, List.getD_eq_getElem?_getD] using this
        · rw [if_neg hj] at hy
          rw [if_neg (by omega)]
          exact hr j y hy
      · cases h
    · cases h
  | [], _ :: _, _, _, _, h, _, _, _ => h.elim
  | _ :: _, [], _, _, _, h, _, _, _ => h.elim
def placesOf (P : Program) (t : TypeId) : Option (List (Nat × Nat)) :=
  match P.underlying t with
  | some (.struct fields) => fields.toList.mapM fun f => (P.info? f.type).map fun i => (f.offset, i.size)
  | _ => none
def partsW : List (Nat × Operand) → List (Nat × V) → List W
  | (_, x) :: l, (_, v) :: k => opw x v ++ partsW l k
  | _, _ => []
def partsEv (σ : Sg) : List (Nat × Operand) → List (Nat × V)
  | [] => []
  | (i, x) :: l => (i, σ.ev x) :: partsEv σ l
theorem partsW_rep {G : Gh} {w : World} {σ σ' : Sg} {a : Act} (he : ∀ y, G.Rep w (a.eval y) (σ'.ev y)) : ∀ (l : List (Nat × Operand)), σ'.has (partsW l (partsEv σ l)) → PartsRep G w (l.map fun (i, x) => (i, a.eval x)) (partsEv σ l)
  | [], _ => trivial
  | (i, x) :: l, h => by
    simp only [partsEv, partsW] at h
    obtain ⟨h1, h2⟩ := has_append.1 h
    refine ⟨rfl, ?_, partsW_rep he l h2⟩
    have := he x
    rwa [opw_ev rfl h1] at this
theorem partsW_has (σ : Sg) : ∀ (l : List (Nat × Operand)), σ.has (partsW l (partsEv σ l))
  | [] => trivial
  | (i, x) :: l => has_append.2 ⟨opw_has rfl, partsW_has σ l⟩
theorem ok_build {o : Oper} {t : TypeId} {parts : Array (Nat × Operand)} {d : Nat} {σ : Sg} {zs cs : List V} {places : List (Nat × Nat)} {vs : List (Nat × V)} (ho : o.op = .build t parts) (hd : o.dst = some d) (hn : d < N.n) (hvs : vs = partsEv σ parts.toList)
    (hz : zeroCs P t = some zs) (hp : placesOf P t = some places) (hf : fillV (places[·]?) zs vs = some cs) : CoreOk P N o (partsW parts.toList vs) [.t d (.agg cs)] :=
  val_ok hd hn fun G w σ' a H he hpre => by
    subst hvs
    have hr := partsW_rep he parts.toList hpre
    unfold zeroCs at hz
    obtain ⟨z, h1, rfl⟩ := Option.map_eq_some_iff.1 hz
    obtain ⟨it, h2, h3⟩ := Option.bind_eq_some_iff.1 h1
    obtain ⟨cells, f1, f2, f3⟩ := fill_of (place := (places[·]?)) _ _ z.cells _ cs hr (by simp) (rep_toV G w z.cells) hf
    unfold placesOf at hp
    split at hp
    · rename_i fields hu
      have hb : P.built t (parts.map fun (i, x) => (i, a.eval x)).toList = some cells := by
        unfold Program.built
        simp only [h2, hu, h3, hp]
        rw [Array.toList_map]
        have : (fun x : Nat => places.toArray[x]?) = (fun x : Nat => places[x]?) := by funext x; simp
        rw [this]
        exact f1
      refine ⟨.agg cells, ?_, .agg cells cs f2 f3⟩
      simp only [execOp, ho, Sem.run_bind, run_build w t _ cells hb, Result.andThen_ok, Sem.run_pure]
    · cases hp
end
end Go.Sy
end

section
set_option linter.unusedVariables false
set_option linter.unusedSimpArgs false
namespace Go.Sy
section
variable {P : Program} {N : Cx} {ops : Array Oper}
theorem arr_of {G : Gh} {w : World} {ob : Nat → Ob} (H : Hold G w ob) {i e es : Nat} {xs : List V} (hob : ob i = .arr e es xs) :
    ∃ r, G.ρ i = some r ∧ r.es = es ∧ r.len = xs.length ∧ ((r.g = none ∧ xs = [] ∧ (∀ b, ¬ G.F i b) ∧ r.cap = 0) ∨ ∃ g cur M, r.g = some g ∧ Arr w G.I G.J M (G.F i) g r.cap cur e es xs) := by
  have h := H.own i
  rw [hob] at h
  exact h
theorem elemTy {t e : Nat} (hu : P.underlying t = some (.slice e)) {n : Nat} (hs : szOf P e = some n) {w : World} {A : Addr} {len c : Nat} {k : IntKind} {i : Int} (h0 : 0 ≤ i) (h1 : i < len) :
    (Instr.indexAt t (.slice (some A) len c) (.int k i)).run P w = .ok (.pointer (some (A.add (i.toNat * n)))) w := by
  simp [Instr.indexAt, asIntOf, run_underlying hu, run_sz hs, h0, h1]
theorem ok_indexSl {o : Oper} {x y : Operand} {t e es d : Nat} {σ : Sg} {p : Bool} {xs : List V} {k : IntKind} {i : Int} (ho : o.op = .indexAddr t x y) (hd : o.dst = some d) (hn : d < N.n) (hu : P.underlying t = some (.slice e)) (hs : szOf P e = some es)
    (hx : σ.ev x = .sl p es xs) (hy : σ.ev y = .int k i) (h0 : 0 ≤ i) (h1 : i.toNat < xs.length) : CoreOk P N o (opw x (.sl p es xs) ++ opw y (.int k i)) [.t d (.vp p es xs i.toNat 0)] :=
  val_ok hd hn fun G w σ' a H he hp => by
    obtain ⟨hp1, hp2⟩ := has_append.1 hp
    have g1 := he x
    rw [opw_ev hx hp1] at g1
    have g2 := he y
    rw [opw_ev hy hp2] at g2
    have g3 := Rep.inv_sl g1
    have hz : ∃ z, a.eval x = z := ⟨_, rfl⟩
    obtain ⟨z, hz⟩ := hz
    rw [hz] at g3
    cases g3 with
    | slE A c => simp at h1
    | sl ad m c _ _ _ u hm hc hmx hp' hl hu' ho' hq' hr =>
      subst hm
      refine ⟨_, ?_, .g (.vp ad p es xs i.toNat 0 u hp' hl hu' ho' hq' hr)⟩
      simp only [execOp, ho, hz, Rep.inv_int g2, Sem.run_bind, elemTy hu hs h0 (show i < xs.length by omega), Result.andThen_ok, Sem.run_pure, Nat.add_zero]
theorem ok_indexRef {o : Oper} {x y : Operand} {t e es d i : Nat} {σ : Sg} {xs : List V} {k : IntKind} {n : Int} (ho : o.op = .indexAddr t x y) (hd : o.dst = some d) (hn : d < N.n) (hu : P.underlying t = some (.slice e)) (hs : szOf P e = some es)
    (hx : σ.ev x = .ref i) (hob : σ.ob i = .arr e es xs) (hy : σ.ev y = .int k n) (h0 : 0 ≤ n) (h1 : n.toNat < xs.length) : CoreOk P N o (opw x (.ref i) ++ opw y (.int k n) ++ [.o i (.arr e es xs)]) [.t d (.ptr i n.toNat 0)] :=
  val_ok hd hn fun G w σ' a H he hp => by
    obtain ⟨hp12, hp3⟩ := has_append.1 hp
    obtain ⟨hp1, hp2⟩ := has_append.1 hp12
    have g1 := he x
    rw [opw_ev hx hp1] at g1
    have g2 := he y
    rw [opw_ev hy hp2] at g2
    obtain ⟨r, e1, e2⟩ := Rep.inv_ref g1
    obtain ⟨r', f1, f2, f3, f4⟩ := arr_of H (show σ'.ob i = .arr e es xs from hp3.1)
    rw [e1] at f1
    obtain rfl := Option.some.inj f1
    rcases f4 with ⟨f4, f5, _⟩ | ⟨g, cur, M, f4, f5⟩
    · subst f5; simp at h1
    · unfold RI.sl at e2
      rw [f4] at e2
      simp only at e2
      refine ⟨_, ?_, .ptr i n.toNat 0 r g e1 f4⟩
      rw [f2]
      simp only [execOp, ho, e2, Rep.inv_int g2, Sem.run_bind, elemTy hu hs h0 (show n < r.len by omega), Result.andThen_ok, Sem.run_pure, add_lit, Nat.zero_add, Nat.add_zero]
def plain : V → Bool
  | .own .. => false
  | _ => true
theorem RepN.plain {w : World} {I J : Nat → Prop} {M : Nat → Prop} {v : Value} {x : V} (h : RepN w I J M v x) (hx : plain x = true) : RepG w I J v x ∧ ∀ b, ¬ M b := by
  cases x <;> simp [Sy.plain] at hx <;> exact h
theorem idx_lt {k j es len cap : Nat} (h1 : k < len) (h2 : len ≤ cap) (h3 : j < es) : k * es + j < cap * es := by
  have : (k + 1) * es ≤ cap * es := Nat.mul_le_mul_right _ (by omega)
  rw [Nat.add_mul] at this
  omega
theorem ok_loadEl {o : Oper} {x : Operand} {t : TypeId} {d i e es k off n : Nat} {b : Bool} {σ : Sg} {xs : List V} {y v : V} (ho : o.op = .load t x) (hd : o.dst = some d) (hn : d < N.n) (hx : σ.ev x = .ptr i k off) (hob : σ.ob i = .arr e es xs) (hy : xs[k]? = some y)
    (hpl : (cl y).all plain = true) (hA : isA P t = some b) (hs : szOf P t = some n) (hv : loadV b n off (cl y) = some v) : CoreOk P N o (opw x (.ptr i k off) ++ [.o i (.arr e es xs)]) [.t d v] :=
  val_ok hd hn fun G w σ' a H he hp => by
    obtain ⟨hp1, hp2⟩ := has_append.1 hp
    have h1 := he x
    rw [opw_ev hx hp1] at h1
    obtain ⟨r, g, e1, e2, e3⟩ := Rep.inv_ptr h1
    obtain ⟨r', f1, f2, f3, f4⟩ := arr_of H (show σ'.ob i = .arr e es xs from hp2.1)
    rw [e1] at f1
    obtain rfl := Option.some.inj f1
    rcases f4 with ⟨f4, f5, _⟩ | ⟨g', cur, M, f4, f5⟩
    · subst f5; simp at hy
    · rw [e2] at f4
      obtain rfl := Option.some.inj f4
      rw [f2] at e3
      have hk : k < xs.length := (List.getElem?_eq_some_iff.1 hy).1
      obtain ⟨z, h3, h4⟩ := load_of hA hs (G := G) (w := w) (ad := ⟨g, k * es, none⟩) (off := off) (cs := cl y) (fun j => cur.getD (k * es + j) undef) (fun j x hx => by
        have hj : j < es := by rw [← f5.hl k y hy]; exact (List.getElem?_eq_some_iff.1 hx).1
        refine ⟨?_, .g (RepN.plain (f5.rep k y hy j x hx) ((List.all_eq_true.1 hpl) _ (List.mem_of_getElem? hx))).1⟩
        rw [add_lit, cell_of_row w g _ cur e (0, 0) f5.heap]
        have : k * es + j < cur.size := by rw [f5.size]; exact idx_lt hk f5.le hj
        simp [Array.getD, this]) hv
      rw [add_lit] at h3
      refine ⟨z, ?_, h4⟩
      simp only [execOp, ho, e3, Sem.run_bind, h3, Result.andThen_ok, Sem.run_pure]
theorem Rep.ground {ρ : Nat → Option RI} {w : World} {I J : Nat → Prop} {v : Value} {x : V} (h : Rep ρ w I J v x) (hx : gV x = true) : RepG w I J v x := by
  cases h with
  | g h => exact h
  | agg => simp [gV] at hx
  | tup => simp [gV] at hx
  | ref => simp [gV] at hx
  | sub => simp [gV] at hx
  | ptr => simp [gV] at hx
def putEl (es off : Nat) (ys : List V) (y : V) : Option V :=
  match es with
  | 1 => match y, ys with
    | .agg _, _ => none
    | _, [z] => if off = 0 then some z else none
    | _, _ => none
  | _ => match y with
    | .agg cs => (storeV off ys cs).map .agg
    | _ => none
theorem putEl_cl {es off : Nat} {ys : List V} {y y' : V} (h : putEl es off ys y = some y') (hl : (cl y).length = es) (hg : ys.all gV = true) : (cl y').length = es ∧ off + ys.length ≤ es ∧ ∀ j : Nat, (cl y')[j]? = if off ≤ j ∧ j < off + ys.length then ys[j - off]? else (cl y)[j]? := by
  unfold putEl at h
  split at h
  · split at h
    · cases h
    · rename_i z _
      split at h
      · rename_i h0
        obtain rfl := Option.some.inj h
        subst h0
        simp only [List.all_cons, List.all_nil, Bool.and_true] at hg
        have hz : cl z = [z] := by cases z <;> simp [gV] at hg <;> rfl
        have hy : ∃ q, cl y = [q] := by
          cases hq : cl y with
          | nil => rw [hq] at hl; simp at hl
          | cons q l =>
            rw [hq] at hl
            simp at hl
            exact ⟨q, by rw [hl]⟩
        obtain ⟨q, hy⟩ := hy
        rw [hz, hy]
        refine ⟨rfl, by simp, fun j => ?_⟩
        cases j with
        | zero => simp
        | succ j => simp
      · cases h
    · cases h
  · split at h
    · rename_i cs
      obtain ⟨c1, hst, rfl⟩ := Option.map_eq_some_iff.1 h
      obtain ⟨s1, s2, s3⟩ := storeV_get hst
      simp only [cl] at hl ⊢
      exact ⟨by omega, by omega, s3⟩
    · cases h
theorem ok_storeEl {o : Oper} {x y : Operand} {t : TypeId} {i e es k off n : Nat} {σ : Sg} {xs xs' ys : List V} {v q q' : V} (ho : o.op = .store t x y) (hd : o.dst = none) (hx : σ.ev x = .ptr i k off) (hy : σ.ev y = v) (hob : σ.ob i = .arr e es xs)
    (hs : szOf P t = some n) (hc : cellsV v = some ys) (hg : ys.all gV = true) (hn : ys.length = n) (hq : xs[k]? = some q) (hpl : (((cl q).drop off).take n).all plain = true) (hq' : putEl es off ys q = some q') (hxs : xs' = xs.set k q') :
    CoreOk P N o (opw x (.ptr i k off) ++ opw y v ++ [.o i (.arr e es xs)]) [.o i (.arr e es xs')] :=
  sto_ok hd (fun z hz => by simp at hz; exact ⟨_, _, hz⟩) fun G w σ' a H he hp => by
    subst hxs
    obtain ⟨hp12, hp3⟩ := has_append.1 hp
    obtain ⟨hp1, hp2⟩ := has_append.1 hp12
    have h1 := he x
    rw [opw_ev hx hp1] at h1
    have h2 := he y
    rw [opw_ev hy hp2] at h2
    obtain ⟨r, g, e1, e2, e3⟩ := Rep.inv_ptr h1
    obtain ⟨r', f1, f2, f3, f4⟩ := arr_of H (show σ'.ob i = .arr e es xs from hp3.1)
    rw [e1] at f1
    obtain rfl := Option.some.inj f1
    rcases f4 with ⟨f4, f5, _⟩ | ⟨g', cur, M, f4, f5⟩
    · subst f5; simp at hq
    rw [e2] at f4
    obtain rfl := Option.some.inj f4
    rw [f2] at e3
    have hk : k < xs.length := (List.getElem?_eq_some_iff.1 hq).1
    obtain ⟨p1, p2, p3⟩ := putEl_cl hq' (f5.hl k q hq) hg
    obtain ⟨c1, c2, c3⟩ := Rep.cells h2 hc
    have hcap := Nat.mul_le_mul_right es f5.le
    have hkk : (k + 1) * es ≤ xs.length * es := Nat.mul_le_mul_right _ (by omega)
    rw [Nat.add_mul] at hkk
    have hst := run_storeAt (P := P) hs (w := w) (v := a.eval y) (by omega) f5.heap (off := k * es + off) (by rw [f5.size]; omega) c3
    have hlen : (a.eval y).cells.toList.length = n := by simp; omega
    have hgd := fun j => getD_splice (off := k * es + off) (vs := (a.eval y).cells.toList) (cur := cur) (by rw [f5.size, hlen]; omega) j
    rw [hlen] at hgd
    generalize hcur' : (cur.toList.take (k * es + off) ++ (a.eval y).cells.toList ++ cur.toList.drop (k * es + off + n)).toArray = cur' at hst hgd
    refine ⟨w.setRow g cur', G, by simp only [execOp, ho, e3, Sem.run_bind, hst, Result.andThen_ok, Sem.run_pure], ?_⟩
    have hsz' : cur'.size = cur.size := by rw [← hcur']; simp [f5.size]; omega
    refine Hold.step H rfl rfl rfl rfl rfl (by simp) (fun _ _ h => h) (fun l => l = i) (fun l (hl : ¬ l = i) => ⟨by simp [Sg.puts, Sg.put, hl], rfl, rfl⟩) (fun b hb hf => setRow_other w g b cur' (fun e => hf i rfl ((f5.fo b).2 (.inl e)))) (fun LG L l hl => ?_) (fun l b hl h => .inl ⟨l, hl, h⟩) (fun l b hl h => by simpa using H.flt l b h) (fun l l' b hl hl' _ _ => by rw [hl, hl'])
    subst hl
    have hob' : (σ'.puts [W.o l (Ob.arr e es (xs.set k q'))]).ob l = .arr e es (xs.set k q') := by simp [Sg.puts, Sg.put]
    rw [hob', e1]
    refine ⟨r, rfl, f2, by simpa using f3, .inr ⟨g, cur', M, e2, ?_⟩⟩
    have hno : ∀ j, off ≤ j → j < off + n → ∀ b, ¬ M k j b := by
      intro j hj1 hj2 b hb
      obtain ⟨x1, y1, hx1, hy1⟩ := f5.nb k j b hb
      rw [hq] at hx1
      obtain rfl := Option.some.inj hx1
      refine (RepN.plain (f5.rep k q hq j y1 hy1) ((List.all_eq_true.1 hpl) _ ?_)).2 b hb
      refine List.mem_of_getElem? (i := j - off) ?_
      rw [List.getElem?_take, if_pos (by omega), List.getElem?_drop, show off + (j - off) = j by omega]
      exact hy1
    have hidx : ∀ k' j, k' < xs.length → j < es → k' ≠ k → ¬ (k * es + off ≤ k' * es + j ∧ k' * es + j < k * es + off + n) := by
      intro k' j h1 h2 h3
      rcases Nat.lt_or_gt_of_ne h3 with h4 | h4
      · have : (k' + 1) * es ≤ k * es := Nat.mul_le_mul_right _ (by omega)
        rw [Nat.add_mul] at this
        omega
      · have : (k + 1) * es ≤ k' * es := Nat.mul_le_mul_right _ (by omega)
        rw [Nat.add_mul] at this
        omega
    refine ⟨setRow_heap w g cur cur' e (0, 0) f5.heap, by rw [hsz']; exact f5.size, by simpa using f5.le, f5.max, fun k' x' hx' => ?_, fun j hj => ?_, fun x' hx' => ?_, fun k' x' hx' j y' hy' => ?_, f5.fo, f5.ng, f5.nd, fun k' j b h => ?_⟩
    · rw [List.getElem?_set] at hx'
      by_cases hkk' : k = k'
      · rw [if_pos hkk', if_pos (by omega)] at hx'
        obtain rfl := Option.some.inj hx'; exact p1
      · rw [if_neg hkk'] at hx'
        exact f5.hl k' x' hx'
    · rw [List.length_set] at hj
      rw [hgd]
      split
      · exact f5.one j hj
      · split
        · rename_i hj1 hj2
          have hm : (a.eval y).cells.toList[j - (k * es + off)]? = some ((a.eval y).cells.toList.toArray.getD (j - (k * es + off)) undef) := by
            have : j - (k * es + off) < (a.eval y).cells.size := by omega
            simp [Array.getD, this]
          exact c3 _ (List.mem_of_getElem? hm)
        · exact f5.one j hj
    · rcases List.mem_or_eq_of_mem_set hx' with hx' | rfl
      · exact f5.gr x' hx'
      · rw [List.all_eq_true]
        intro z hz
        obtain ⟨j, hj⟩ := List.getElem?_of_mem hz
        rw [p3] at hj
        split at hj
        · have := (List.all_eq_true.1 hg) z (List.mem_of_getElem? hj)
          cases z <;> simp_all [gO, gV]
        · exact (List.all_eq_true.1 (f5.gr q (List.mem_of_getElem? hq))) z (List.mem_of_getElem? hj)
    · rw [List.getElem?_set] at hx'
      by_cases hkk' : k = k'
      · subst hkk'
        rw [if_pos rfl, if_pos hk] at hx'
        obtain rfl := Option.some.inj hx'
        rw [p3] at hy'
        by_cases hj : off ≤ j ∧ j < off + ys.length
        · rw [if_pos hj] at hy'
          rw [hgd, if_neg (by omega), if_pos (by omega)]
          have hgy : gV y' = true := (List.all_eq_true.1 hg) _ (List.mem_of_getElem? hy')
          have h5 := c2 _ y' hy'
          have h6 : (a.eval y).cells.toList.toArray.getD (k * es + j - (k * es + off)) undef = (a.eval y).cells.getD (j - off) undef := by
            rw [show k * es + j - (k * es + off) = j - off by omega]
          rw [h6]
          have h7 := LG _ _ (Rep.ground h5 hgy)
          have h8 := hno j hj.1 (by omega)
          cases y' <;> simp [gV] at hgy <;> exact ⟨h7, h8⟩
        · rw [if_neg hj] at hy'
          have h5 := (f5.rep k q hq j y' hy').lift LG (fun b hb => setRow_other w g b cur' (fun e => by subst e; exact f5.ng _ _ hb))
          have hjes : j < es := by rw [← f5.hl k q hq]; exact (List.getElem?_eq_some_iff.1 hy').1
          rw [hgd]
          by_cases h7 : k * es + j < k * es + off
          · rw [if_pos h7]; exact h5
          · rw [if_neg h7, if_neg (by omega)]; exact h5
      · rw [if_neg hkk'] at hx'
        have hk' : k' < xs.length := (List.getElem?_eq_some_iff.1 hx').1
        have hjes : j < es := by rw [← f5.hl k' x' hx']; exact (List.getElem?_eq_some_iff.1 hy').1
        have h5 := (f5.rep k' x' hx' j y' hy').lift LG (fun b hb => setRow_other w g b cur' (fun e => by subst e; exact f5.ng _ _ hb))
        have h6 := hidx k' j hk' hjes (Ne.symm hkk')
        rw [hgd]
        by_cases h7 : k' * es + j < k * es + off
        · rw [if_pos h7]; exact h5
        · rw [if_neg h7, if_neg (by omega)]; exact h5
    · obtain ⟨x1, y1, hx1, hy1⟩ := f5.nb k' j b h
      by_cases hkk' : k = k'
      · subst hkk'
        rw [hq] at hx1
        obtain rfl := Option.some.inj hx1
        refine ⟨q', y1, by simp [hk], ?_⟩
        rw [p3, if_neg (fun hj => hno j hj.1 (by omega) b h)]
        exact hy1
      · exact ⟨x1, y1, by rw [List.getElem?_set, if_neg hkk']; exact hx1, hy1⟩
end
end Go.Sy
end
