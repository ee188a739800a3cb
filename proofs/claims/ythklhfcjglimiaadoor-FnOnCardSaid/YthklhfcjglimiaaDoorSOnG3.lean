/- The program logic with symbolic states that this claim stands on (a text of several, laid together). -/
import Derived.Test.YthklhfcjglimiaaDoorSOnG2
import Derived.Laws.IdiomStrings
import Derived.Below
import Derived.ChangeArms
import Derived.ChangeShapes
import Derived.Deep.Slices
import Derived.DataReads
import Derived.WalkKit
import Derived.Lib.AppendStr
import Derived.Lib.Join
import Derived.Shelf.Small.Wraps
import Derived.Shelf.Strconv.Atoi
import Derived.Shelf.Strconv.Itoa0
import Derived.Shelf.Strconv.Itoa1
import Derived.Shelf.LaysM
import Derived.Shelf.Strconv.Itoa2
import Derived.Shelf.Strconv.Itoa3
import Derived.Shelf.Strconv.AtoiErrFast
import Derived.Shelf.Strconv.ParseIntEmpty
import Derived.Shelf.Strconv.AtoiFail
import Derived.Shelf.Strconv.Clone
import Derived.Shelf.Strconv.SyntaxError
import Derived.Shelf.LaysC
import Derived.Shelf.Strconv.ToError
import Derived.Shelf.Strconv.Lower
import Derived.Shelf.Strconv.ParseUint10
import Derived.Shelf.Strconv.ParseUint10Empty
import Derived.Shelf.Strconv.ParseUint10Any
import Derived.Shelf.Strconv.ParseInt10
import Derived.Shelf.Strconv.AtoiLong
import Derived.Shelf.Strconv.AtoiInnerAll
import Derived.Shelf.Strconv.RangeError
import Derived.Shelf.Strconv.ToErrorRange
import Derived.Shelf.Strconv.AtoiAll
import Derived.Shelf.Strconv.ErrVarAll
import Derived.Shelf.Strconv.ParseUintEmpty
import Derived.Shelf.Strings.Search1
import Derived.Shelf.Strings.Search2
import Derived.Shelf.Strings.Cut
import Derived.Shelf.Strings.Shaped
import Derived.Shelf.Strings.Prefix
import Derived.Test.YthklhfcjglimiaaDoorProg
import Derived.Lib.AppendIntMem
import Derived.Lib.AtoiErrMem
import Derived.Lib.ItoaLen
import Derived.Test.YthklhfcjglimiaaDoorRows
import Derived.Lib.LaidTab
import Derived.Stop.LaidErr
import Derived.Shelf.Vars
import Derived.WalkSmall
import Derived.SevenTiedAt
import Derived.LaidMore
import Derived.Handed
section
set_option linter.unusedVariables false
set_option linter.unusedSimpArgs false
namespace Go.Sy
theorem putEl_cl0 {es off : Nat} {ys : List V} {z y y' : V} (h : putEl es off ys y = some y') (hl : (cl y).length = es) (hys : ys = [z]) (hz : cl z = [z]) : (cl y').length = es ∧ off < es ∧ ∀ j : Nat, (cl y')[j]? = if j = off then some z else (cl y)[j]? := by
  unfold putEl at h
  split at h
  · split at h
    · cases h
    · rename_i z' _
      injection hys with he _
      subst he
      split at h
      · rename_i h0
        obtain rfl := Option.some.inj h
        subst h0
        have hy : ∃ q, cl y = [q] := by
          cases hq : cl y with
          | nil => rw [hq] at hl; simp at hl
          | cons q l =>
            rw [hq] at hl
            simp at hl
            exact ⟨q, by rw [hl]⟩
        obtain ⟨q, hy⟩ := hy
        rw [hz, hy]
        refine ⟨rfl, by simp, fun j => ?_⟩
        cases j with
        | zero => simp
        | succ j => simp
      · cases h
    · cases h
  · split at h
    · rename_i cs
      obtain ⟨c1, hst, rfl⟩ := Option.map_eq_some_iff.1 h
      obtain ⟨s1, s2, s3⟩ := storeV_get hst
      subst hys
      simp only [cl, List.length_cons, List.length_nil] at hl s2 s3 ⊢
      refine ⟨by omega, by omega, fun j => ?_⟩
      rw [s3]
      by_cases hj : j = off
      · subst hj; simp
      · rw [if_neg (by omega), if_neg hj]
    · cases h
theorem putEl_cl1 {es off : Nat} {z y y' : V} (h : putEl es off [z] y = some y') (hl : (cl y).length = es) (hz : cl z = [z]) : (cl y').length = es ∧ off < es ∧ ∀ j : Nat, (cl y')[j]? = if j = off then some z else (cl y)[j]? := putEl_cl0 h hl rfl hz
section
variable {w : World} {I J : Nat → Prop}
theorem Arr.turn {N : Nat → Nat → Nat → Prop} {F : Nat → Prop} {g cap : Nat} {cur : Array Value} {e es : Nat} {xs : List V} (h : Arr w I J N F g cap cur e es xs) {j off : Nat} {y y' z : V} (hy : xs[j]? = some y) (hz : cl z = [z]) (hg : gO z = true) (hp : putEl es off [z] y = some y')
    (M : Nat → Prop) (hM : RepN w I J M (cur.getD (j * es + off) undef) z) (hm1 : ∀ b, M b → ∀ k' j', N k' j' b → k' = j ∧ j' = off) (hm2 : ¬ M g) :
    Arr w I J (fun k' j' b => if k' = j ∧ j' = off then M b else N k' j' b) (fun b => b = g ∨ ∃ k' j', (if k' = j ∧ j' = off then M b else N k' j' b)) g cap cur e es (xs.set j y') := by
  obtain ⟨p1, p2, p3⟩ := putEl_cl1 hp (h.hl j y hy) hz
  have hjl := (List.getElem?_eq_some_iff.1 hy).1
  have hget : ∀ (k : Nat) (x : V), (xs.set j y')[k]? = some x → (k = j ∧ x = y') ∨ (k ≠ j ∧ xs[k]? = some x) := by
    intro k x hx
    rw [List.getElem?_set] at hx
    by_cases e : j = k
    · rw [if_pos e, if_pos (by omega)] at hx
      exact .inl ⟨e.symm, (Option.some.inj hx).symm⟩
    · rw [if_neg e] at hx
      exact .inr ⟨fun h => e h.symm, hx⟩
  refine ⟨h.heap, h.size, by simpa using h.le, h.max, fun k x hx => ?_, fun i hi => h.one i (by simpa using hi), fun x hx => ?_, fun k x hx i u hu => ?_, fun b => Iff.rfl, fun k i hb => ?_, fun k i k' i' b h1 h2 => ?_, fun k i b hb => ?_⟩
  · rcases hget k x hx with ⟨rfl, rfl⟩ | ⟨_, hx⟩
    · exact p1
    · exact h.hl k x hx
  · rcases List.mem_or_eq_of_mem_set hx with hx | rfl
    · exact h.gr x hx
    · rw [List.all_eq_true]
      intro u hu
      obtain ⟨i, hi⟩ := List.getElem?_of_mem hu
      rw [p3] at hi
      split at hi
      · obtain rfl := Option.some.inj hi; exact hg
      · exact (List.all_eq_true.1 (h.gr y (List.mem_of_getElem? hy))) u (List.mem_of_getElem? hi)
  · rcases hget k x hx with ⟨rfl, rfl⟩ | ⟨hk, hx⟩
    · rw [p3] at hu
      by_cases hi : i = off
      · subst hi
        rw [if_pos rfl] at hu
        obtain rfl := Option.some.inj hu
        simp only [and_self, if_true]
        exact hM
      · rw [if_neg hi] at hu
        have := h.rep k y hy i u hu
        simpa [hi] using this
    · have := h.rep k x hx i u hu
      simpa [hk] using this
  · split at hb
    · exact hm2 hb
    · exact h.ng k i hb
  · split at h1
    · rename_i e1
      split at h2
      · rename_i e2; exact ⟨e1.1.trans e2.1.symm, e1.2.trans e2.2.symm⟩
      · have := hm1 b h1 k' i' h2
        exact ⟨e1.1.trans this.1.symm, e1.2.trans this.2.symm⟩
    · split at h2
      · rename_i e2
        have := hm1 b h2 k i h1
        exact ⟨this.1.trans e2.1.symm, this.2.trans e2.2.symm⟩
      · exact h.nd k i k' i' b h1 h2
  · split at hb
    · rename_i e1
      refine ⟨y', z, by rw [e1.1, List.getElem?_set, if_pos rfl, if_pos hjl], by rw [e1.2, p3, if_pos rfl]⟩
    · rename_i e1
      obtain ⟨x, u, hx, hu⟩ := h.nb k i b hb
      by_cases hk : k = j
      · subst hk
        rw [hy] at hx
        obtain rfl := Option.some.inj hx
        exact ⟨y', u, by rw [List.getElem?_set, if_pos rfl, if_pos hjl], by rw [p3, if_neg (fun e => e1 ⟨rfl, e⟩)]; exact hu⟩
      · exact ⟨x, u, by rw [List.getElem?_set, if_neg (fun e => hk e.symm)]; exact hx, hu⟩
end
def Gh.out (G : Gh) (i k : Nat) (r : RI) (Fi Fk : Nat → Prop) : Gh := { G with ρ := fun l => if l = k then some r else G.ρ l, F := fun l => if l = k then Fk else if l = i then Fi else G.F l }
theorem arr_of_flat {w : World} {I J : Nat → Prop} {g cap : Nat} {cur : Array Value} {e es : Nat} {ys : List V} (h : Flat w I J g cap cur e es ys) {F : Nat → Prop} (hF : ∀ b, F b ↔ b = g) : Arr w I J (fun _ _ _ => False) F g cap cur e es ys :=
  ⟨h.heap, h.size, h.le, h.max, h.hl, h.one, fun x hx => by
    rw [List.all_eq_true]
    intro y hy
    exact gO_of_gS ((List.all_eq_true.1 (h.gr x hx)) y hy), fun k x hx j y hy => repN_of_gS (ρ := fun _ => none) ((List.all_eq_true.1 (h.gr x (List.mem_of_getElem? hx))) y (List.mem_of_getElem? hy)) (.g (h.rep k x hx j y hy)), fun b => by rw [hF b]; simp, fun _ _ h => h, fun _ _ _ _ _ h => h.elim, fun _ _ _ h => h.elim⟩
section
variable {P : Program} {N : Cx} {ops : Array Oper}
theorem ok_open {o : Oper} {x : Operand} {t : TypeId} {d i e es j off k e' es' : Nat} {σ : Sg} {xs ys : List V} {y y' : V} (ho : o.op = .load t x) (hd : o.dst = some d) (hn : d < N.n) (hx : σ.ev x = .ptr i j off) (hob : σ.ob i = .arr e es xs) (hy : xs[j]? = some y)
    (hc : (cl y)[off]? = some (.own e' es' ys)) (hA : isA P t = some false) (hy' : putEl es off [.un] y = some y') (hik : i ≠ k) :
    CoreOk P N o (opw x (.ptr i j off) ++ [.o i (.arr e es xs), .o k .free]) ([.o i (.hole e es (xs.set j y') j off k), .o k (.arr e' es' ys)] ++ [.t d (.ref k)]) :=
  eff_ok hd hn (fun z hz => by simp at hz; rcases hz with h | h <;> exact ⟨_, _, h⟩) fun G w σ' a H _ he hp => by
    obtain ⟨hp1, hp2⟩ := has_append.1 hp
    have h1 := he x
    rw [opw_ev hx hp1] at h1
    obtain ⟨r, g, e1, e2, e3⟩ := Rep.inv_ptr h1
    obtain ⟨r', f1, f2, f3, f4⟩ := arr_of H (show σ'.ob i = .arr e es xs from hp2.1)
    have hfk : σ'.ob k = .free := hp2.2.1
    obtain ⟨k1, k2⟩ := H.free hfk
    rw [e1] at f1
    obtain rfl := Option.some.inj f1
    rcases f4 with ⟨f4, f5, _⟩ | ⟨g', cur, M, f4, f5⟩
    · subst f5; simp at hy
    rw [e2] at f4
    obtain rfl := Option.some.inj f4
    rw [f2] at e3
    have hjl := (List.getElem?_eq_some_iff.1 hy).1
    have hoff : off < es := by rw [← f5.hl j y hy]; exact (List.getElem?_eq_some_iff.1 hc).1
    have hlt : j * es + off < cur.size := by rw [f5.size]; exact idx_lt hjl f5.le hoff
    have hcell : w.cell? ⟨g, j * es + off, none⟩ = some (cur.getD (j * es + off) undef) := by
      rw [cell_of_row w g _ cur e (0, 0) f5.heap]
      simp [Array.getD, hlt]
    have hr := f5.rep j y hy off _ hc
    generalize hu : cur.getD (j * es + off) undef = u at hcell hr
    have hown : (RI.of u es').sl u ∧ ∀ ρ, OwnOb ρ w G.I G.J (some (RI.of u es')) (M j off) (.arr e' es' ys) := by
      rcases hr with ⟨rfl, rfl, q3⟩ | ⟨g2, cap2, cur2, rfl, q2, q3⟩
      · exact ⟨⟨rfl, rfl⟩, fun ρ => ⟨_, rfl, rfl, rfl, .inl ⟨rfl, rfl, q3, rfl⟩⟩⟩
      · exact ⟨rfl, fun ρ => ⟨_, rfl, rfl, rfl, .inr ⟨g2, cur2, _, rfl, arr_of_flat q2 q3⟩⟩⟩
    have ht := f5.turn hy (z := .un) rfl rfl hy' (fun _ => False) ⟨.un _, fun _ h => h⟩ (fun _ h => h.elim) (fun h => h)
    generalize hFi : (fun b => b = g ∨ ∃ k' j', (if k' = j ∧ j' = off then False else M k' j' b)) = Fi at ht
    have hFi2 : ∀ b, Fi b → G.F i b := by
      intro b hb
      rw [← hFi] at hb
      rw [f5.fo]
      rcases hb with hb | ⟨k', j', hb⟩
      · exact .inl hb
      · split at hb
        · exact hb.elim
        · exact .inr ⟨k', j', hb⟩
    have hMi : ∀ b, M j off b → G.F i b := fun b hb => (f5.fo b).2 (.inr ⟨j, off, hb⟩)
    have hdis : ∀ b, Fi b → M j off b → False := by
      intro b hb hm
      rw [← hFi] at hb
      rcases hb with rfl | ⟨k', j', hb⟩
      · exact f5.ng j off hm
      · split at hb
        · exact hb
        · rename_i hne
          exact hne (f5.nd k' j' j off b hb hm)
    refine ⟨u, w, G.out i k (RI.of u es') Fi (M j off), ?_, ?_⟩
    · simp only [execOp, ho, e3, Sem.run_bind, run_load1 hA hcell, Result.andThen_ok, Sem.run_pure]
    have hobi : (σ'.puts [W.o i (Ob.hole e es (xs.set j y') j off k), W.o k (Ob.arr e' es' ys)]).ob = fun l => if l = k then .arr e' es' ys else if l = i then .hole e es (xs.set j y') j off k else σ'.ob l := by
      funext l; simp [Sg.puts, Sg.put]
    rw [hobi]
    have key : Hold (G.out i k (RI.of u es') Fi (M j off)) w (fun l => if l = k then .arr e' es' ys else if l = i then .hole e es (xs.set j y') j off k else σ'.ob l) ∧ Fr G w (G.out i k (RI.of u es') Fi (M j off)) w := by
      refine Hold.step (G' := G.out i k (RI.of u es') Fi (M j off)) (w' := w) (ob' := fun l => if l = k then .arr e' es' ys else if l = i then .hole e es (xs.set j y') j off k else σ'.ob l) H rfl rfl rfl rfl rfl (Nat.le_refl _)
        (fun l rr h => by simp only [Gh.out]; rw [if_neg (fun e => by subst e; rw [k1] at h; cases h)]; exact h)
        (fun l => l = i ∨ l = k) (fun l hl => by
          have h1 : l ≠ i := fun e => hl (.inl e)
          have h2 : l ≠ k := fun e => hl (.inr e)
          simp [Gh.out, h1, h2]) (fun _ _ _ => rfl) (fun LG L l hl => ?_) (fun l b hl hb => .inl ⟨i, .inl rfl, ?_⟩) (fun l b hl hb => ?_) (fun l l' b hl hl' hb hb' => ?_)
      · rcases hl with rfl | rfl
        · have : (G.out l k (RI.of u es') Fi (M j off)).ρ l = some r := by simp [Gh.out, hik, e1]
          rw [this]
          have h2 : (G.out l k (RI.of u es') Fi (M j off)).F l = Fi := by simp [Gh.out, hik]
          rw [h2]
          simp only [if_neg hik, if_true]
          refine ⟨r, g, cur, _, rfl, f2, by simpa using f3, e2, ht, ?_⟩
          rw [hu]
          exact Rep.ref k (RI.of u es') u (by simp [Gh.out]) hown.1
        · have : (G.out i l (RI.of u es') Fi (M j off)).ρ l = some (RI.of u es') := by simp [Gh.out]
          rw [this]
          have h2 : (G.out i l (RI.of u es') Fi (M j off)).F l = M j off := by simp [Gh.out]
          rw [h2]
          simp only [if_true]
          exact hown.2 _
      · rcases hl with rfl | rfl
        · simp only [Gh.out, if_neg hik, if_true] at hb
          exact hFi2 b hb
        · simp only [Gh.out, if_true] at hb
          exact hMi b hb
      · rcases hl with rfl | rfl
        · simp only [Gh.out, if_neg hik, if_true] at hb
          exact H.flt _ b (hFi2 b hb)
        · simp only [Gh.out, if_true] at hb
          exact H.flt _ b (hMi b hb)
      · rcases hl with rfl | rfl <;> rcases hl' with rfl | rfl
        · rfl
        · simp only [Gh.out, if_neg hik, if_true] at hb hb'
          exact (hdis b hb hb').elim
        · simp only [Gh.out, if_neg hik, if_true] at hb hb'
          exact (hdis b hb' hb).elim
        · rfl
    exact ⟨key.1, key.2, Rep.ref k (RI.of u es') u (by simp [Gh.out]) hown.1⟩
end
end Go.Sy
end

section
set_option linter.unusedVariables false
set_option linter.unusedSimpArgs false
namespace Go.Sy
def encU8 (b : UInt8) : V := .int .u8 (b.toNat : Int)
def u8Of (x : Int) : UInt8 := UInt8.ofNat (x % 256).toNat
theorem sayByte (x : Int) : V.int .u8 (IntKind.u8.wrap x) = encU8 (u8Of x) := by
  unfold encU8 u8Of
  congr 1
  have h1 : (x % 256).toNat < 256 := by omega
  rw [UInt8.toNat_ofNat_of_lt' h1]
  have h2 : IntKind.u8.wrap x = x % 256 := by simp [IntKind.wrap, IntKind.signed, IntKind.bits]
  rw [h2]
  omega
theorem sayRem {a b : Int} (h : 0 ≤ a) : V.int .i64 (a.tmod b) = V.int .i64 (a % b) := by rw [Int.tmod_eq_emod_of_nonneg h]
theorem sayQuo {a b : Int} (h : 0 ≤ a) (h1 : a ≤ 9223372036854775807) (hb : 0 < b) : V.int .i64 (IntKind.i64.wrap (a.tdiv b)) = V.int .i64 (a / b) := by
  rw [Int.tdiv_eq_ediv_of_nonneg h]
  have h2 : 0 ≤ a / b := Int.ediv_nonneg h (by omega)
  have h3 : a / b ≤ a := Int.ediv_le_self b h
  rw [IntKind.wrap_i64]
  congr 1
  omega
def strOf (l : List UInt8) : ByteArray := ⟨l.toArray⟩
theorem allP_encU8 (l : List UInt8) : AllP (l.map encU8) := by
  intro x hx
  obtain ⟨y, _, rfl⟩ := List.mem_map.1 hx
  rfl
section
variable {P : Program} {N : Cx} {ops : Array Oper}
theorem u8_of {w : World} {I J M} {v : Value} {b : UInt8} (h : RepN w I J M v (encU8 b)) : v = .int .u8 (b.toNat : Int) := by
  have := h.1
  cases this
  rfl
theorem ok_b2s {o : Oper} {x : Operand} {s t e d : Nat} {σ : Sg} {T : V} (l : List UInt8) {kill : List Nat} (hs : P.underlying s = some (.slice e)) (he : P.underlying e = some (.int .u8)) (ht : P.underlying t = some .string) (ho : o.op = .convert s t x) (hd : o.dst = some d) (hn : d < N.n)
    (hx : σ.ev x = T) (hf : SecondIs σ.ob T e 1 (l.map encU8) kill) : CoreOk P N o (opw x T ++ obW σ.ob (obK T)) [.t d (.str (strOf l))] :=
  val_ok hd hn fun G w σ' a H hev hp => by
    obtain ⟨hp1, hp2⟩ := has_append.1 hp
    have h1 := hev x
    rw [opw_ev hx hp1] at h1
    obtain ⟨M, ⟨A, c, news, b1, b2, b3, b4, b5, b6, b7, b8⟩, _⟩ := second_src H (hf.congr (obW_has hp2)) h1
    refine ⟨.string (strOf l), ?_, .g (.str _)⟩
    rw [List.length_map] at b1 b2
    cases A with
    | none =>
      have hl : l = [] := by
        have := b3 rfl
        simpa using this
      subst hl
      simp only [execOp, ho, b1, Sem.run_bind, run_convert_bytes_string w s t e _ _ c hs he ht, Conv.bytesToString, Sem.run_pure, Result.andThen_ok]
      rfl
    | some ad =>
      have := run_convert_bytes_back (P := P) w s t e ad c l hs he ht (fun j hj => by
        have hj2 : j < news.length := by omega
        rw [b4 ad rfl j _ (List.getElem?_eq_getElem hj2)]
        have h2 : (l.map encU8)[j]? = some (encU8 l[j]) := by rw [List.getElem?_map, List.getElem?_eq_getElem hj]; rfl
        have h3 := b8 j _ h2 0 (encU8 l[j]) rfl
        have h4 := u8_of h3
        rw [Nat.mul_one, Nat.add_zero, List.getD_eq_getElem?_getD, List.getElem?_eq_getElem hj2] at h4
        simpa using h4)
      simp only [execOp, ho, b1, Sem.run_bind, this, Sem.run_pure, Result.andThen_ok]
      rfl
end
section
variable {P : Program} {N : Cx} {ops : Array Oper} {K : List Tr → Sg → Prop} {k : Nat} {σ : Sg}
theorem At.b2s {s t e d : Nat} {x : Operand} {T : V} (l : List UInt8) (kill : List Nat) (hg : goes ops σ k = true) (ho : opd (opAt ops k) = (.convert s t x, some d)) (ht : (P.underlying s, P.underlying e, P.underlying t, Nat.blt d N.n) = (some (.slice e), some (.int .u8), some .string, true)) (hv : σ.ev x = T) (hf : SecondIs σ.ob T e 1 (l.map encU8) kill)
    (r : At P N ops (k + 1) (σ.puts [.t d (.str (strOf l))]) (fun t s => K (⟨(gpOf ops σ (opAt ops k)).getD [] ++ (opw x T ++ obW σ.ob (obK T)), [.t d (.str (strOf l))]⟩ :: t) s)) : At P N ops k σ K := by
  simp only [Prod.mk.injEq] at ht
  exact At.step2 hg ⟨ok_b2s l ht.1 ht.2.1 ht.2.2.1 (opd1 ho) (opd2 ho) (by simpa using ht.2.2.2) hv hf, has2 (opw_has hv) (obW_self σ _)⟩ r
theorem At.div {t u d : Nat} {op : BinOp} {x y : Operand} {kd : IntKind} {a b : Int} (hg : goes ops σ k = true) (ho : opd (opAt ops k) = (.binOp op t x y u, some d)) (hn : Nat.blt d N.n = true) (hv : [σ.ev x, σ.ev y] = [.int kd a, .int kd b]) (hb : b ≠ 0) (v : V) (hop : (op = .quo ∧ v = .int kd (kd.wrap (a.tdiv b))) ∨ (op = .rem ∧ v = .int kd (a.tmod b)))
    (r : At P N ops (k + 1) (σ.puts [.t d v]) (fun t s => K (⟨(gpOf ops σ (opAt ops k)).getD [] ++ (opw x (.int kd a) ++ opw y (.int kd b)), [.t d v]⟩ :: t) s)) : At P N ops k σ K := by
  simp only [List.cons.injEq, and_true] at hv
  rcases hop with ⟨rfl, rfl⟩ | ⟨rfl, rfl⟩
  · exact At.step2 hg ⟨ok_div (opd1 ho) (opd2 ho) (by simpa using hn) hv.1 hv.2 rfl hb (.inl rfl), has2 (opw_has hv.1) (opw_has hv.2)⟩ r
  · exact At.step2 hg ⟨ok_div (opd1 ho) (opd2 ho) (by simpa using hn) hv.1 hv.2 rfl hb (.inr rfl), has2 (opw_has hv.1) (opw_has hv.2)⟩ r
theorem At.conv {s t d : Nat} {x : Operand} {kd kd' : IntKind} {a : Int} (v : V) (hg : goes ops σ k = true) (ho : opd (opAt ops k) = (.convert s t x, some d)) (ht : ((P.underlying s).isSome, P.underlying t, Nat.blt d N.n) = (true, some (.int kd'), true)) (hv : σ.ev x = .int kd a) (hw : V.int kd' (kd'.wrap a) = v)
    (r : At P N ops (k + 1) (σ.puts [.t d v]) (fun t s => K (⟨(gpOf ops σ (opAt ops k)).getD [] ++ opw x (.int kd a), [.t d v]⟩ :: t) s)) : At P N ops k σ K := by
  subst hw
  simp only [Prod.mk.injEq] at ht
  exact At.step2 hg ⟨ok_conv ht.1 ht.2.1 (opd1 ho) (opd2 ho) (by simpa using ht.2.2) hv, opw_has hv⟩ r
theorem At.cat {t u d : Nat} {x y : Operand} {a b : ByteArray} (hg : goes ops σ k = true) (ho : opd (opAt ops k) = (.binOp .add t x y u, some d)) (hn : Nat.blt d N.n = true) (hv : [σ.ev x, σ.ev y] = [.str a, .str b]) (hl : a.size + b.size ≤ 9223372036854775807)
    (r : At P N ops (k + 1) (σ.puts [.t d (.str (a ++ b))]) (fun t s => K (⟨(gpOf ops σ (opAt ops k)).getD [] ++ (opw x (.str a) ++ opw y (.str b)), [.t d (.str (a ++ b))]⟩ :: t) s)) : At P N ops k σ K := by
  simp only [List.cons.injEq, and_true] at hv
  exact At.step2 hg ⟨ok_cat (opd1 ho) (opd2 ho) (by simpa using hn) hv.1 hv.2 hl, has2 (opw_has hv.1) (opw_has hv.2)⟩ r
theorem At.idxStr {t d : Nat} {x y : Operand} {s : ByteArray} {kd : IntKind} {i : Int} (c : UInt8) (hg : goes ops σ k = true) (ho : opd (opAt ops k) = (.index t x y, some d)) (ht : (P.underlying t, Nat.blt d N.n) = (some .string, true)) (hv : [σ.ev x, σ.ev y] = [.str s, .int kd i]) (h0 : 0 ≤ i) (hc : s.data[i.toNat]? = some c)
    (r : At P N ops (k + 1) (σ.puts [.t d (.int .u8 (c.toNat : Int))]) (fun t s' => K (⟨(gpOf ops σ (opAt ops k)).getD [] ++ (opw x (.str s) ++ opw y (.int kd i)), [.t d (.int .u8 (c.toNat : Int))]⟩ :: t) s')) : At P N ops k σ K := by
  simp only [List.cons.injEq, and_true] at hv
  simp only [Prod.mk.injEq] at ht
  have h1 : i.toNat < s.size := (Array.getElem?_eq_some_iff.1 hc).1
  have h2 : s[i.toNat] = c := (Array.getElem?_eq_some_iff.1 hc).2
  subst h2
  exact At.step2 hg ⟨ok_indexStr (opd1 ho) (opd2 ho) (by simpa using ht.2) ht.1 hv.1 hv.2 h0 h1, has2 (opw_has hv.1) (opw_has hv.2)⟩ r
theorem At.slStr {t d : Nat} {x : Operand} {lx hx : Option Operand} {s : ByteArray} {vl vh : V} (lo hi : Nat) (hg : goes ops σ k = true) (ho : opd (opAt ops k) = (.slice t x lx hx none, some d)) (ht : (P.underlying t, Nat.blt d N.n) = (some .string, true)) (hv : [σ.ev x, boundV σ lx, boundV σ hx] = [.str s, vl, vh])
    (hl : (lx = none ∧ lo = 0) ∨ ∃ y k, lx = some y ∧ vl = .int k (lo : Int)) (hh : (hx = none ∧ hi = s.size) ∨ ∃ y k, hx = some y ∧ vh = .int k (hi : Int)) (h1 : lo ≤ hi) (h2 : hi ≤ s.size)
    (r : At P N ops (k + 1) (σ.puts [.t d (.str (s.extract lo hi))]) (fun t s' => K (⟨(gpOf ops σ (opAt ops k)).getD [] ++ (opw x (.str s) ++ boW lx vl ++ boW hx vh), [.t d (.str (s.extract lo hi))]⟩ :: t) s')) : At P N ops k σ K := by
  simp only [List.cons.injEq, and_true] at hv
  simp only [Prod.mk.injEq] at ht
  have b1 := bound_h hv.2.1 hl
  have b2 := bound_h hv.2.2 hh
  exact At.step2 hg ⟨ok_sliceStr (opd1 ho) (opd2 ho) (by simpa using ht.2) ht.1 hv.1 b1 b2 h1 h2, has2 (has2 (opw_has hv.1) (bound_w b1)) (bound_w b2)⟩ r
theorem At.out {t d i e es j off e' es' : Nat} {x : Operand} {xs xs' ys : List V} (q : Nat) (y y' : V) (hg : goes ops σ k = true) (ho : opd (opAt ops k) = (.load t x, some d)) (ht : ldT P t N.n d = some (false, 1)) (hx : σ.ev x = .ptr i j off) (hob : (σ.ob i, σ.ob q) = (.arr e es xs, .free)) (hy : xs[j]? = some y) (hc : ((cl y)[off]?, putEl es off [.un] y) = (some (.own e' es' ys), some y')) (hik : i ≠ q) (hxs : xs.set j y' = xs')
    (r : At P N ops (k + 1) (σ.puts ([.o i (.hole e es xs' j off q), .o q (.arr e' es' ys)] ++ [.t d (.ref q)])) (fun t s => K (⟨(gpOf ops σ (opAt ops k)).getD [] ++ (opw x (.ptr i j off) ++ [.o i (.arr e es xs), .o q .free]), [.o i (.hole e es xs' j off q), .o q (.arr e' es' ys)] ++ [.t d (.ref q)]⟩ :: t) s)) : At P N ops k σ K := by
  subst hxs
  simp only [Prod.mk.injEq] at hob hc
  obtain ⟨a1, a2, a3⟩ := ldT_of ht
  exact At.step2 hg ⟨ok_open (opd1 ho) (opd2 ho) a3 hx hob.1 hy hc.1 a1 hc.2 hik, has2 (opw_has hx) ⟨hob.1, hob.2, trivial⟩⟩ r
end
end Go.Sy
end

section
set_option linter.unusedVariables false
set_option linter.unusedSimpArgs false
namespace Go.Sy
section
variable {P : Program} {N : Cx} {ops : Array Oper}
def bitI (op : BinOp) (k : IntKind) (a b : Int) : Option Int :=
  match op with
  | .and => some (k.wrap (BitVec.ofInt k.bits a &&& BitVec.ofInt k.bits b).toNat)
  | .or => some (k.wrap (BitVec.ofInt k.bits a ||| BitVec.ofInt k.bits b).toNat)
  | .xor => some (k.wrap (BitVec.ofInt k.bits a ^^^ BitVec.ofInt k.bits b).toNat)
  | .andNot => some (k.wrap (BitVec.ofInt k.bits a &&& ~~~BitVec.ofInt k.bits b).toNat)
  | _ => none
theorem ok_bits {o : Oper} {op : BinOp} {x y : Operand} {t u : TypeId} {d : Nat} {σ : Sg} {k k' : IntKind} {a b r : Int} (ho : o.op = .binOp op t x y u) (hd : o.dst = some d) (hn : d < N.n)
    (hx : σ.ev x = .int k a) (hy : σ.ev y = .int k' b) (hk : k = k') (hv : bitI op k a b = some r) : CoreOk P N o (opw x (.int k a) ++ opw y (.int k' b)) [.t d (.int k r)] :=
  val_ok hd hn fun G w σ' ac H he hp => by
    subst hk
    obtain ⟨hp1, hp2⟩ := has_append.1 hp
    have h1 := he x
    rw [opw_ev hx hp1] at h1
    have h2 := he y
    rw [opw_ev hy hp2] at h2
    have e1 := Rep.inv_int h1
    have e2 := Rep.inv_int h2
    refine ⟨.int k r, ?_, .g (.int _ _)⟩
    cases op <;> simp only [bitI, Option.some.injEq, reduceCtorEq] at hv <;> subst hv
    all_goals simp [execOp, ho, e1, e2, eqGuard, binOp, Op.intBits]
def shI (op : BinOp) (k : IntKind) (a b : Int) : Option Int :=
  match op with
  | .shl => some (k.wrap (a * 2 ^ min b.toNat k.bits))
  | .shr => some (a / 2 ^ min b.toNat k.bits)
  | _ => none
theorem ok_shift {o : Oper} {op : BinOp} {x y : Operand} {t u : TypeId} {d : Nat} {σ : Sg} {k k' : IntKind} {a b r : Int} (ho : o.op = .binOp op t x y u) (hd : o.dst = some d) (hn : d < N.n)
    (hx : σ.ev x = .int k a) (hy : σ.ev y = .int k' b) (hb : 0 ≤ b) (hv : shI op k a b = some r) : CoreOk P N o (opw x (.int k a) ++ opw y (.int k' b)) [.t d (.int k r)] :=
  val_ok hd hn fun G w σ' ac H he hp => by
    obtain ⟨hp1, hp2⟩ := has_append.1 hp
    have h1 := he x
    rw [opw_ev hx hp1] at h1
    have h2 := he y
    rw [opw_ev hy hp2] at h2
    have e1 := Rep.inv_int h1
    have e2 := Rep.inv_int h2
    refine ⟨.int k r, ?_, .g (.int _ _)⟩
    have hp : (0 : Int) ≤ 2 ^ min b.toNat k.bits := Int.le_of_lt (Int.pow_pos (by decide))
    cases op <;> simp only [shI, Option.some.injEq, reduceCtorEq] at hv <;> subst hv
    all_goals simp [execOp, ho, e1, e2, eqGuard, binOp, Op.shift, Int.not_lt.mpr hb, Int.fdiv_eq_ediv_of_nonneg _ hp]
end
section
variable {P : Program} {N : Cx} {ops : Array Oper} {K : List Tr → Sg → Prop} {k : Nat} {σ : Sg}
theorem At.bits {t u d : Nat} {op : BinOp} {x y : Operand} {kd : IntKind} {a b : Int} (r' : Int) (hg : goes ops σ k = true) (ho : opd (opAt ops k) = (.binOp op t x y u, some d)) (hn : Nat.blt d N.n = true) (hv : [σ.ev x, σ.ev y] = [.int kd a, .int kd b]) (hr : bitI op kd a b = some r')
    (r : At P N ops (k + 1) (σ.puts [.t d (.int kd r')]) (fun t s => K (⟨(gpOf ops σ (opAt ops k)).getD [] ++ (opw x (.int kd a) ++ opw y (.int kd b)), [.t d (.int kd r')]⟩ :: t) s)) : At P N ops k σ K := by
  simp only [List.cons.injEq, and_true] at hv
  exact At.step2 hg ⟨ok_bits (opd1 ho) (opd2 ho) (by simpa using hn) hv.1 hv.2 rfl hr, has2 (opw_has hv.1) (opw_has hv.2)⟩ r
theorem At.shift {t u d : Nat} {op : BinOp} {x y : Operand} {kd kd' : IntKind} {a b : Int} (r' : Int) (hg : goes ops σ k = true) (ho : opd (opAt ops k) = (.binOp op t x y u, some d)) (hn : Nat.blt d N.n = true) (hv : [σ.ev x, σ.ev y] = [.int kd a, .int kd' b]) (hb : 0 ≤ b) (hr : shI op kd a b = some r')
    (r : At P N ops (k + 1) (σ.puts [.t d (.int kd r')]) (fun t s => K (⟨(gpOf ops σ (opAt ops k)).getD [] ++ (opw x (.int kd a) ++ opw y (.int kd' b)), [.t d (.int kd r')]⟩ :: t) s)) : At P N ops k σ K := by
  simp only [List.cons.injEq, and_true] at hv
  exact At.step2 hg ⟨ok_shift (opd1 ho) (opd2 ho) (by simpa using hn) hv.1 hv.2 hb hr, has2 (opw_has hv.1) (opw_has hv.2)⟩ r
end
end Go.Sy
end

section
set_option linter.unusedVariables false
set_option linter.unusedSimpArgs false
namespace Go.Sy
def termAt (l : List Ent) (n : Int) : Int := if n < 1 ∨ (l.length : Int) < n then 0 else ((l[(n - 1).toNat]?).map (·.term)).getD 0
def allIn (lo hi : Int) : List Int → Bool
  | [] => true
  | n :: l => inR n lo hi && allIn lo hi l
def zHard : Hard := ⟨0, 0, []⟩
def zRaft : Raft := ⟨0, 0, 0, 0, zHard, [], [], []⟩
def raftOk1 (r : Raft) : Bool := ofOk r.of_ && (inR r.id 0 (r.of_ - 1) && (inR r.role 1 3 && (hardOk r.hard && (inR r.commit 0 r.hard.log.length && (asc (r.of_ - 1) (-1) r.yes && !hasI r.id r.yes)))))
def raftOk2 (r : Raft) : Bool := (r.role == 2 || (r.yes.length : Int) == 0) && (r.role == 1 || (decide (1 ≤ r.hard.term) && r.hard.vote == r.id + 1))
def raftOk3 (r : Raft) : Bool := if r.role = 3 then ((r.next.length : Int) == r.of_ && allIn 1 (r.hard.log.length + 1) r.next) && ((r.match_.length : Int) == r.of_ && allIn 0 r.hard.log.length r.match_) else (r.next.length : Int) == 0 && (r.match_.length : Int) == 0
def raftOk (r : Raft) : Bool := raftOk1 r && (raftOk2 r && raftOk3 r)
def same (r : Raft) : Raft := if raftOk r = true then r else zRaft
def put (r : Raft) (e : Ent) : Raft := { r with hard := { r.hard with log := r.hard.log ++ [e] } }
end Go.Sy
end

section
set_option linter.unusedVariables false
set_option linter.unusedSimpArgs false
namespace Go.Sy
def cntGe (l : List Int) (n : Int) : Int := (l.countP (fun x => decide (x ≥ n)) : Nat)
def mostB (r : Raft) (n : Int) : Bool := decide (2 * cntGe r.match_ n > r.of_) && termAt r.hard.log n == r.hard.term
def commitGo (r : Raft) : Nat → Int
  | 0 => r.commit
  | k + 1 => if ((k : Int) + 1) > r.commit then (if mostB r (k + 1) = true then (k : Int) + 1 else commitGo r k) else r.commit
def commitOf (r : Raft) : Int := commitGo r r.hard.log.length
theorem commitGo_end {r : Raft} {n : Int} (h : ¬ n > r.commit) (h0 : 0 ≤ n) : commitGo r n.toNat = r.commit := by
  cases hk : n.toNat with
  | zero => rfl
  | succ k => unfold commitGo; rw [if_neg (by omega)]
theorem commitGo_go {r : Raft} {n : Int} (h : n > r.commit) (h0 : 0 < n) : commitGo r n.toNat = if mostB r n = true then n else commitGo r (n - 1).toNat := by
  obtain ⟨k, rfl⟩ : ∃ k : Nat, n = (k : Int) + 1 := ⟨(n - 1).toNat, by omega⟩
  have e1 : ((k : Int) + 1).toNat = k + 1 := by omega
  have e2 : ((k : Int) + 1 - 1).toNat = k := by omega
  rw [e1, e2]
  conv => lhs; unfold commitGo
  rw [if_pos h]
def CInv (r : Raft) (n c : Int) : Prop := (c = r.commit ∧ 0 ≤ n ∧ commitOf r = commitGo r n.toNat) ∨ (n ≤ c ∧ c = commitOf r)
theorem CInv.start (r : Raft) : CInv r r.hard.log.length r.commit := .inl ⟨rfl, by omega, by simp [commitOf]⟩
theorem CInv.skip {r : Raft} {n c : Int} (h : CInv r n c) (hn : n > c) (h0 : 0 ≤ c) (hb : mostB r n = false) : CInv r (n - 1) c := by
  rcases h with ⟨h1, h2, h3⟩ | ⟨h1, h2⟩
  · refine .inl ⟨h1, by omega, ?_⟩
    rw [h3, commitGo_go (by omega) (by omega), hb]
    rfl
  · omega
theorem CInv.take {r : Raft} {n c : Int} (h : CInv r n c) (hn : n > c) (h0 : 0 ≤ c) (hb : mostB r n = true) : CInv r (n - 1) n := by
  rcases h with ⟨h1, h2, h3⟩ | ⟨h1, h2⟩
  · refine .inr ⟨by omega, ?_⟩
    rw [h3, commitGo_go (by omega) (by omega), hb]
    rfl
  · omega
theorem CInv.done {r : Raft} {n c : Int} (h : CInv r n c) (hn : ¬ n > c) : c = commitOf r := by
  rcases h with ⟨h1, h2, h3⟩ | ⟨h1, h2⟩
  · rw [h3, commitGo_end (by omega) h2, h1]
  · exact h2
end Go.Sy
end

section
set_option linter.unusedVariables false
set_option linter.unusedSimpArgs false
namespace Go.Sy
end Go.Sy
end

section
set_option linter.unusedVariables false
set_option linter.unusedSimpArgs false
namespace Go.Sy
end Go.Sy
end

section
set_option linter.unusedVariables false
set_option linter.unusedSimpArgs false
namespace Go.Sy
section
variable {α : Type}
def marks (mk : α → Int → α) (nx : α → Int → Int) : List α → Int → List α
  | [], _ => []
  | a :: l, k => mk a k :: marks mk nx l (nx a k)
def ends (nx : α → Int → Int) : List α → Int → Int
  | [], k => k
  | a :: l, k => ends nx l (nx a k)
def MInv (mk : α → Int → α) (nx : α → Int → Int) (a : List α) (k : Int) (i : Nat) (kk : Int) (o : List α) : Prop :=
  i ≤ a.length ∧ o.length = a.length ∧ o.drop i = a.drop i ∧ marks mk nx a k = o.take i ++ marks mk nx (a.drop i) kk ∧ ends nx a k = ends nx (a.drop i) kk
variable {mk : α → Int → α} {nx : α → Int → Int} {a o : List α} {k kk : Int} {i : Nat}
theorem MInv.start : MInv mk nx a k 0 k a := ⟨by omega, rfl, rfl, by simp, by simp⟩
theorem MInv.get {e : α} (h : MInv mk nx a k i kk o) (he : o[i]? = some e) : a[i]? = some e := by
  have h1 : (o.drop i)[0]? = some e := by simpa using he
  rw [h.2.2.1] at h1
  simpa using h1
theorem MInv.step {e x : α} {k' : Int} (h : MInv mk nx a k i kk o) (he : o[i]? = some e) (hx : x = mk e kk) (hk : k' = nx e kk) : MInv mk nx a k (i + 1) k' (o.set i x) := by
  subst hx
  subst hk
  have hi := (List.getElem?_eq_some_iff.1 he).1
  have hd := dropCons (h.get he)
  obtain ⟨h1, h2, h3, h4, h5⟩ := h
  have h3' : o.drop (i + 1) = a.drop (i + 1) := by
    have := congrArg (List.drop 1) h3
    simpa [List.drop_drop, Nat.add_comm] using this
  refine ⟨by omega, by simpa using h2, ?_, ?_, ?_⟩
  · rw [List.drop_set_of_lt (by omega)]
    exact h3'
  · rw [h4, hd, marks]
    have e2 : (o.set i (mk e kk)).take (i + 1) = o.take i ++ [mk e kk] := by
      rw [List.take_set, List.take_succ_eq_append_getElem hi, List.set_append, if_neg (by rw [List.length_take]; omega)]
      simp [Nat.min_eq_left (Nat.le_of_lt hi)]
    rw [e2]
    simp
  · rw [h5, hd, ends]
theorem MInv.done (h : MInv mk nx a k i kk o) (hi : ¬ (i : Int) < a.length) : o = marks mk nx a k ∧ kk = ends nx a k := by
  obtain ⟨h1, h2, h3, h4, h5⟩ := h
  rw [List.drop_of_length_le (by omega)] at h4 h5
  refine ⟨?_, h5.symm⟩
  rw [h4, List.take_of_length_le (by omega)]
  simp [marks]
end
theorem strOf_size (l : List UInt8) : (strOf l).size = l.length := by
  show l.toArray.size = _
  simp
theorem cat_size (a b : ByteArray) : (a ++ b).size = a.size + b.size := by simp
theorem size0 (s : ByteArray) : (s.toList == (⟨#[]⟩ : ByteArray).toList) = ((s.size : Int) == 0) := by
  have : s.toList.length = s.size := by rw [ByteArray.toList_eq]; simp
  rw [noBytes, Bool.eq_iff_iff, beq_iff_eq, beq_iff_eq, ← List.length_eq_zero_iff, this]
  omega
theorem b0 (s : ByteArray) : (s.toList == []) = ((s.size : Int) == 0) := by
  rw [← noBytes]; exact size0 s
theorem b1 (s : ByteArray) : s.toList.isEmpty = ((s.size : Int) == 0) := by
  rw [← b0]; cases s.toList <;> rfl
end Go.Sy
end

section
set_option linter.unusedVariables false
set_option linter.unusedSimpArgs false
namespace Go.Sy
open Go.RowKit Go.ChangeShapes Go.Deep
def hereG (W : World) : Gh := ⟨fun _ => none, fun _ => False, fun b => b < W.heap.size, fun _ _ => False⟩
def CellsV (W : World) (cs : List Value) (vs : List V) : Prop := cs.length = vs.length ∧ ∀ (j : Nat) (u : Value) (v : V), cs[j]? = some u → vs[j]? = some v → RepG W (fun _ => False) (fun b => b < W.heap.size) u v ∧ u.oneCell' = true
section
variable {H : Type} {enc : TypeId × Value → H} {P : Program} {W : World}
def RdV (enc : TypeId × Value → H) (P : Program) (W : World) (t : TypeId) {α : Type} (sz : Nat) (f : α → List V) (G : α → Prop) : Prop :=
  ∀ (fuel : Nat) (cs : List Value) (x : DataW H × List MemPlace), DataW.trod enc P W 0 (fun _ => true) true fuel t cs = some x → ∃ y, CellsV W cs (f y) ∧ cs.length = sz ∧ G y
theorem cells1 {u : Value} {v : V} (h : RepG W (fun _ => False) (fun b => b < W.heap.size) u v) (ho : u.oneCell' = true) : CellsV W [u] [v] :=
  ⟨rfl, fun j u' v' h1 h2 => by
    cases j with
    | zero => simp at h1 h2; subst h1; subst h2; exact ⟨h, ho⟩
    | succ j => simp at h1⟩
theorem rd_int {t : TypeId} {k : IntKind} (ht : P.underlying t = some (.int k)) : RdV enc P W t 1 (fun n : Int => [.int k n]) (fun n => (Lit.int k n).wf = true) := by
  intro fuel cs x h
  obtain ⟨n, rfl, _, hw⟩ := DataW.trod_int ht h
  exact ⟨n, cells1 (.int _ _) rfl, rfl, hw⟩
theorem list_of {α : Type} (n : Nat) (Q : Nat → α → Prop) (h : ∀ i, i < n → ∃ y, Q i y) : ∃ ys : List α, ys.length = n ∧ ∀ j p, ys[j]? = some p → Q j p := by
  induction n with
  | zero => exact ⟨[], rfl, fun j p hp => by simp at hp⟩
  | succ n ih =>
    obtain ⟨ys, hl, hy⟩ := ih (fun i hi => h i (by omega))
    obtain ⟨y, hq⟩ := h n (by omega)
    refine ⟨ys ++ [y], by simp [hl], fun j p hp => ?_⟩
    by_cases hj : j < n
    · rw [List.getElem?_append_left (by omega)] at hp; exact hy j p hp
    · have hlt := (List.getElem?_eq_some_iff.1 hp).1
      rw [List.length_append, hl] at hlt
      simp only [List.length_singleton] at hlt
      obtain rfl : j = n := by omega
      rw [List.getElem?_append_right (by omega), hl] at hp
      simp at hp; subst hp; exact hq
theorem cell_lt {W : World} {ad : Addr} {u : Value} (h : W.cell? ad = some u) : ad.block < W.heap.size := by
  unfold World.cell? at h
  rcases Nat.lt_or_ge ad.block W.heap.size with h1 | h1
  · exact h1
  · rw [Array.getElem?_eq_none h1] at h
    cases h
theorem rd_slice {t e : TypeId} {α : Type} {sz : Nat} {f : α → List V} {G : α → Prop} (en : α → V) (hen : ∀ x, cl (en x) = f x) (ht : P.underlying t = some (.slice e)) (hc : P.cellsOf e = sz) (h0 : 0 < sz) (hd : RdV enc P W e sz f G) :
    RdV enc P W t 1 (fun xs : List α => [.sl false sz (xs.map en)]) (fun xs => xs.length ≤ 9223372036854775807 ∧ ∀ x ∈ xs, G x) := by
  intro fuel cs x h
  rcases open_slice ht h with ⟨rfl, _⟩ | ⟨a, len, cap, m, n, D, Pl, rfl, _, hl, hm, hmm, _, hel⟩
  · exact ⟨[], cells1 (.slE _ _ _ _) rfl, rfl, by simp, by simp⟩
  · have hm' : cap ≤ 9223372036854775807 := by unfold maxLen at hm; omega
    have hmc : m = cap := by simpa using hmm
    obtain ⟨ys, hyl, hy⟩ := list_of len (fun i (y : α) => ∃ c : List Value, CellsV W c (f y) ∧ c.length = sz ∧ (∀ j u, c[j]? = some u → W.cell? (a.add (i * sz + j)) = some u) ∧ G y) (fun i hi => by
      obtain ⟨c, hc1, hc2⟩ := hel i (by omega)
      obtain ⟨y, hK, hL, hG⟩ := hd n c _ hc2
      obtain ⟨_, hcl, hcell⟩ := World.cells?_some hc1
      refine ⟨y, c, hK, hL, fun j u hu => ?_, hG⟩
      have hlt := (List.getElem?_eq_some_iff.1 hu).1
      have := hcell j (by omega)
      rw [Go.Deep.add_add, hc] at this
      rw [this, hu])
    refine ⟨ys, cells1 ?_ rfl, rfl, by omega, fun z hz => ?_⟩
    · by_cases hz : len = 0
      · have : ys = [] := List.eq_nil_of_length_eq_zero (by omega)
        subst this
        subst hz
        exact .slE _ _ _ _
      · have hget : ∀ (k : Nat) (x : V), (ys.map en)[k]? = some x → ∃ (y : α) (c : List Value), ys[k]? = some y ∧ cl x = f y ∧ CellsV W c (f y) ∧ c.length = sz ∧ (∀ j u, c[j]? = some u → W.cell? (a.add (k * sz + j)) = some u) := by
          intro k x hx
          rw [List.getElem?_map] at hx
          obtain ⟨y, hy1, rfl⟩ := Option.map_eq_some_iff.1 hx
          obtain ⟨c, c1, c2, c3, _⟩ := hy k y hy1
          exact ⟨y, c, hy1, hen y, c1, c2, c3⟩
        have hu : ∀ (k : Nat) (x : V), (ys.map en)[k]? = some x → ∀ (j : Nat) (y : V), (cl x)[j]? = some y → ∃ u, W.cell? (a.add (k * sz + j)) = some u ∧ RepG W (fun _ => False) (fun b => b < W.heap.size) u y ∧ u.oneCell' = true := by
          intro k x hx j y hj
          obtain ⟨y', c, h1, h2, h3, h4, h5⟩ := hget k x hx
          rw [h2] at hj
          have hjl := (List.getElem?_eq_some_iff.1 hj).1
          have hjc : j < c.length := by rw [h3.1]; exact hjl
          have hcu := List.getElem?_eq_getElem hjc
          obtain ⟨r1, r2⟩ := h3.2 j _ y hcu hj
          exact ⟨_, h5 j _ hcu, r1, r2⟩
        have hblk : a.block < W.heap.size := by
          have h1 : 0 < ys.length := by omega
          have h2 : (ys.map en)[0]? = some (en ys[0]) := by rw [List.getElem?_map, List.getElem?_eq_getElem h1]; rfl
          obtain ⟨y', c, _, _, _, h4, h5⟩ := hget 0 _ h2
          have h6 : 0 < c.length := by omega
          have h7 := h5 0 _ (List.getElem?_eq_getElem h6)
          have h8 := cell_lt h7
          have h9 : (a.add (0 * sz + 0)).block = a.block := by unfold Addr.add; split <;> rfl
          rwa [h9] at h8
        refine .sl a len cap false sz (ys.map en) (fun k j => (W.cell? (a.add (k * sz + j))).getD undef) (by simp; exact hyl) (by omega) (by simp only [maxLen]; omega) (by simpa using hblk) (fun k x hx => ?_) (fun k x hx j y hj => ?_) (fun k x hx j y hj => ?_) (fun h => by cases h) (fun k x hx j y hj => ?_)
        · obtain ⟨y', c, _, h2, h3, h4, _⟩ := hget k x hx
          rw [h2, ← h3.1, h4]
        all_goals
          obtain ⟨u, q1, q2, q3⟩ := hu k x hx j y hj
        · rw [q1]; rfl
        · rw [q1]; exact q3
        · rw [q1]; exact q2
    · obtain ⟨j, hj⟩ := List.getElem?_of_mem hz
      obtain ⟨_, _, _, _, hG⟩ := hy j z hj
      exact hG
theorem rep_one {u : Value} {v : V} (h : CellsV W [u] [v]) : (hereG W).Rep W u v := .g (h.2 0 u v rfl rfl).1
theorem here_hold (W : World) : Hold (hereG W) W (obs []) where
  ij := fun _ h => h.elim
  lt := fun _ h => h
  own := fun i => ⟨rfl, fun _ h => h⟩
  flt := fun _ _ h => h.elim
  fj := fun _ _ h => h.elim
  dis := fun _ _ _ h => h.elim
end
end Go.Sy
end

section
set_option linter.unusedVariables false
set_option linter.unusedSimpArgs false
namespace Go.Sy
section
variable {P : Program} {N : Cx} {ops : Array Oper} {K : List Tr → Sg → Prop} {k : Nat} {σ : Sg}
theorem getD_get {α : Type} {o : Option α} (h : o.isSome = true) (d : α) : o.getD d = o.get h := by
  obtain ⟨x, rfl⟩ := Option.isSome_iff_exists.1 h
  rfl
theorem At.a (m : Nat) (r : At P N ops (k + m) ((autoS P N.n ops k m σ).getD ([], σ)).2 (fun t s => K (((autoS P N.n ops k m σ).getD ([], σ)).1 ++ t) s)) (h : (autoS P N.n ops k m σ).isSome = true := by kernel_rfl) : At P N ops k σ K := by
  rw [getD_get h] at r
  exact At.auto m h r
theorem At.sI (d : Nat) (n : Int) (hb : -9223372036854775808 ≤ n ∧ n ≤ 9223372036854775807) (r : At P N ops k (σ.put (.t d (.int .i64 n))) K) (h : σ.tm d = .int .i64 (IntKind.i64.wrap n) := by kernel_rfl) : At P N ops k σ K := At.say d _ _ h (sayI n hb) r
theorem At.sL {α : Type} (d : Nat) (f : α → V) (l : List α) (r : At P N ops k (σ.put (.t d (.int .i64 (l.length : Int)))) K) (h : σ.tm d = .int .i64 (((l.map f).length : Nat) : Int) := by kernel_rfl) : At P N ops k σ K := At.say d _ _ h (sayLen f l) r
theorem At.sB (d : Nat) (b v : Bool) (e : V.bool b = V.bool v) (r : At P N ops k (σ.put (.t d (.bool v))) K) (h : σ.tm d = .bool b := by kernel_rfl) : At P N ops k σ K := At.say d _ _ h e r
theorem At.iSl (t d : Nat) (x y : Operand) (p : Bool) (es : Nat) (xs : List V) (kd : IntKind) (i : Int) (e : Nat) (h0 : 0 ≤ i) (h1 : i.toNat < xs.length)
    (r : At P N ops (k + 1) (σ.puts [.t d (.vp p es xs i.toNat 0)]) (fun t s => K (⟨(gpOf ops σ (opAt ops k)).getD [] ++ (opw x (.sl p es xs) ++ opw y (.int kd i)), [.t d (.vp p es xs i.toNat 0)]⟩ :: t) s)) (hg : goes ops σ k = true := by kernel_rfl) (ho : opd (opAt ops k) = (.indexAddr t x y, some d) := by kernel_rfl) (ht : slE P t N.n d = some (e, es) := by kernel_rfl) (hv : [σ.ev x, σ.ev y] = [.sl p es xs, .int kd i] := by kernel_rfl) : At P N ops k σ K := At.idxSl hg ho ht hv h0 h1 r
theorem At.iRf (t d : Nat) (x y : Operand) (j : Nat) (xs : List V) (kd : IntKind) (i : Int) (e es : Nat) (h0 : 0 ≤ i) (h1 : i.toNat < xs.length)
    (r : At P N ops (k + 1) (σ.puts [.t d (.ptr j i.toNat 0)]) (fun t s => K (⟨(gpOf ops σ (opAt ops k)).getD [] ++ (opw x (.ref j) ++ opw y (.int kd i) ++ [.o j (.arr e es xs)]), [.t d (.ptr j i.toNat 0)]⟩ :: t) s)) (hg : goes ops σ k = true := by kernel_rfl) (ho : opd (opAt ops k) = (.indexAddr t x y, some d) := by kernel_rfl) (ht : slE P t N.n d = some (e, es) := by kernel_rfl) (hv : [σ.ev x, σ.ev y] = [.ref j, .int kd i] := by kernel_rfl) (hob : σ.ob j = .arr e es xs := by kernel_rfl) : At P N ops k σ K := At.idxRef hg ho ht hv hob h0 h1 r
theorem At.lVp (t d : Nat) (x : Operand) (p : Bool) (es : Nat) (xs : List V) (j off : Nat) (b : Bool) (m : Nat) (y v : V) (hy : xs[j]? = some y)
    (r : At P N ops (k + 1) (σ.puts [.t d v]) (fun t s => K (⟨(gpOf ops σ (opAt ops k)).getD [] ++ opw x (.vp p es xs j off), [.t d v]⟩ :: t) s)) (hg : goes ops σ k = true := by kernel_rfl) (ho : opd (opAt ops k) = (.load t x, some d) := by kernel_rfl) (ht : ldT P t N.n d = some (b, m) := by kernel_rfl) (hx : σ.ev x = .vp p es xs j off := by kernel_rfl) (hv : loadV b m off (cl y) = some v := by kernel_rfl) : At P N ops k σ K := At.ldVp y v hg ho ht hx hy hv r
theorem At.lEl (t d : Nat) (x : Operand) (i e es : Nat) (xs : List V) (j off : Nat) (b : Bool) (m : Nat) (y v : V) (hy : xs[j]? = some y)
    (r : At P N ops (k + 1) (σ.puts [.t d v]) (fun t s => K (⟨(gpOf ops σ (opAt ops k)).getD [] ++ (opw x (.ptr i j off) ++ [.o i (.arr e es xs)]), [.t d v]⟩ :: t) s)) (hg : goes ops σ k = true := by kernel_rfl) (ho : opd (opAt ops k) = (.load t x, some d) := by kernel_rfl) (ht : ldT P t N.n d = some (b, m) := by kernel_rfl) (hx : σ.ev x = .ptr i j off := by kernel_rfl) (hob : σ.ob i = .arr e es xs := by kernel_rfl) (hv : (loadV b m off (cl y), (cl y).all plain) = (some v, true) := by kernel_rfl) : At P N ops k σ K := At.ldEl y v hg ho ht hx hob hy hv r
theorem At.c {f : Nat} {As : List V} {T T' : List Ob} {R : V} (hs : FnSpec P f As T R T') (hcall : ∀ args w, (callFunc f args).run P w = .ok (.enter f args) w) (q : Bool) (L M : List (Nat × Nat)) (ro : List (Nat × Nat × List V)) (hro : RoOk σ.ob L ro)
    (r : At P N ops (k + 1) (σ.puts (backW q T' (L ++ M) (L ++ M) ++ dstW (opAt ops k).dst (R.bk q (L ++ M)))) (fun t s => K (⟨(gpOf ops σ (opAt ops k)).getD [] ++ (argsW (argsAt ops k) (evs σ (argsAt ops k)) ++ obW σ.ob (L.map Prod.fst) ++ obW σ.ob (ro.map Prod.fst) ++ freeW M), backW q T' (L ++ M) (L ++ M) ++ dstW (opAt ops k).dst (R.bk q (L ++ M))⟩ :: t) s)) (hg : goes ops σ k = true := by kernel_rfl) (ho : (callOf (opAt ops k)).map Prod.fst = some f := by kernel_rfl)
    (hA : viewL L ro (evs σ (argsAt ops k)) = As := by kernel_rfl) (hT : (L.map fun p => (σ.ob p.1).ren (hOf L)) = T := by kernel_rfl)
    (hL : ((match (opAt ops k).dst with
      | some d => decide (d < N.n)
      | none => true) && (okL (L ++ M) && (L.map Prod.snd == List.range T.length) && L.all (fun p => live (σ.ob p.1)) && (!q || ro.isEmpty)) && M.all (fun p => isFree (σ.ob p.1))) = true := by kernel_rfl) : At P N ops k σ K := At.call hs hcall q L M ro hg ho hA hT hL hro r
theorem KF.m {m : Nat} {rs : List ResultVar} {R : V} {T' : List Ob} {e : Exit} (L : List (Nat × Nat)) (vs : List V) (he : e = .normal ∨ e = .ret := by first | exact .inr rfl | exact .inl rfl) (h1 : (okL L && fixes m L) = true := by kernel_rfl) (h2 : resV P σ rs = some vs := by kernel_rfl) (h3 : R = (resOf vs).ren (hOf L) := by kernel_rfl) (h4 : L.map Prod.snd = List.range T'.length := by kernel_rfl) (h5 : T' = L.map fun p => (σ.ob p.1).ren (hOf L) := by kernel_rfl) : KF P m rs R T' e σ := KF.mk he L vs h1 h2 h3 h4 h5
theorem Sub.o (L : List (Nat × Nat)) (mask : List Bool) {tl : List V} {ol : List (Nat × Ob)} (hL : (okL L && fixes N.m L) = true := by kernel_rfl) (ht : tl = keepT σ (hOf L) 0 mask := by kernel_rfl) (ho : ol = keepO σ (hOf L) L := by kernel_rfl) : Sub N σ (Go.Sy.mk tl ol) := Sub.of L mask tl ol hL ht ho
end
section
variable {P : Program} {N : Cx} {σ : Sg} {K : Exit → Sg → Prop}
theorem AW.cD {c : Operand} {x y : Code} (p : Prop) [Decidable p] (h1 : p → AW P N x σ K) (h2 : ¬ p → AW P N y σ K) (hc : σ.ev c = .bool (decide p) := by kernel_rfl) : AW P N (.cond c x y) σ K :=
  AW.cond _ hc (fun h => h1 (of_decide_eq_true h)) (fun h => h2 (of_decide_eq_false h))
theorem AW.cE {α : Type} [BEq α] [LawfulBEq α] {c : Operand} {x y : Code} (a b : α) (h1 : a = b → AW P N x σ K) (h2 : ¬ a = b → AW P N y σ K) (hc : σ.ev c = .bool (a == b) := by kernel_rfl) : AW P N (.cond c x y) σ K :=
  AW.cond _ hc (fun h => h1 (eq_of_beq h)) (fun h => h2 (ne_of_beq_false h))
theorem AW.cB {c : Operand} {x y : Code} (b : Bool) (h1 : b = true → AW P N x σ K) (h2 : b = false → AW P N y σ K) (hc : σ.ev c = .bool b := by kernel_rfl) : AW P N (.cond c x y) σ K := AW.cond _ hc h1 h2
theorem AW.cNB {c : Operand} {x y : Code} (b : Bool) (h1 : b = false → AW P N x σ K) (h2 : b = true → AW P N y σ K) (hc : σ.ev c = .bool (!b) := by kernel_rfl) : AW P N (.cond c x y) σ K := AW.cond _ hc (fun h => h1 (by simpa using h)) (fun h => h2 (by simpa using h))
theorem AW.cNE {α : Type} [BEq α] [LawfulBEq α] {c : Operand} {x y : Code} (a b : α) (h1 : ¬ a = b → AW P N x σ K) (h2 : a = b → AW P N y σ K) (hc : σ.ev c = .bool (!(a == b)) := by kernel_rfl) : AW P N (.cond c x y) σ K := AW.cond _ hc (fun h => h1 (by simpa using h)) (fun h => h2 (by simpa using h))
theorem AW.r {c : Code} {id : Nat} {ops : Array Oper} (h : At P N ops 0 σ (fun _ s => thenK (fun s' => AW P N c s' K) K .normal s)) : AW P N (.seq (.region id ops false) c) σ K := AW.seq (AW.region (At.start h))
end
end Go.Sy
end

section
set_option linter.unusedVariables false
set_option linter.unusedSimpArgs false
namespace Go.Sy
structure Cur where
  data : List UInt8
  pos : Int
  seed : Int
section
variable {P : Program} {N : Cx}
def LW (P : Program) (c : Code) (Q : Exit → Act → World → Prop) (a : Act) (w : World) : Prop :=
  ∀ b k cs, ∃ e a' w', Q e a' w' ∧ Arrives P (lone (b.at a (.code c :: .inLoop c :: k)) cs w) b k cs e a' w'
theorem LW.round {c : Code} {Q : Exit → Act → World → Prop} {a : Act} {w : World} (h : c.wp P (Exit.then (LW P c Q) Q) a w) : LW P c Q a w := by
  intro b k cs
  obtain ⟨e, a₁, w₁, hq, harr⟩ := h b (.inLoop c :: k) cs
  cases e with
  | normal =>
    obtain ⟨e₂, a₂, w₂, hq₂, harr₂⟩ := hq b k cs
    exact ⟨e₂, a₂, w₂, hq₂, .of_steps (Steps.trans harr (.one step_inLoop)) harr₂⟩
  | exit id => exact ⟨_, a₁, w₁, hq, .pass (x := .inLoop c) rfl (fun _ _ => .inl (by simp)) harr⟩
  | goto l => exact ⟨_, a₁, w₁, hq, .pass (x := .inLoop c) rfl (fun _ _ => .inl (by simp)) harr⟩
  | ret => exact ⟨_, a₁, w₁, hq, .pass (x := .inLoop c) rfl (fun _ _ => .inl (by simp)) harr⟩
  | panic ch => exact ⟨_, a₁, w₁, hq, .pass (x := .inLoop c) rfl (fun _ _ => .inl (by simp)) harr⟩
  | outgrown => exact ⟨_, a₁, w₁, hq, .pass (x := .inLoop c) rfl (fun _ _ => .inl (by simp)) harr⟩
theorem LW.loop {c : Code} {Q : Exit → Act → World → Prop} {a : Act} {w : World} (h : LW P c Q a w) : (Code.loop c).wp P Q a w := by
  intro b k cs
  obtain ⟨e, a', w', hq, harr⟩ := h b k cs
  exact ⟨e, a', w', hq, .of_steps (.one step_loop) harr⟩
def AWL (P : Program) (N : Cx) (c : Code) (σ : Sg) (K : Exit → Sg → Prop) : Prop :=
  ∀ G0 w0 a w, St G0 w0 N σ a w → LW P c (fun e a' w' => ∃ σ', K e σ' ∧ St G0 w0 N σ' a' w') a w
theorem AWL.round {c : Code} {σ : Sg} {K : Exit → Sg → Prop} (h : AW P N c σ (thenK (fun σ' => AWL P N c σ' K) K)) : AWL P N c σ K := by
  intro G0 w0 a w s
  refine LW.round (wp_mono (h G0 w0 a w s) ?_)
  rintro e a' w' ⟨σ', h1, h2⟩
  cases e with
  | normal => exact h1 G0 w0 a' w' h2
  | exit id => exact ⟨σ', h1, h2⟩
  | goto l => exact ⟨σ', h1, h2⟩
  | ret => exact ⟨σ', h1, h2⟩
  | panic ch => exact ⟨σ', h1, h2⟩
  | outgrown => exact ⟨σ', h1, h2⟩
theorem AWL.loop {c : Code} {σ : Sg} {K : Exit → Sg → Prop} (h : AWL P N c σ K) : AW P N (.loop c) σ K := fun G0 w0 a w s => LW.loop (h G0 w0 a w s)
theorem AWL.weak {c : Code} {σ σ' : Sg} {K : Exit → Sg → Prop} (hs : Sub N σ σ') (h : AWL P N c σ' K) : AWL P N c σ K := fun G0 w0 a w s => h G0 w0 a w (hs G0 w0 a w s)
theorem DW.loop {ρ β : Type} {Φ : ρ → Exit → Sg → Prop} {c : Code} {σ : Sg} (S : β → Sg) (R : β → Prop) (m : β → Nat) (x : β) (hx : R x) (h0 : Sub N σ (S x))
    (round : ∀ x, R x → (∀ y, R y → m y < m x → ∃ r, AWL P N c (S y) (Φ r)) → ∃ r, AW P N c (S x) (thenK (fun σ' => AWL P N c σ' (Φ r)) (Φ r))) : ∃ r, AW P N (.loop c) σ (Φ r) := by
  have key : ∀ n x, m x = n → R x → ∃ r, AWL P N c (S x) (Φ r) := by
    intro n
    induction n using Nat.strongRecOn with
    | _ n ih =>
      intro x hn hx
      obtain ⟨r, hr⟩ := round x hx (fun y hy hm => ih (m y) (hn ▸ hm) y rfl hy)
      exact ⟨r, AWL.round hr⟩
  obtain ⟨r, hr⟩ := key _ x rfl hx
  exact ⟨r, AW.weak h0 (AWL.loop hr)⟩
theorem dw {ρ : Type} {Q A B : ρ → Prop} (h : ∀ r, A r → B r) : (∃ r, Q r ∧ A r) → ∃ r, Q r ∧ B r := fun ⟨r, q, a⟩ => ⟨r, q, h r a⟩
theorem DW.loopQ {ρ β : Type} {Q : ρ → Prop} {Φ : ρ → Exit → Sg → Prop} {c : Code} {σ : Sg} (S : β → Sg) (R : β → Prop) (m : β → Nat) (x : β) (hx : R x) (h0 : Sub N σ (S x))
    (round : ∀ x, R x → (∀ y, R y → m y < m x → ∃ r, Q r ∧ AWL P N c (S y) (Φ r)) → ∃ r, Q r ∧ AW P N c (S x) (thenK (fun σ' => AWL P N c σ' (Φ r)) (Φ r))) : ∃ r, Q r ∧ AW P N (.loop c) σ (Φ r) := by
  have key : ∀ n x, m x = n → R x → ∃ r, Q r ∧ AWL P N c (S x) (Φ r) := by
    intro n
    induction n using Nat.strongRecOn with
    | _ n ih =>
      intro x hn hx
      obtain ⟨r, hq, hr⟩ := round x hx (fun y hy hm => ih (m y) (hn ▸ hm) y rfl hy)
      exact ⟨r, hq, AWL.round hr⟩
  obtain ⟨r, hq, hr⟩ := key _ x rfl hx
  exact ⟨r, hq, AW.weak h0 (AWL.loop hr)⟩
end
end Go.Sy
end

section
set_option linter.unusedVariables false
set_option linter.unusedSimpArgs false
namespace Go.Sy
end Go.Sy
end

section
set_option linter.unusedVariables false
set_option linter.unusedSimpArgs false
namespace Go.Sy
end Go.Sy
end

section
set_option linter.unusedVariables false
set_option linter.unusedSimpArgs false
namespace Go.Sy
end Go.Sy
end

section
set_option linter.unusedVariables false
set_option linter.unusedSimpArgs false
namespace Go.Sy
def bitV (op : BinOp) (k : IntKind) (a b : Int) : Int := (bitI op k a b).getD 0
def shV (op : BinOp) (k : IntKind) (a b : Int) : Int := (shI op k a b).getD 0
theorem bitS_xor (k : IntKind) (a b : Int) : bitI .xor k a b = some (bitV .xor k a b) := rfl
theorem shS_shr (k : IntKind) (a b : Int) : shI .shr k a b = some (shV .shr k a b) := rfl
theorem andM (n : Nat) (q a m : Int) (hn : n ≤ 62) (hm : m = 2 ^ n - 1) (hq : q = 2 ^ n) : bitI .and .i64 a m = some (a % q) := by
  subst hm
  subst hq
  have hp : (2 : Nat) ^ n ≤ 2 ^ 62 := Nat.pow_le_pow_right (by decide) hn
  have hp0 : 0 < (2 : Nat) ^ n := Nat.pow_pos (by decide)
  have e0 : ((2 : Int) ^ n - 1) = ((2 ^ n - 1 : Nat) : Int) := by
    rw [Int.ofNat_sub hp0]; simp
  have e1 : (BitVec.ofInt 64 ((2 : Int) ^ n - 1)).toNat = 2 ^ n - 1 := by
    rw [e0, BitVec.ofInt_natCast, BitVec.toNat_ofNat, Nat.mod_eq_of_lt]
    omega
  have e : ((BitVec.ofInt 64 a &&& BitVec.ofInt 64 ((2 : Int) ^ n - 1)).toNat : Int) = a % 2 ^ n := by
    rw [BitVec.toNat_and, e1, Nat.and_two_pow_sub_one_eq_mod, BitVec.toNat_ofInt]
    have h1 : (0 : Int) ≤ a % (2 ^ 64 : Nat) := Int.emod_nonneg _ (by decide)
    rw [Int.natCast_emod, Int.toNat_of_nonneg h1]
    have : ((2 ^ 64 : Nat) : Int) = ((2 ^ n : Nat) : Int) * ((2 ^ (64 - n) : Nat) : Int) := by
      rw [← Int.natCast_mul, ← Nat.pow_add, show n + (64 - n) = 64 by omega]
    rw [Int.emod_emod_of_dvd _ ⟨_, this⟩]
    simp
  have e2 : bitI .and .i64 a ((2 : Int) ^ n - 1) = some (IntKind.i64.wrap ((BitVec.ofInt 64 a &&& BitVec.ofInt 64 ((2 : Int) ^ n - 1)).toNat : Int)) := rfl
  rw [e2, e]
  have h3 : (0 : Int) ≤ a % 2 ^ n := Int.emod_nonneg _ (by omega)
  have h4 : a % 2 ^ n < 2 ^ n := Int.emod_lt_of_pos _ (by omega)
  have h5 : ((2 : Int) ^ n) ≤ 2 ^ 62 := by
    have := Int.ofNat_le.2 hp
    simpa using this
  congr 1
  generalize a % 2 ^ n = z at h3 h4
  generalize (2 : Int) ^ n = w at h4 h5
  simp [IntKind.wrap, IntKind.bits, IntKind.signed]
  omega
end Go.Sy
end

section
set_option linter.unusedVariables false
set_option linter.unusedSimpArgs false
namespace Go.Sy
end Go.Sy
end

section
set_option linter.unusedVariables false
set_option linter.unusedSimpArgs false
namespace Go.Sy
theorem rd_u8 {H : Type} {enc : TypeId × Value → H} {P : Program} {W : World} {t : TypeId} (ht : P.underlying t = some (.int .u8)) : RdV enc P W t 1 (fun b : UInt8 => [encU8 b]) (fun _ => True) := by
  intro fuel cs x h
  obtain ⟨n, hK, hl, hw⟩ := rd_int (enc := enc) (W := W) ht fuel cs x h
  have hb : 0 ≤ n ∧ n ≤ 255 := by
    simp only [Lit.wf, Bool.and_eq_true, decide_eq_true_eq] at hw
    simp [IntKind.min, IntKind.max, IntKind.bits, IntKind.signed] at hw
    omega
  refine ⟨UInt8.ofNat n.toNat, ?_, hl, trivial⟩
  have e : encU8 (UInt8.ofNat n.toNat) = .int .u8 n := by
    unfold encU8
    congr 1
    rw [UInt8.toNat_ofNat']
    omega
  simpa only [e] using hK
end Go.Sy
end

section
set_option linter.unusedVariables false
set_option linter.unusedSimpArgs false
namespace Go.Sy
theorem dv {ρ : Type} {Q A B : ρ → Prop} (h : ∀ {r}, A r → B r) : (∃ r, Q r ∧ A r) → ∃ r, Q r ∧ B r := fun ⟨r, q, a⟩ => ⟨r, q, h a⟩
theorem rf {N : Cx} {σ : Sg} {K : Sg → Prop} (h : K σ) : ∃ s1, Sub N σ s1 ∧ K s1 := ⟨σ, Sub.refl N σ, h⟩
theorem KF.n {P : Program} {σ : Sg} {m : Nat} {rs : List ResultVar} {R : V} {T' : List Ob} {e : Exit} (L : List (Nat × Nat)) (he : e = .normal ∨ e = .ret := by first | exact .inr rfl | exact .inl rfl) (h1 : (okL L && fixes m L && (resV P σ rs).isSome) = true := by kernel_rfl) (h3 : R = (resOf ((resV P σ rs).getD [])).ren (hOf L) := by kernel_rfl) (h4 : L.map Prod.snd = List.range T'.length := by kernel_rfl) (h5 : T' = L.map fun p => (σ.ob p.1).ren (hOf L) := by kernel_rfl) : KF P m rs R T' e σ := by
  have h1' := (Bool.and_eq_true _ _).mp h1
  have h2 : resV P σ rs = some ((resV P σ rs).getD []) := by
    obtain ⟨x, hx⟩ := Option.isSome_iff_exists.1 h1'.2
    rw [hx]; rfl
  exact KF.mk he L _ h1'.1 h2 h3 h4 h5
theorem gE {α : Type} (l : List α) (i : Nat) (h : i < l.length) : ∃ e, l[i]? = some e := ⟨_, List.getElem?_eq_getElem h⟩
section
variable {e : Exit} {σ : Sg} {α β γ δ : Type}
theorem k1 (K : α → Exit → Sg → Prop) {a a' : α} (h : a = a') (r : K a e σ) : K a' e σ := h ▸ r
theorem k2 (K : α → β → Exit → Sg → Prop) {a a' : α} {b b' : β} (h : a = a') (h2 : b = b') (r : K a b e σ) : K a' b' e σ := h ▸ h2 ▸ r
theorem k3 (K : α → β → γ → Exit → Sg → Prop) {a a' : α} {b b' : β} {c c' : γ} (h : a = a') (h2 : b = b') (h3 : c = c') (r : K a b c e σ) : K a' b' c' e σ := h ▸ h2 ▸ h3 ▸ r
end
section
variable {P : Program} {N : Cx} {ops : Array Oper} {k : Nat} {σ : Sg}
theorem At.z {K : List Tr → Sg → Prop} (m : Nat) (r : K (((autoS P N.n ops k m σ).getD ([], σ)).1 ++ []) ((autoS P N.n ops k m σ).getD ([], σ)).2) (h : (autoS P N.n ops k m σ).isSome = true := by kernel_rfl) (hk : ops.size = k + m := by rfl) : At P N ops k σ K :=
  At.a m (At.done hk r) h
theorem At.zD {K : List Tr → Sg → Prop} {A : List Tr → Bool} (m : Nat) (r : K (((autoS P N.n ops k m σ).getD ([], σ)).1 ++ []) ((autoS P N.n ops k m σ).getD ([], σ)).2) (h : (autoS P N.n ops k m σ).isSome = true := by kernel_rfl) (hk : ops.size = k + m := by rfl) (hc : A (((autoS P N.n ops k m σ).getD ([], σ)).1 ++ []) = true := by kernel_rfl) : At P N ops k σ (fun t s => A t = true ∧ K t s) :=
  At.z m ⟨hc, r⟩ h hk
theorem AW.q {c : Code} {id : Nat} {K : Exit → Sg → Prop} (m : Nat) (r : thenK (fun s' => AW P N c s' K) K .normal ((autoS P N.n ops 0 m σ).getD ([], σ)).2) (h : (autoS P N.n ops 0 m σ).isSome = true := by kernel_rfl) (hk : ops.size = 0 + m := by rfl) : AW P N (.seq (.region id ops false) c) σ K := AW.r (At.z m r h hk)
theorem AW.g {id : Nat} {K : Exit → Sg → Prop} (h : At P N ops 0 σ (fun _ s => K .normal s)) : AW P N (.region id ops false) σ K := AW.region (At.start h)
theorem AW.gD {id : Nat} {K : Exit → Sg → Prop} (hm : P.follows .mixedOrders = true) (h : At P N ops 0 σ (fun trs s => chk ops.toList trs = true ∧ K .normal s)) : AW P N (.region id ops true) σ K := AW.regionD hm (At.start h)
theorem AW.gq {id : Nat} {K : Exit → Sg → Prop} (m : Nat) (r : K .normal ((autoS P N.n ops 0 m σ).getD ([], σ)).2) (h : (autoS P N.n ops 0 m σ).isSome = true := by kernel_rfl) (hk : ops.size = 0 + m := by rfl) : AW P N (.region id ops false) σ K := AW.region (At.start (At.z m r h hk))
def litX (P : Program) (nn : Nat) (o : Oper) (σ : Sg) (q : Nat × Nat) : Option (Nat × Nat × Nat × List Nat × List V) :=
  match o.op, o.dst with
  | .buildSlice t n parts, some d => match slE P t nn d with
    | some (e, es) => match elInfo P e with
      | some (es2, _) => match zeroCs P e with
        | some zs => match Nat.beq es es2 && (decide (0 < n) && decide (n * es ≤ 16777216)) with
          | true => match fillV (fun i => some (i * es, es)) (zerosV n zs) (partsEv σ parts.toList) with
            | some cs => match convL q σ.ob cs with
              | some (cs', kill) => match nodupB kill with
                | true => some (d, e, es, kill, chunk es n cs')
                | false => none
              | none => none
            | none => none
          | false => none
        | none => none
      | none => none
    | none => none
  | _, _ => none
def litP (o : Oper) : List (Nat × Operand) := match o.op with
  | .buildSlice _ _ p => p.toList
  | _ => []
theorem At.lk {K : List Tr → Sg → Prop} (d e es j : Nat) (q : Nat × Nat) (kill : List Nat) (xs : List V) (fl : List (Nat × Nat × List V)) (hfs : ∀ p ∈ fl, ∀ x ∈ p.2.2, (cl x).all gS = true)
    (r : At P N ops (k + 1) (σ.puts ((killW kill ++ [.o j (.arr e es xs)]) ++ [.t d (.ref j)])) (fun t s => K (⟨(gpOf ops σ (opAt ops k)).getD [] ++ (partsW (litP (opAt ops k)) (partsEv σ (litP (opAt ops k))) ++ obW σ.ob kill ++ [.o j .free]), (killW kill ++ [.o j (.arr e es xs)]) ++ [.t d (.ref j)]⟩ :: t) s)) (hg : goes ops σ k = true := by kernel_rfl)
    (hx : litX P N.n (opAt ops k) σ q = some (d, e, es, kill, xs) := by kernel_rfl) (hj : (notIn j kill, σ.ob j) = (true, .free) := by kernel_rfl) (hfl : kill.map σ.ob = fl.map (fun p => Ob.arr p.1 p.2.1 p.2.2) := by kernel_rfl) : At P N ops k σ K := by
  simp only [Prod.mk.injEq] at hj
  unfold litX at hx
  split at hx
  · rename_i t n parts d' hop hdst
    split at hx
    · rename_i e1 es1 hsl
      split at hx
      · rename_i es2 by_ hel
        split at hx
        · rename_i zs hz
          split at hx
          · rename_i hb
            split at hx
            · rename_i cs hfill
              split at hx
              · rename_i cs' kill' hconv
                split at hx
                · rename_i hnd
                  simp only [Option.some.injEq, Prod.mk.injEq] at hx
                  obtain ⟨rfl, rfl, rfl, rfl, rfl⟩ := hx
                  simp only [Bool.and_eq_true] at hb
                  obtain rfl := Nat.eq_of_beq_eq_true hb.1
                  have ho : opd (opAt ops k) = (.buildSlice t n parts, some d') := by unfold opd; rw [hop, hdst]
                  have hp : litP (opAt ops k) = parts.toList := by unfold litP; rw [hop]
                  rw [hp] at r
                  exact At.litK q j kill' cs cs' zs _ fl hg ho (by rw [hsl, hel, hz, hb.2.1, hb.2.2]; rfl) (by rw [hfill, hconv, hj.1, hnd]; rfl) hfl hfs hj.2 r
                · cases hx
              · cases hx
            · cases hx
          · cases hx
        · cases hx
      · cases hx
    · cases hx
  · cases hx
theorem At.ll {K : List Tr → Sg → Prop} (d e es j : Nat) (q : Nat × Nat) (xs : List V)
    (r : At P N ops (k + 1) (σ.puts ((killW [] ++ [.o j (.arr e es xs)]) ++ [.t d (.ref j)])) (fun t s => K (⟨(gpOf ops σ (opAt ops k)).getD [] ++ (partsW (litP (opAt ops k)) (partsEv σ (litP (opAt ops k))) ++ obW σ.ob [] ++ [.o j .free]), (killW [] ++ [.o j (.arr e es xs)]) ++ [.t d (.ref j)]⟩ :: t) s)) (hg : goes ops σ k = true := by kernel_rfl)
    (hx : litX P N.n (opAt ops k) σ q = some (d, e, es, [], xs) := by kernel_rfl) (hj : (notIn j [], σ.ob j) = (true, .free) := by kernel_rfl) : At P N ops k σ K :=
  At.lk d e es j q [] xs [] (fun p hp => by cases hp) r hg hx hj rfl
end
end Go.Sy
end

section
set_option linter.unusedVariables false
set_option linter.unusedSimpArgs false
namespace Go.Sy
end Go.Sy
end

section
set_option linter.unusedVariables false
set_option linter.unusedSimpArgs false
namespace Go.Sy
end Go.Sy
end

section
set_option linter.unusedVariables false
set_option linter.unusedSimpArgs false
namespace Go.Sy
section
variable {P : Program}
open Go.Lib in
variable {N : Cx} {ops : Array Oper}
variable {k : Nat} {σ : Sg} {K : List Tr → Sg → Prop}
end
end Go.Sy
end

section
set_option linter.unusedVariables false
set_option linter.unusedSimpArgs false
namespace Go.Sy
def getGo : Nat → Nat → Int → List UInt8 → Option (Int × Nat)
  | 0, _, _, _ => none
  | _ + 1, _, _, [] => none
  | n + 1, k, x, d :: l => if d.toNat ≤ 127 then (if 0 < k ∧ d.toNat = 0 then none else some (x + (d.toNat : Int) % 128 * 128 ^ k, k + 1)) else getGo n (k + 1) (x + (d.toNat : Int) % 128 * 128 ^ k) l
def getO (b : List UInt8) (at_ : Int) : Option (Int × Nat) := if at_ < 0 then none else getGo 9 0 0 (b.drop at_.toNat)
def getN (b : List UInt8) (at_ : Int) : Int × Int × Bool :=
  match getO b at_ with
  | none => (0, 0, false)
  | some (x, n) => (x, at_ + n, true)
theorem pow128 (k : Nat) : (0 : Int) < 128 ^ k := Int.pow_pos (by decide)
def digV (d : UInt8) (k : Nat) : Int := (d.toNat : Int) % 128 * 128 ^ k
theorem pow128_le {k : Nat} (hk : k ≤ 8) : (128 : Int) ^ k ≤ 72057594037927936 := by
  have h4 : (128 : Int) ^ (8 - k) * 128 ^ k = 128 ^ 8 := by rw [← Int.pow_add]; congr 1; omega
  have h5 := Int.mul_le_mul_of_nonneg_right (show (1 : Int) ≤ 128 ^ (8 - k) by have := pow128 (8 - k); omega) (show (0 : Int) ≤ 128 ^ k by have := pow128 k; omega)
  omega
theorem digV_bd (d : UInt8) {k : Nat} {x : Int} (hk : k ≤ 8) (h0 : 0 ≤ x) (h1 : x < 128 ^ k) : 0 ≤ digV d k ∧ x + digV d k < 128 ^ (k + 1) ∧ x + digV d k ≤ 9223372036854775807 := by
  have hd : (0 : Int) ≤ (d.toNat : Int) % 128 ∧ (d.toNat : Int) % 128 ≤ 127 := by omega
  have hp := pow128 k
  have h2 : digV d k ≤ 127 * 128 ^ k := Int.mul_le_mul_of_nonneg_right hd.2 (by omega)
  have h3 : 0 ≤ digV d k := Int.mul_nonneg hd.1 (by omega)
  have h4 := pow128_le hk
  rw [Int.pow_succ]
  omega
structure GR (b : List UInt8) (at_ : Int) (k : Nat) (x : Int) : Prop where
  hk : k ≤ 9
  h0 : 0 ≤ x
  h1 : x < 128 ^ k
  e : getO b at_ = getGo (9 - k) k x (b.drop (at_.toNat + k))
theorem GR.bd {b : List UInt8} {at_ : Int} {k : Nat} {x : Int} (h : GR b at_ k x) (d : UInt8) (hk : k < 9) : 0 ≤ digV d k ∧ x + digV d k < 128 ^ (k + 1) ∧ x + digV d k ≤ 9223372036854775807 := digV_bd d (by omega) h.h0 h.h1
theorem GR.get {b : List UInt8} {at_ : Int} {k : Nat} {x : Int} (h : GR b at_ k x) {d : UInt8} (ha : 0 ≤ at_) (hk : k < 9) (hb : b[(at_ + (k : Int)).toNat]? = some d) : getO b at_ = if d.toNat ≤ 127 then (if 0 < k ∧ d.toNat = 0 then none else some (x + digV d k, k + 1)) else getGo (9 - (k + 1)) (k + 1) (x + digV d k) (b.drop (at_.toNat + (k + 1))) := by
  rw [h.e]
  have e1 : b.drop (at_.toNat + k) = d :: b.drop (at_.toNat + (k + 1)) := by
    rw [show (at_ + (k : Int)).toNat = at_.toNat + k by omega] at hb
    exact dropCons hb
  rw [e1, show 9 - k = (9 - (k + 1)) + 1 by omega]
  rfl
theorem GR.step {b : List UInt8} {at_ : Int} {k : Nat} {x : Int} (h : GR b at_ k x) {d : UInt8} (ha : 0 ≤ at_) (hk : k < 9) (hb : b[(at_ + (k : Int)).toNat]? = some d) (hd : 127 < d.toNat) : GR b at_ (k + 1) (x + digV d k) :=
  have hbd := h.bd d hk
  ⟨by omega, by have := h.h0; omega, hbd.2.1, by rw [h.get ha hk hb, if_neg (by omega)]⟩
theorem getN_none {b : List UInt8} {at_ : Int} (h : getO b at_ = none) : getN b at_ = (0, 0, false) := by unfold getN; rw [h]
theorem GR.over {b : List UInt8} {at_ : Int} {k : Nat} {x : Int} (h : GR b at_ k x) (ha : 0 ≤ at_) (hk : (b.length : Int) ≤ at_ + k) : getN b at_ = (0, 0, false) := by
  refine getN_none ?_
  rw [h.e, List.drop_of_length_le (by omega)]
  cases 9 - k <;> rfl
theorem GR.zero {b : List UInt8} {at_ : Int} {k : Nat} {x : Int} (h : GR b at_ k x) {d : UInt8} (ha : 0 ≤ at_) (hk : k < 9) (hb : b[(at_ + (k : Int)).toNat]? = some d) (h0 : 0 < k) (hd : d.toNat = 0) : getN b at_ = (0, 0, false) :=
  getN_none (by rw [h.get ha hk hb, if_pos (by omega), if_pos ⟨h0, hd⟩])
end Go.Sy
end

section
set_option linter.unusedVariables false
set_option linter.unusedSimpArgs false
namespace Go.Sy
def W32 (x : Int) : Prop := 0 ≤ x ∧ x < 4294967296
def atI (l : List Int) (i : Nat) : Int := (l[i]?).getD 0
structure V8 where
  a : Int
  b : Int
  c : Int
  d : Int
  e : Int
  f : Int
  g : Int
  h : Int
def V8.all (v : V8) : Prop := W32 v.a ∧ W32 v.b ∧ W32 v.c ∧ W32 v.d ∧ W32 v.e ∧ W32 v.f ∧ W32 v.g ∧ W32 v.h
def V8.of (l : List Int) : V8 := ⟨atI l 0, atI l 1, atI l 2, atI l 3, atI l 4, atI l 5, atI l 6, atI l 7⟩
end Go.Sy
end

section
set_option linter.unusedVariables false
set_option linter.unusedSimpArgs false
namespace Go.Sy
end Go.Sy
end

section
set_option linter.unusedVariables false
set_option linter.unusedSimpArgs false
namespace Go.Sy
end Go.Sy
end

section
set_option linter.unusedVariables false
set_option linter.unusedSimpArgs false
namespace Go.Sy
end Go.Sy
namespace Go.Sy
end Go.Sy
namespace Go.Sy
end Go.Sy
end

section
set_option linter.unusedVariables false
set_option linter.unusedSimpArgs false
namespace Go.Sy
open Go.RowKit
theorem Hold.below0 {G : Gh} {w w' : World} (H : Hold G w (obs [])) (h : w.heap.size ≤ w'.heap.size) : Hold G w' (obs []) where
  ij := H.ij
  lt b hb := Nat.lt_of_lt_of_le (H.lt b hb) h
  own i := by
    have := H.own i
    simpa [obs, Gh.Own, OwnOb] using this
  flt i b hb := Nat.lt_of_lt_of_le (H.flt i b hb) h
  fj := H.fj
  dis := H.dis
theorem fr_below {G : Gh} {w w' : World} (h : Below w.heap.size w w') : Fr G w G w' :=
  ⟨h.os, h.tape, h.output, h.size, fun b hb _ => h.block b hb, fun _ _ h => h, fun _ h => h, fun _ h => h, fun _ h => .inl h, fun _ h => .inl h, fun i b h => .inl ⟨i, h⟩⟩
theorem FnSpec.pure {P : Program} {f : Nat} {As : List V} {R : V} (v : Value) (hv : ∀ (G : Gh) (w : World), G.Rep w v R)
    (h : ∀ (G : Gh) (w : World) (args : Array Value), Hold G w (obs []) → args.size = As.length → (∀ (k : Nat) (x : V), As[k]? = some x → G.Rep w (args.getD k undef) x) → Calls P f args w fun e w' => e = .returned v ∧ Below w.heap.size w w') : FnSpec P f As [] R [] := by
  intro G w args H hn ha
  refine (h G w args H hn ha).mono ?_
  rintro e w' ⟨rfl, hb⟩
  exact ⟨v, G, rfl, H.below0 hb.size, hv G w', fr_below hb⟩
end Go.Sy
end

section
set_option linter.unusedVariables false
set_option linter.unusedSimpArgs false
namespace Go.Sy
structure Prc where
  size : Int
  digest : ByteArray
  parts : List ByteArray
theorem data_strOf (l : List UInt8) : (strOf l).data.toList = l := by simp [strOf]
end Go.Sy
namespace Go.Sy
end Go.Sy
end

section
set_option linter.unusedVariables false
set_option linter.unusedSimpArgs false
namespace Go.Sy
theorem extract_strOf {s : ByteArray} {a b : Nat} : s.extract a b = strOf ((s.data.toList.drop a).take (b - a)) := by
  apply ByteArray.ext
  rw [ByteArray.data_extract]
  apply Array.ext'
  rw [Array.toList_extract]
  simp [strOf, List.extract]
end Go.Sy
end

section
set_option linter.unusedVariables false
set_option linter.unusedSimpArgs false
namespace Go.Sy
structure On where
  kind : Int
  day : Int
  week : Int
structure Rul where
  name : Int
  from_ : Int
  to : Int
  month : Int
  on : On
  at_ : Int
  save : Int
structure Zon where
  name : Int
  off : Int
  rule : Int
structure Lnk where
  name : Int
  to : Int
structure Srce where
  rules : List Rul
  zones : List Zon
  links : List Lnk
def Sm (x : Int) : Prop := -100000 ≤ x ∧ x ≤ 100000
def SmR (r : Rul) : Prop := Sm r.from_ ∧ Sm r.to ∧ Sm r.month ∧ Sm r.on.day ∧ Sm r.on.week ∧ Sm r.at_ ∧ Sm r.save
def SmS (a b c : Nat) (s : Srce) : Prop := s.rules.length ≤ a ∧ s.zones.length ≤ b ∧ s.links.length ≤ c ∧ (∀ r ∈ s.rules, SmR r) ∧ ∀ z ∈ s.zones, Sm z.off
theorem all_snoc {α : Type} {Q : α → Prop} {l : List α} {x : α} (h : ∀ y ∈ l, Q y) (hx : Q x) : ∀ y ∈ l ++ [x], Q y := by
  intro y hy
  rw [List.mem_append, List.mem_singleton] at hy
  rcases hy with hy | rfl
  · exact h _ hy
  · exact hx
theorem SmS.mono {a b c a' b' c' : Nat} {s : Srce} (h : SmS a b c s) (ha : a ≤ a') (hb : b ≤ b') (hc : c ≤ c') : SmS a' b' c' s := ⟨Nat.le_trans h.1 ha, Nat.le_trans h.2.1 hb, Nat.le_trans h.2.2.1 hc, h.2.2.2⟩
theorem SmS.none : SmS 0 0 0 ⟨[], [], []⟩ := ⟨Nat.le_refl _, Nat.le_refl _, Nat.le_refl _, fun _ h => (List.not_mem_nil h).elim, fun _ h => (List.not_mem_nil h).elim⟩
end Go.Sy
namespace Go.Sy
theorem SmS.more {b c : Nat} {rs : List Rul} {zs : List Zon} {ls : List Lnk} (h : SmS 20 b c ⟨rs, zs, ls⟩) {r : Rul} (hr : SmR r) (hl : rs.length < 20) : SmS 20 b c ⟨rs ++ [r], zs, ls⟩ := by
  obtain ⟨h1, h2, h3, h4, h5⟩ := h
  exact ⟨by show (rs ++ [r]).length ≤ 20; rw [List.length_append]; simp; omega, h2, h3, all_snoc h4 hr, h5⟩
end Go.Sy
end

section
set_option linter.unusedVariables false
set_option linter.unusedSimpArgs false
namespace Go.Sy
end Go.Sy
end

section
set_option linter.unusedVariables false
set_option linter.unusedSimpArgs false
namespace Go.Sy
open Go.RowKit
def qOf (Q : World → Prop) : Gh → World → Prop := fun G0 w0 => (∀ i b, ¬ G0.F i b) ∧ Q w0
def FnSpecQ (Q : World → Prop) (P : Program) (f : Nat) (As : List V) (R : V) : Prop :=
  ∀ (G : Gh) (w : World) (args : Array Value), Q w → Hold G w (obs []) → args.size = As.length → (∀ (k : Nat) (x : V), As[k]? = some x → G.Rep w (args.getD k undef) x) →
    Calls P f args w (fun e w' => ∃ v G', e = .returned v ∧ Hold G' w' (obs []) ∧ G'.Rep w' v R ∧ Fr G w G' w')
structure Lasts (Q : World → Prop) : Prop where
  here : ∀ w w', Q w → Below w.heap.size w w' → Q w'
theorem Fr.below {G G' : Gh} {w w' : World} (f : Fr G w G' w') (h : ∀ i b, ¬ G.F i b) : Below w.heap.size w w' := ⟨f.os, f.tape, f.output, f.sz, fun k hk => f.blk k hk (fun i => h i k)⟩
section
variable {P : Program} {Q : World → Prop}
theorem FnSpecQ.of {f : Nat} {fn : Func} {c : Code} {As : List V} {R : V} (n : Nat) (hf : P.funcs[f]? = some fn) (hb : fn.body = some c) (hn : fn.ntmps = n) (hl : As.length ≤ n)
    (h : AW P ⟨n, 0, qOf Q⟩ c ⟨lkT As, obs []⟩ (KF P 0 fn.results.toList R [])) : FnSpecQ Q P f As R := by
  intro G w args hQ H hs hr
  refine calls_of_wp hf hb ?_
  have hst : St G w ⟨n, 0, qOf Q⟩ ⟨lkT As, obs []⟩ { tmps := args ++ Array.replicate (fn.ntmps - args.size) undef, defers := [] } w := by
    refine ⟨G, H, fun t => ?_, by simp; omega, rfl, Fr.refl G w, fun i hi => ?_, fun i => (H.free (k := i) rfl).2, hQ⟩
    · have hlk : ∀ (l : List V) (t : Nat), lkT l t = l.getD t .un := by
        intro l
        induction l with
        | nil => intro t; simp [lkT]
        | cons x l ih => intro t; cases t <;> simp [lkT, ih]
      show G.Rep w _ (lkT As t)
      rw [hlk]
      rcases Nat.lt_or_ge t As.length with ht | ht
      · have h1 := List.getElem?_eq_getElem ht
        rw [List.getD_eq_getElem?_getD, h1]
        have h2 := hr t _ h1
        have : (args ++ Array.replicate (fn.ntmps - args.size) undef).getD t undef = args.getD t undef := by
          simp [Array.getD_eq_getD_getElem?, Array.getElem?_append, show t < args.size by omega]
        rw [this]
        exact h2
      · rw [List.getD_eq_getElem?_getD, List.getElem?_eq_none ht]
        exact .g (.un _)
    · have hfree : obs [] i = .free := by
        unfold obs
        rw [List.getD_eq_getElem?_getD, List.getElem?_eq_none hi]
        rfl
      exact (H.free hfree).1
  refine wp_mono (h G w _ w hst) ?_
  rintro e a' w' ⟨σ', ⟨he, L, vs, hL, hv, hR, hL2, hT'⟩, ⟨G', H', ht', h1, h2, h3, h4⟩⟩
  simp only [Bool.and_eq_true, fixes, List.all_eq_true, List.mem_range, beq_iff_eq] at hL
  obtain ⟨v, r1, r2⟩ := run_results H' ht' hv
  have hpost : a'.defers = [] ∧ ∃ v, (results fn a'.tmps).run P w' = .ok v w' ∧ ∃ v' G', Ending.returned v = .returned v' ∧ Hold G' w' (obs []) ∧ G'.Rep w' v' R ∧ Fr G w G' w' := by
    refine ⟨h2, v, r1, v, G'.ren L, rfl, ?_, ?_, h3.ren h4.1 hL.2⟩
    · rw [← obRen_list hL.1 [] hL2 hT']
      exact H'.ren hL.1
    · rw [hR]
      exact Rep.ren (Gh.ren_rho hL.1) r2
  rcases he with rfl | rfl
  · exact hpost
  · exact hpost
end
section
variable {P : Program} {N : Cx} {ops : Array Oper} {K : List Tr → Sg → Prop} {k : Nat} {σ : Sg}
theorem At.callQ {Q : World → Prop} {f : Nat} {As : List V} {R : V} (hl : Lasts Q) (hq : N.q = qOf Q) (hs : FnSpecQ Q P f As R) (hcall : ∀ args w, (callFunc f args).run P w = .ok (.enter f args) w) (q : Bool) (L M : List (Nat × Nat)) (ro : List (Nat × Nat × List V)) (hg : goes ops σ k = true) (ho : (callOf (opAt ops k)).map Prod.fst = some f)
    (hA : viewL L ro (evs σ (argsAt ops k)) = As) (hT : (L.map fun p => (σ.ob p.1).ren (hOf L)) = ([] : List Ob))
    (hL : ((match (opAt ops k).dst with
      | some d => decide (d < N.n)
      | none => true) && (okL (L ++ M) && (L.map Prod.snd == List.range ([] : List Ob).length) && L.all (fun p => live (σ.ob p.1)) && (!q || ro.isEmpty)) && M.all (fun p => isFree (σ.ob p.1))) = true) (hro : RoOk σ.ob L ro)
    (r : At P N ops (k + 1) (σ.puts (backW q [] (L ++ M) (L ++ M) ++ dstW (opAt ops k).dst (R.bk q (L ++ M)))) (fun t s => K (⟨(gpOf ops σ (opAt ops k)).getD [] ++ (argsW (argsAt ops k) (evs σ (argsAt ops k)) ++ obW σ.ob (L.map Prod.fst) ++ obW σ.ob (ro.map Prod.fst) ++ freeW M), backW q [] (L ++ M) (L ++ M) ++ dstW (opAt ops k).dst (R.bk q (L ++ M))⟩ :: t) s)) : At P N ops k σ K :=
  At.callG hcall q L M (fun G0 G w0 w h fr args H => by
    rw [hq] at h
    exact hs (G.lend q L) w args (hl.here w0 w h.2 (fr.below h.1)) H) ro hg ho hA hT hL hro r
end
theorem lawQ_calls {P : Program} {W : World} {Q : World → Prop} {f : Nat} {As : List V} {b : Bool} (hQ : Q W) (h : FnSpecQ Q P f As (.bool b)) {args : Array Value} (hs : args.size = As.length) (hr : ∀ (k : Nat) (x : V), As[k]? = some x → (hereG W).Rep W (args.getD k undef) x) :
    Calls P f args W (fun e W' => e = .returned (.bool b) ∧ Below W.heap.size W W') := by
  refine (h (hereG W) W args hQ (here_hold W) hs hr).mono fun e W' ⟨v, G', h1, h2, h3, h4⟩ => ?_
  have := Rep.inv_bool h3
  subst this
  exact ⟨h1, h4.os, h4.tape, h4.output, h4.sz, fun k hk => h4.blk k hk (fun _ h => h)⟩
theorem FnSpecQ.pure {P : Program} {Q : World → Prop} {f : Nat} {As : List V} {R : V} (v : Value) (hv : ∀ (G : Gh) (w : World), G.Rep w v R)
    (h : ∀ (G : Gh) (w : World) (args : Array Value), Q w → args.size = As.length → (∀ (k : Nat) (x : V), As[k]? = some x → G.Rep w (args.getD k undef) x) → Calls P f args w fun e w' => e = .returned v ∧ Below w.heap.size w w') : FnSpecQ Q P f As R := by
  intro G w args hQ H hn ha
  refine (h G w args hQ hn ha).mono ?_
  rintro e w' ⟨rfl, hb⟩
  exact ⟨v, G, rfl, H.below0 hb.size, hv G w', fr_below hb⟩
end Go.Sy
end

section
namespace Go.Proofs
open Go.Shelf
def Tryd.lays103_ren : Go.Shelf.Ren := ⟨fun | 103 => 15 | 210 => 27 | 206 => 34 | n => n, fun | 9 => 9 | 4 => 4 | 24 => 36 | 3 => 3 | n => n, fun | n => n⟩
theorem Tryd.lays103 : Go.Proofs.Lays.n103 Tryd.prog Tryd.lays103_ren := {
  mixed := by kernel_rfl
  f103 := Tryd.func15.trans (congrArg some (by kernel_rfl))
  f206 := Tryd.func34.trans (congrArg some (by kernel_rfl))
  f210 := Tryd.func27.trans (congrArg some (by kernel_rfl))
  t3 := Tryd.underlying3
  a3 := Tryd.isAgg3
  z3 := Tryd.sizeOf3
  v3 := Tryd.zeroValue3
  t4 := Tryd.underlying4
  a4 := Tryd.isAgg4
  z4 := Tryd.sizeOf4
  v4 := Tryd.zeroValue4
  t9 := Tryd.underlying9
  a9 := Tryd.isAgg9
  z9 := Tryd.sizeOf9
  v9 := Tryd.zeroValue9
  t24 := Tryd.underlying36
  a24 := Tryd.isAgg36
  z24 := Tryd.sizeOf36
  v24 := Tryd.zeroValue36 }
open Go.RowKit in
theorem Tryd.strings_CutPrefix (s p : ByteArray) (w : World) :
    Calls Tryd.prog 15 #[.string s, .string p] w fun e w' => e = .returned (.tuple #[.string ⟨(Lib.trimPrefix s.data.toList p.data.toList).toArray⟩, .bool (Lib.hasPrefix s.data.toList p.data.toList)]) ∧ w' = w := Any.strings_CutPrefix Tryd.lays103 s p w
def Tryd.laysM171_ren : Go.Shelf.Ren := ⟨fun | 171 => 33 | 243 => 40 | 246 => 50 | 283 => 56 | 284 => 57 | 285 => 58 | 286 => 59 | 129 => 63 | 317 => 62 | 318 => 64 | 319 => 65 | 320 => 66 | 337 => 67 | 338 => 68 | n => n, fun | 3 => 3 | 9 => 9 | 2 => 2 | 4 => 4 | 171 => 83 | 0 => 0 | 53 => 76 | 37 => 28 | 5 => 5 | 173 => 86 | 212 => 94 | 51 => 73 | 20 => 20 | 213 => 95 | 46 => 65 | 232 => 99 | 233 => 100 | n => n, fun | 17 => 3 | 18 => 4 | 19 => 5 | n => n⟩
theorem Tryd.laysM171 : Go.Proofs.LaysM.n171 Tryd.prog Tryd.laysM171_ren := {
  mixed := by kernel_rfl
  f129 := Tryd.func63.trans (congrArg some (by kernel_rfl))
  f171 := Tryd.func33.trans (congrArg some (by kernel_rfl))
  f243 := Tryd.func40.trans (congrArg some (by kernel_rfl))
  f246 := Tryd.func50.trans (congrArg some (by kernel_rfl))
  f283 := Tryd.func56.trans (congrArg some (by kernel_rfl))
  f284 := Tryd.func57.trans (congrArg some (by kernel_rfl))
  f285 := Tryd.func58.trans (congrArg some (by kernel_rfl))
  f286 := Tryd.func59.trans (congrArg some (by kernel_rfl))
  f317 := Tryd.func62.trans (congrArg some (by kernel_rfl))
  f318 := Tryd.func64.trans (congrArg some (by kernel_rfl))
  f319 := Tryd.func65.trans (congrArg some (by kernel_rfl))
  f320 := Tryd.func66.trans (congrArg some (by kernel_rfl))
  f337 := Tryd.func67.trans (congrArg some (by kernel_rfl))
  f338 := Tryd.func68.trans (congrArg some (by kernel_rfl))
  t0 := Tryd.underlying0
  a0 := Tryd.isAgg0
  z0 := Tryd.sizeOf0
  v0 := Tryd.zeroValue0
  t2 := Tryd.underlying2
  a2 := Tryd.isAgg2
  z2 := Tryd.sizeOf2
  v2 := Tryd.zeroValue2
  t3 := Tryd.underlying3
  a3 := Tryd.isAgg3
  z3 := Tryd.sizeOf3
  v3 := Tryd.zeroValue3
  t4 := Tryd.underlying4
  a4 := Tryd.isAgg4
  z4 := Tryd.sizeOf4
  v4 := Tryd.zeroValue4
  t5 := Tryd.underlying5
  a5 := Tryd.isAgg5
  z5 := Tryd.sizeOf5
  v5 := Tryd.zeroValue5
  t9 := Tryd.underlying9
  a9 := Tryd.isAgg9
  z9 := Tryd.sizeOf9
  v9 := Tryd.zeroValue9
  t20 := Tryd.underlying20
  a20 := Tryd.isAgg20
  z20 := Tryd.sizeOf20
  v20 := Tryd.zeroValue20
  t37 := Tryd.underlying28
  a37 := Tryd.isAgg28
  z37 := Tryd.sizeOf28
  v37 := Tryd.zeroValue28
  t46 := Tryd.underlying65
  a46 := Tryd.isAgg65
  z46 := Tryd.sizeOf65
  v46 := Tryd.zeroValue65
  t51 := Tryd.underlying73
  a51 := Tryd.isAgg73
  z51 := Tryd.sizeOf73
  v51 := Tryd.zeroValue73
  t53 := Tryd.underlying76
  a53 := Tryd.isAgg76
  z53 := Tryd.sizeOf76
  v53 := Tryd.zeroValue76
  t171 := Tryd.underlying83
  a171 := Tryd.isAgg83
  z171 := Tryd.sizeOf83
  v171 := Tryd.zeroValue83
  t173 := Tryd.underlying86
  a173 := Tryd.isAgg86
  z173 := Tryd.sizeOf86
  v173 := Tryd.zeroValue86
  t212 := Tryd.underlying94
  a212 := Tryd.isAgg94
  z212 := Tryd.sizeOf94
  v212 := Tryd.zeroValue94
  t213 := Tryd.underlying95
  a213 := Tryd.isAgg95
  z213 := Tryd.sizeOf95
  t232 := Tryd.underlying99
  a232 := Tryd.isAgg99
  z232 := Tryd.sizeOf99
  v232 := Tryd.zeroValue99
  t233 := Tryd.underlying100
  a233 := Tryd.isAgg100
  z233 := Tryd.sizeOf100
  v233 := Tryd.zeroValue100
  g17 := by kernel_rfl
  g18 := by kernel_rfl
  g19 := by kernel_rfl
  i0 := by kernel_rfl
  i2 := by kernel_rfl
  i3 := by kernel_rfl
  i4 := by kernel_rfl
  i5 := by kernel_rfl
  i9 := by kernel_rfl
  i20 := by kernel_rfl
  i37 := by kernel_rfl
  i46 := by kernel_rfl
  i51 := by kernel_rfl
  i53 := by kernel_rfl
  i171 := by kernel_rfl
  i173 := by kernel_rfl
  i212 := by kernel_rfl
  i232 := by kernel_rfl
  i233 := by kernel_rfl
  m17 := by kernel_rfl
  m18 := by kernel_rfl
  m19 := by kernel_rfl }
open Go.RowKit Go.Sort Go.Lib in
theorem Tryd.strconv_Itoa (n : Int) (h0 : -9223372036854775808 ≤ n) (h1 : n ≤ 9223372036854775807) (w : World) (htab : Lib.TabIs Tryd.prog w "internal/strconv.uint64pow10" .u64 Lib.pow10Tab) :
    Calls Tryd.prog 33 #[.int .i64 n] w fun e w' => e = .returned (.string ⟨(Lib.itoa n).toArray⟩) ∧ ∃ k os, w' = grow (w.drewN k) os := Any.strconv_Itoa Tryd.laysM171 n h0 h1 w htab
def Tryd.laysC172_ren : Go.Shelf.Ren := ⟨fun | 172 => 29 | 244 => 36 | 245 => 37 | 247 => 45 | 279 => 46 | 280 => 47 | 281 => 48 | 282 => 49 | 287 => 53 | 316 => 54 | 171 => 33 | 205 => 55 | 321 => 60 | 322 => 61 | 243 => 40 | 246 => 50 | 283 => 56 | 284 => 57 | 285 => 58 | 286 => 59 | 129 => 63 | 317 => 62 | 318 => 64 | 319 => 65 | 320 => 66 | 337 => 67 | 338 => 68 | n => n, fun | 9 => 9 | 3 => 3 | 75 => 50 | 76 => 51 | 4 => 4 | 5 => 5 | 167 => 66 | 37 => 28 | 0 => 0 | 85 => 67 | 2 => 2 | 168 => 69 | 53 => 76 | 175 => 77 | 46 => 65 | 210 => 81 | 127 => 89 | 145 => 92 | 143 => 90 | 21 => 21 | 171 => 83 | 173 => 86 | 212 => 94 | 51 => 73 | 20 => 20 | 213 => 95 | 232 => 99 | 233 => 100 | 80 => 101 | n => n, fun | 15 => 1 | 16 => 2 | 17 => 3 | 18 => 4 | 19 => 5 | n => n⟩
theorem Tryd.laysC172 : Go.Proofs.LaysC.n172 Tryd.prog Tryd.laysC172_ren := {
  mixed := by kernel_rfl
  f129 := Tryd.func63.trans (congrArg some (by kernel_rfl))
  f171 := Tryd.func33.trans (congrArg some (by kernel_rfl))
  f172 := Tryd.func29.trans (congrArg some (by kernel_rfl))
  f205 := Tryd.func55.trans (congrArg some (by kernel_rfl))
  f243 := Tryd.func40.trans (congrArg some (by kernel_rfl))
  f244 := Tryd.func36.trans (congrArg some (by kernel_rfl))
  f245 := Tryd.func37.trans (congrArg some (by kernel_rfl))
  f246 := Tryd.func50.trans (congrArg some (by kernel_rfl))
  f247 := Tryd.func45.trans (congrArg some (by kernel_rfl))
  f279 := Tryd.func46.trans (congrArg some (by kernel_rfl))
  f280 := Tryd.func47.trans (congrArg some (by kernel_rfl))
  f281 := Tryd.func48.trans (congrArg some (by kernel_rfl))
  f282 := Tryd.func49.trans (congrArg some (by kernel_rfl))
  f283 := Tryd.func56.trans (congrArg some (by kernel_rfl))
  f284 := Tryd.func57.trans (congrArg some (by kernel_rfl))
  f285 := Tryd.func58.trans (congrArg some (by kernel_rfl))
  f286 := Tryd.func59.trans (congrArg some (by kernel_rfl))
  f287 := Tryd.func53.trans (congrArg some (by kernel_rfl))
  f316 := Tryd.func54.trans (congrArg some (by kernel_rfl))
  f317 := Tryd.func62.trans (congrArg some (by kernel_rfl))
  f318 := Tryd.func64.trans (congrArg some (by kernel_rfl))
  f319 := Tryd.func65.trans (congrArg some (by kernel_rfl))
  f320 := Tryd.func66.trans (congrArg some (by kernel_rfl))
  f321 := Tryd.func60.trans (congrArg some (by kernel_rfl))
  f322 := Tryd.func61.trans (congrArg some (by kernel_rfl))
  f337 := Tryd.func67.trans (congrArg some (by kernel_rfl))
  f338 := Tryd.func68.trans (congrArg some (by kernel_rfl))
  t0 := Tryd.underlying0
  a0 := Tryd.isAgg0
  z0 := Tryd.sizeOf0
  v0 := Tryd.zeroValue0
  t2 := Tryd.underlying2
  a2 := Tryd.isAgg2
  z2 := Tryd.sizeOf2
  v2 := Tryd.zeroValue2
  t3 := Tryd.underlying3
  a3 := Tryd.isAgg3
  z3 := Tryd.sizeOf3
  v3 := Tryd.zeroValue3
  t4 := Tryd.underlying4
  a4 := Tryd.isAgg4
  z4 := Tryd.sizeOf4
  v4 := Tryd.zeroValue4
  t5 := Tryd.underlying5
  a5 := Tryd.isAgg5
  z5 := Tryd.sizeOf5
  v5 := Tryd.zeroValue5
  t9 := Tryd.underlying9
  a9 := Tryd.isAgg9
  z9 := Tryd.sizeOf9
  v9 := Tryd.zeroValue9
  t20 := Tryd.underlying20
  a20 := Tryd.isAgg20
  z20 := Tryd.sizeOf20
  v20 := Tryd.zeroValue20
  t21 := Tryd.underlying21
  a21 := Tryd.isAgg21
  z21 := Tryd.sizeOf21
  v21 := Tryd.zeroValue21
  t37 := Tryd.underlying28
  a37 := Tryd.isAgg28
  z37 := Tryd.sizeOf28
  v37 := Tryd.zeroValue28
  t46 := Tryd.underlying65
  a46 := Tryd.isAgg65
  z46 := Tryd.sizeOf65
  v46 := Tryd.zeroValue65
  t51 := Tryd.underlying73
  a51 := Tryd.isAgg73
  z51 := Tryd.sizeOf73
  v51 := Tryd.zeroValue73
  t53 := Tryd.underlying76
  a53 := Tryd.isAgg76
  z53 := Tryd.sizeOf76
  v53 := Tryd.zeroValue76
  t75 := Tryd.underlying50
  a75 := Tryd.isAgg50
  z75 := Tryd.sizeOf50
  v75 := Tryd.zeroValue50
  t76 := Tryd.underlying51
  a76 := Tryd.isAgg51
  z76 := Tryd.sizeOf51
  v76 := Tryd.zeroValue51
  t85 := Tryd.underlying67
  a85 := Tryd.isAgg67
  z85 := Tryd.sizeOf67
  v85 := Tryd.zeroValue67
  t127 := Tryd.underlying89
  a127 := Tryd.isAgg89
  z127 := Tryd.sizeOf89
  v127 := Tryd.zeroValue89
  t143 := Tryd.underlying90
  a143 := Tryd.isAgg90
  z143 := Tryd.sizeOf90
  v143 := Tryd.zeroValue90
  t145 := Tryd.underlying92
  a145 := Tryd.isAgg92
  z145 := Tryd.sizeOf92
  v145 := Tryd.zeroValue92
  t167 := Tryd.underlying66
  a167 := Tryd.isAgg66
  z167 := Tryd.sizeOf66
  v167 := Tryd.zeroValue66
  t168 := Tryd.underlying69
  a168 := Tryd.isAgg69
  z168 := Tryd.sizeOf69
  v168 := Tryd.zeroValue69
  t171 := Tryd.underlying83
  a171 := Tryd.isAgg83
  z171 := Tryd.sizeOf83
  v171 := Tryd.zeroValue83
  t173 := Tryd.underlying86
  a173 := Tryd.isAgg86
  z173 := Tryd.sizeOf86
  v173 := Tryd.zeroValue86
  t175 := Tryd.underlying77
  a175 := Tryd.isAgg77
  z175 := Tryd.sizeOf77
  v175 := Tryd.zeroValue77
  t210 := Tryd.underlying81
  a210 := Tryd.isAgg81
  z210 := Tryd.sizeOf81
  v210 := Tryd.zeroValue81
  t212 := Tryd.underlying94
  a212 := Tryd.isAgg94
  z212 := Tryd.sizeOf94
  v212 := Tryd.zeroValue94
  t213 := Tryd.underlying95
  a213 := Tryd.isAgg95
  z213 := Tryd.sizeOf95
  t232 := Tryd.underlying99
  a232 := Tryd.isAgg99
  z232 := Tryd.sizeOf99
  v232 := Tryd.zeroValue99
  t233 := Tryd.underlying100
  a233 := Tryd.isAgg100
  z233 := Tryd.sizeOf100
  v233 := Tryd.zeroValue100
  g15 := by kernel_rfl
  g16 := by kernel_rfl
  g17 := by kernel_rfl
  g18 := by kernel_rfl
  g19 := by kernel_rfl
  t80 := Tryd.underlying101
  a80 := Tryd.isAgg101
  z80 := Tryd.sizeOf101
  v80 := Tryd.zeroValue101
  i0 := by kernel_rfl
  i2 := by kernel_rfl
  i3 := by kernel_rfl
  i4 := by kernel_rfl
  i5 := by kernel_rfl
  i9 := by kernel_rfl
  i20 := by kernel_rfl
  i21 := by kernel_rfl
  i37 := by kernel_rfl
  i46 := by kernel_rfl
  i51 := by kernel_rfl
  i53 := by kernel_rfl
  i75 := by kernel_rfl
  i76 := by kernel_rfl
  i80 := by kernel_rfl
  i85 := by kernel_rfl
  i127 := by kernel_rfl
  i143 := by kernel_rfl
  i145 := by kernel_rfl
  i167 := by kernel_rfl
  i168 := by kernel_rfl
  i171 := by kernel_rfl
  i173 := by kernel_rfl
  i175 := by kernel_rfl
  i210 := by kernel_rfl
  i212 := by kernel_rfl
  i232 := by kernel_rfl
  i233 := by kernel_rfl
  m15 := by kernel_rfl
  m16 := by kernel_rfl
  m17 := by kernel_rfl
  m18 := by kernel_rfl
  m19 := by kernel_rfl
  c0 := by kernel_rfl
  c2 := by kernel_rfl
  c3 := by kernel_rfl
  c4 := by kernel_rfl
  c5 := by kernel_rfl
  c9 := by kernel_rfl
  c20 := by kernel_rfl
  c21 := by kernel_rfl
  c37 := by kernel_rfl
  c46 := by kernel_rfl
  c51 := by kernel_rfl
  c53 := by kernel_rfl
  c75 := by kernel_rfl
  c76 := by kernel_rfl
  c80 := by kernel_rfl
  c85 := by kernel_rfl
  c127 := by kernel_rfl
  c143 := by kernel_rfl
  c145 := by kernel_rfl
  c167 := by kernel_rfl
  c168 := by kernel_rfl
  c171 := by kernel_rfl
  c173 := by kernel_rfl
  c175 := by kernel_rfl
  c210 := by kernel_rfl
  c212 := by kernel_rfl
  c213 := by kernel_rfl
  c232 := by kernel_rfl
  c233 := by kernel_rfl }
open Go.RowKit in
theorem Tryd.strconv_Atoi_ok (s : ByteArray) (hmax : s.size ≤ 9223372036854775806) (v : Int) (h : Lib.atoiAll s.data.toList = .ok v) (w : World) :
    Calls Tryd.prog 29 #[.string s] w fun e w' => e = .returned (.tuple #[.int .i64 v, .nilIface]) ∧ (w' = w ∨ ∃ t, w' = Lib.bytesWorld w 5 t) := Any.strconv_Atoi_ok Tryd.laysC172 s hmax v h w
open Go.RowKit in
theorem Tryd.strconv_Atoi_syntax_var (s : ByteArray) (hlim : s.size ≤ 281474976710656) (h : Lib.atoiAll s.data.toList = Lib.NumEnd.syntax) (tp : TypeId) (p : Value) (w : World) (hvar : w.var? Tryd.prog "strconv.ErrSyntax" = some #[.iface tp p]) :
    Calls Tryd.prog 29 #[.string s] w fun e w' => ∃ N, e = .returned (.tuple #[.int .i64 0, .iface 69 (.pointer (some ⟨N, 0, none⟩))]) ∧ w.heap.size ≤ N ∧ w'.heap[N]? = some (.cells #[.string ⟨#[65, 116, 111, 105]⟩, .string s, .iface tp p] 81 (0, 0)) ∧ Below w.heap.size w w' := Any.strconv_Atoi_syntax_var Tryd.laysC172 s hlim h tp p w hvar
open Go.RowKit in
theorem Tryd.strconv_Atoi_range_var (s : ByteArray) (hlim : s.size ≤ 281474976710656) (h : Lib.atoiAll s.data.toList = .range) (tp : TypeId) (p : Value) (w : World) (hvar : w.var? Tryd.prog "strconv.ErrRange" = some #[.iface tp p]) :
    Calls Tryd.prog 29 #[.string s] w fun e w' => ∃ N, e = .returned (.tuple #[.int .i64 (Lib.atoiSat s.data.toList), .iface 69 (.pointer (some ⟨N, 0, none⟩))]) ∧ w.heap.size ≤ N ∧ w'.heap[N]? = some (.cells #[.string ⟨#[65, 116, 111, 105]⟩, .string s, .iface tp p] 81 (0, 0)) ∧ Below w.heap.size w w' := Any.strconv_Atoi_range_var Tryd.laysC172 s hlim h tp p w hvar
def Tryd.lays145_ren : Go.Shelf.Ren := ⟨fun | 145 => 16 | 220 => 28 | 219 => 35 | 217 => 41 | 225 => 42 | 224 => 43 | 267 => 44 | 266 => 51 | 314 => 52 | n => n, fun | 9 => 9 | 4 => 4 | 59 => 38 | 3 => 3 | 5 => 5 | 46 => 65 | 146 => 74 | 51 => 73 | n => n, fun | 1 => 0 | n => n⟩
theorem Tryd.lays145 : Go.Proofs.Lays.n145 Tryd.prog Tryd.lays145_ren := {
  mixed := by kernel_rfl
  f145 := Tryd.func16.trans (congrArg some (by kernel_rfl))
  f217 := Tryd.func41.trans (congrArg some (by kernel_rfl))
  f219 := Tryd.func35.trans (congrArg some (by kernel_rfl))
  f220 := Tryd.func28.trans (congrArg some (by kernel_rfl))
  f224 := Tryd.func43.trans (congrArg some (by kernel_rfl))
  f225 := Tryd.func42.trans (congrArg some (by kernel_rfl))
  f266 := Tryd.func51.trans (congrArg some (by kernel_rfl))
  f267 := Tryd.func44.trans (congrArg some (by kernel_rfl))
  f314 := Tryd.func52.trans (congrArg some (by kernel_rfl))
  t3 := Tryd.underlying3
  a3 := Tryd.isAgg3
  z3 := Tryd.sizeOf3
  v3 := Tryd.zeroValue3
  t4 := Tryd.underlying4
  a4 := Tryd.isAgg4
  z4 := Tryd.sizeOf4
  v4 := Tryd.zeroValue4
  t5 := Tryd.underlying5
  a5 := Tryd.isAgg5
  z5 := Tryd.sizeOf5
  v5 := Tryd.zeroValue5
  t9 := Tryd.underlying9
  a9 := Tryd.isAgg9
  z9 := Tryd.sizeOf9
  v9 := Tryd.zeroValue9
  t46 := Tryd.underlying65
  a46 := Tryd.isAgg65
  z46 := Tryd.sizeOf65
  v46 := Tryd.zeroValue65
  t51 := Tryd.underlying73
  a51 := Tryd.isAgg73
  z51 := Tryd.sizeOf73
  v51 := Tryd.zeroValue73
  t59 := Tryd.underlying38
  a59 := Tryd.isAgg38
  z59 := Tryd.sizeOf38
  v59 := Tryd.zeroValue38
  t146 := Tryd.underlying74
  a146 := Tryd.isAgg74
  z146 := Tryd.sizeOf74
  v146 := Tryd.zeroValue74
  g1 := by kernel_rfl }
open Go.RowKit Go.Lib in
theorem Tryd.strings_Cut (s sep : ByteArray) (m : Int) (w : World) (hs : s.size < 4294967281) (hm : w.cell? ⟨0, 0, none⟩ = some (.int .i64 m)) :
    Calls Tryd.prog 16 #[.string s, .string sep] w fun e w' => e = .returned (.tuple #[.string ⟨(Lib.cut s.data.toList sep.data.toList).1.toArray⟩, .string ⟨(Lib.cut s.data.toList sep.data.toList).2.1.toArray⟩, .bool (Lib.cut s.data.toList sep.data.toList).2.2]) ∧ ∃ n, w' = w.drewN n := Any.strings_Cut Tryd.lays145 s sep m w hs hm
def Tryd.lays101_ren : Go.Shelf.Ren := ⟨fun | 101 => 30 | 208 => 38 | 206 => 34 | n => n, fun | 9 => 9 | 4 => 4 | 3 => 3 | n => n, fun | n => n⟩
theorem Tryd.lays101 : Go.Proofs.Lays.n101 Tryd.prog Tryd.lays101_ren := {
  mixed := by kernel_rfl
  f101 := Tryd.func30.trans (congrArg some (by kernel_rfl))
  f206 := Tryd.func34.trans (congrArg some (by kernel_rfl))
  f208 := Tryd.func38.trans (congrArg some (by kernel_rfl))
  t3 := Tryd.underlying3
  a3 := Tryd.isAgg3
  z3 := Tryd.sizeOf3
  v3 := Tryd.zeroValue3
  t4 := Tryd.underlying4
  a4 := Tryd.isAgg4
  z4 := Tryd.sizeOf4
  v4 := Tryd.zeroValue4
  t9 := Tryd.underlying9
  a9 := Tryd.isAgg9
  z9 := Tryd.sizeOf9
  v9 := Tryd.zeroValue9 }
open Go.RowKit Go.Lib in
theorem Tryd.strings_TrimPrefix (s p : ByteArray) (w : World) :
    Calls Tryd.prog 30 #[.string s, .string p] w fun e w' => e = .returned (.string ⟨(Lib.trimPrefix s.data.toList p.data.toList).toArray⟩) ∧ w' = w := Any.strings_TrimPrefix Tryd.lays101 s p w

end Go.Proofs
end

section
set_option linter.unusedVariables false
set_option linter.unusedSimpArgs false
namespace Go.Proofs.YthklhfcjglimiaaDoor.OnRd
open Go Go.Sy Go.Proofs Go.RowKit
structure Aside0 (p : Prop) : Prop where
  out : p
theorem below_step {w w1 w2 : World} (h : Below w.heap.size w w1) (k : Below w1.heap.size w1 w2) : Below w.heap.size w w2 := h.trans (k.mono h.size)
/-- What the library's variables hold. -/
structure Gl (w : World) : Prop where
  mx : ∃ m, w.cell? ⟨0, 0, none⟩ = some (.int .i64 m)
  sy : ∃ tp p, w.var? Tryd.prog "strconv.ErrSyntax" = some #[.iface tp p]
  rg : ∃ tp p, w.var? Tryd.prog "strconv.ErrRange" = some #[.iface tp p]
  tb : Lib.TabIs Tryd.prog w "internal/strconv.uint64pow10" .u64 Lib.pow10Tab
def GB (w : World) : Prop := ∀ W, Below w.heap.size w W → Gl W
theorem GB.step {w W : World} (h : GB w) (hb : Below w.heap.size w W) : GB W := fun W' hb' => h W' (below_step hb hb')
theorem GB.here {w : World} (h : GB w) : Gl w := h w (Below.refl _ _)
theorem grow_b (w : World) (k : Nat) (os : Array Obj) : Below w.heap.size w («Sort».grow (w.drewN k) os) := Lib.below_grow _ _ (Nat.le_refl _) k os
theorem digits_t (n : Int) (h0 : -9223372036854775808 ≤ n) (h1 : n ≤ 9223372036854775807) (w : World) (hg : GB w) :
    Calls Tryd.prog 20 #[.int .i64 n] w fun e w' => e = .returned (.string ⟨(Lib.itoa n).toArray⟩) ∧ Below w.heap.size w w' := by
  go_enter Tryd.func20, Tryd.ntmps20
  go_wp2_with (go_at_call 33; refine (Tryd.strconv_Itoa n h0 h1 _ hg.here.tb).mono ?_; rintro e w' ⟨rfl, k, os, rfl⟩)
  go_ret
  exact ⟨rfl, grow_b _ _ _⟩
/-- readNumber. -/
def rdN (s : List UInt8) (most : Int) : Int × Bool := match Lib.atoiAll s with
  | .ok n => if Lib.itoa n = s ∧ ((Lib.trimPrefix s [45]).length : Int) ≤ most then (n, true) else (0, false)
  | _ => (0, false)
theorem atoi_t (s : ByteArray) (hs : s.size ≤ 1048576) (w : World) (hg : GB w) :
    Calls Tryd.prog 29 #[.string s] w fun e w' => (match Lib.atoiAll s.data.toList with
      | .ok v => e = .returned (.tuple #[.int .i64 v, .nilIface])
      | _ => ∃ (x : Int) (N : Nat), e = .returned (.tuple #[.int .i64 x, .iface 69 (.pointer (some ⟨N, 0, none⟩))])) ∧ Below w.heap.size w w' := by
  obtain ⟨t1, p1, h1⟩ := hg.here.sy
  obtain ⟨t2, p2, h2⟩ := hg.here.rg
  rcases h : Lib.atoiAll s.data.toList with v | _ | _
  · refine (Tryd.strconv_Atoi_ok s (by omega) v h w).mono ?_
    rintro e w' ⟨rfl, rfl | ⟨t, rfl⟩⟩
    · exact ⟨rfl, Below.refl _ _⟩
    · exact ⟨rfl, Lib.bytesWorld_below _ _ _⟩
  · refine (Tryd.strconv_Atoi_syntax_var s (by omega) h t1 p1 w h1).mono ?_
    rintro e w' ⟨N, rfl, _, _, hb⟩
    exact ⟨⟨_, _, rfl⟩, hb⟩
  · refine (Tryd.strconv_Atoi_range_var s (by omega) h t2 p2 w h2).mono ?_
    rintro e w' ⟨N, rfl, _, _, hb⟩
    exact ⟨⟨_, _, rfl⟩, hb⟩
theorem trim_t (s p : ByteArray) (w : World) :
    Calls Tryd.prog 30 #[.string s, .string p] w fun e w' => e = .returned (.string ⟨(Lib.trimPrefix s.data.toList p.data.toList).toArray⟩) ∧ w' = w := Tryd.strings_TrimPrefix s p w
set_option maxHeartbeats 2000000 in
theorem rd_ok (s : ByteArray) (m v : Int) (x : Int) (b : Bool) (w : World) (hg : GB w) (b0 : -9223372036854775808 ≤ v) (b1 : v ≤ 9223372036854775807)
    (hc : (Lib.itoa v = s.toList ∧ ((Lib.trimPrefix s.data.toList [45]).length : Int) ≤ m ∧ x = v ∧ b = true) ∨ (Lib.itoa v = s.toList ∧ ¬ ((Lib.trimPrefix s.data.toList [45]).length : Int) ≤ m ∧ x = 0 ∧ b = false) ∨ (¬ Lib.itoa v = s.toList ∧ x = 0 ∧ b = false))
    (A : Calls Tryd.prog 29 #[.string s] w fun e w' => e = .returned (.tuple #[.int .i64 v, .nilIface]) ∧ Below w.heap.size w w') :
    Calls Tryd.prog 17 #[.string s, .int .i64 m] w fun e w' => e = .returned (.tuple #[.int .i64 x, .bool b]) ∧ Below w.heap.size w w' := by
  have HG := Aside0.mk hg
  have D : ∀ W, Below w.heap.size w W → Calls Tryd.prog 20 #[.int .i64 v] W fun e w' => e = .returned (.string ⟨(Lib.itoa v).toArray⟩) ∧ Below W.heap.size W w' := fun W hb => digits_t v b0 b1 W (HG.out.step hb)
  clear b0 b1 hg
  rcases hc with ⟨e1, e2, rfl, rfl⟩ | ⟨e1, e2, rfl, rfl⟩ | ⟨e1, rfl, rfl⟩
  · have q : decide (m < ((Lib.trimPrefix s.data.toList [45]).length : Int)) = false := decide_eq_false (by omega)
    go_enter Tryd.func17, Tryd.ntmps17
    go_wp2_with (first
      | (go_at_call 29; refine A.mono ?_; rintro e w1 ⟨rfl, hb⟩; have HB := Aside0.mk hb; clear hb)
      | (go_at_call 20; refine (D _ HB.out).mono ?_; rintro e w2 ⟨rfl, hb⟩; have HB2 := Aside0.mk (below_step HB.out hb); clear hb)
      | (go_at_call 30; refine (trim_t _ _ _).mono ?_; rintro e w3 ⟨rfl, rfl⟩))
    all_goals first | contradiction | (exfalso; omega) | skip
    all_goals go_ret2
    all_goals exact ⟨rfl, HB2.out⟩
  · have q : decide (m < ((Lib.trimPrefix s.data.toList [45]).length : Int)) = true := decide_eq_true (by omega)
    go_enter Tryd.func17, Tryd.ntmps17
    go_wp2_with (first
      | (go_at_call 29; refine A.mono ?_; rintro e w1 ⟨rfl, hb⟩; have HB := Aside0.mk hb; clear hb)
      | (go_at_call 20; refine (D _ HB.out).mono ?_; rintro e w2 ⟨rfl, hb⟩; have HB2 := Aside0.mk (below_step HB.out hb); clear hb)
      | (go_at_call 30; refine (trim_t _ _ _).mono ?_; rintro e w3 ⟨rfl, rfl⟩))
    all_goals first | contradiction | (exfalso; omega) | skip
    all_goals go_ret2
    all_goals exact ⟨rfl, HB2.out⟩
  · have q : (!(Lib.itoa v == s.toList)) = true := by simp [e1]
    go_enter Tryd.func17, Tryd.ntmps17
    go_wp2_with (first
      | (go_at_call 29; refine A.mono ?_; rintro e w1 ⟨rfl, hb⟩; have HB := Aside0.mk hb; clear hb)
      | (go_at_call 20; refine (D _ HB.out).mono ?_; rintro e w2 ⟨rfl, hb⟩; have HB2 := Aside0.mk (below_step HB.out hb); clear hb)
      | (go_at_call 30; refine (trim_t _ _ _).mono ?_; rintro e w3 ⟨rfl, rfl⟩))
    all_goals first | contradiction | (exfalso; omega) | skip
    all_goals go_ret2
    all_goals exact ⟨rfl, HB2.out⟩
theorem rd_bad (s : ByteArray) (m : Int) (w : World)
    (A : Calls Tryd.prog 29 #[.string s] w fun e w' => (∃ (x : Int) (N : Nat), e = .returned (.tuple #[.int .i64 x, .iface 69 (.pointer (some ⟨N, 0, none⟩))])) ∧ Below w.heap.size w w') :
    Calls Tryd.prog 17 #[.string s, .int .i64 m] w fun e w' => e = .returned (.tuple #[.int .i64 0, .bool false]) ∧ Below w.heap.size w w' := by
  go_enter Tryd.func17, Tryd.ntmps17
  go_wp2_with (go_at_call 29; refine A.mono ?_; rintro e w1 ⟨⟨x, N, rfl⟩, hb⟩; have HB := Aside0.mk hb; clear hb)
  go_ret2
  exact ⟨rfl, HB.out⟩
theorem rd_t (s : ByteArray) (m : Int) (hs : s.size ≤ 1048576) (w : World) (hg : GB w) :
    Calls Tryd.prog 17 #[.string s, .int .i64 m] w fun e w' => e = .returned (.tuple #[.int .i64 (rdN s.data.toList m).1, .bool (rdN s.data.toList m).2]) ∧ Below w.heap.size w w' := by
  have A := atoi_t s hs w hg
  unfold rdN
  rcases h : Lib.atoiAll s.data.toList with v | _ | _
  · rw [h] at A
    obtain ⟨b0, b1⟩ := Lib.atoiAll_bounds h
    refine rd_ok s m v _ _ w hg b0 (by omega) ?_ A
    rw [ByteArray.toList_eq]
    by_cases e1 : Lib.itoa v = s.data.toList
    · by_cases e2 : ((Lib.trimPrefix s.data.toList [45]).length : Int) ≤ m
      · exact .inl ⟨e1, e2, by dsimp only; rw [if_pos ⟨e1, e2⟩], by dsimp only; rw [if_pos ⟨e1, e2⟩]⟩
      · exact .inr (.inl ⟨e1, e2, by dsimp only; rw [if_neg (fun h => e2 h.2)], by dsimp only; rw [if_neg (fun h => e2 h.2)]⟩)
    · exact .inr (.inr ⟨e1, by dsimp only; rw [if_neg (fun h => e1 h.1)], by dsimp only; rw [if_neg (fun h => e1 h.1)]⟩)
  · rw [h] at A
    exact rd_bad s m w A
  · rw [h] at A
    exact rd_bad s m w A
theorem glLasts : Lasts GB := ⟨fun _ _ h hb => h.step hb⟩
theorem args1 {args : Array Value} (h : args.size = 1) : args = #[args.getD 0 undef] := by
  apply Array.ext (by simpa using h)
  intro i h1 h2
  have : i = 0 := by simp at h2; omega
  subst this; simp [Array.getD, h1]
theorem args2 {args : Array Value} (h : args.size = 2) : args = #[args.getD 0 undef, args.getD 1 undef] := by
  apply Array.ext (by simpa using h)
  intro i h1 h2
  have : i = 0 ∨ i = 1 := by simp at h2; omega
  rcases this with rfl | rfl <;> simp [Array.getD, h1]
theorem digits_q (n : Int) (h : -9223372036854775808 ≤ n ∧ n ≤ 9223372036854775807) : FnSpecQ GB Tryd.prog 20 [.int .i64 n] (.str (strOf (Lib.itoa n))) := by
  refine FnSpecQ.pure (.string (strOf (Lib.itoa n))) (fun G w => .g (.str _)) (fun G w args hQ hn ha => ?_)
  have g0 := Rep.inv_int (ha 0 _ rfl)
  rw [args1 hn, g0]
  exact digits_t n h.1 h.2 w hQ
theorem rep_tup2 {G : Gh} {w : World} {a b : Value} {x y : V} (h1 : G.Rep w a x) (h2 : G.Rep w b y) : G.Rep w (.tuple #[a, b]) (.tup [x, y]) :=
  .tup _ _ rfl (fun j z hz => by
    match j, hz with
    | 0, hz => simp at hz; subst hz; exact h1
    | 1, hz => simp at hz; subst hz; exact h2
    | _ + 2, hz => simp at hz)
theorem rep_tup3 {G : Gh} {w : World} {a b c : Value} {x y z : V} (h1 : G.Rep w a x) (h2 : G.Rep w b y) (h3 : G.Rep w c z) : G.Rep w (.tuple #[a, b, c]) (.tup [x, y, z]) :=
  .tup _ _ rfl (fun j u hu => by
    match j, hu with
    | 0, hu => simp at hu; subst hu; exact h1
    | 1, hu => simp at hu; subst hu; exact h2
    | 2, hu => simp at hu; subst hu; exact h3
    | _ + 3, hu => simp at hu)
theorem readNumber_q (s : ByteArray) (m : Int) (hs : s.size ≤ 1048576) : FnSpecQ GB Tryd.prog 17 [.str s, .int .i64 m] (.tup [.int .i64 (rdN s.data.toList m).1, .bool (rdN s.data.toList m).2]) := by
  refine FnSpecQ.pure (.tuple #[.int .i64 (rdN s.data.toList m).1, .bool (rdN s.data.toList m).2]) (fun G w => rep_tup2 (.g (.int _ _)) (.g (.bool _))) (fun G w args hQ hn ha => ?_)
  have g0 := Rep.inv_str (ha 0 _ rfl)
  have g1 := Rep.inv_int (ha 1 _ rfl)
  rw [args2 hn, g0, g1]
  exact rd_t s m hs w hQ
theorem cutPrefix_q (s p : ByteArray) : FnSpecQ GB Tryd.prog 15 [.str s, .str p] (.tup [.str (strOf (Lib.trimPrefix s.data.toList p.data.toList)), .bool (Lib.hasPrefix s.data.toList p.data.toList)]) := by
  refine FnSpecQ.pure (.tuple #[.string (strOf (Lib.trimPrefix s.data.toList p.data.toList)), .bool (Lib.hasPrefix s.data.toList p.data.toList)]) (fun G w => rep_tup2 (.g (.str _)) (.g (.bool _))) (fun G w args hQ hn ha => ?_)
  have g0 := Rep.inv_str (ha 0 _ rfl)
  have g1 := Rep.inv_str (ha 1 _ rfl)
  rw [args2 hn, g0, g1]
  refine (Tryd.strings_CutPrefix s p w).mono ?_
  rintro e w' ⟨rfl, rfl⟩
  exact ⟨rfl, Below.refl _ _⟩
theorem cut_q (s p : ByteArray) (hs : s.size ≤ 1048576) : FnSpecQ GB Tryd.prog 16 [.str s, .str p] (.tup [.str (strOf (Lib.cut s.data.toList p.data.toList).1), .str (strOf (Lib.cut s.data.toList p.data.toList).2.1), .bool (Lib.cut s.data.toList p.data.toList).2.2]) := by
  refine FnSpecQ.pure (.tuple #[.string (strOf (Lib.cut s.data.toList p.data.toList).1), .string (strOf (Lib.cut s.data.toList p.data.toList).2.1), .bool (Lib.cut s.data.toList p.data.toList).2.2]) (fun G w => rep_tup3 (.g (.str _)) (.g (.str _)) (.g (.bool _))) (fun G w args hQ hn ha => ?_)
  have g0 := Rep.inv_str (ha 0 _ rfl)
  have g1 := Rep.inv_str (ha 1 _ rfl)
  rw [args2 hn, g0, g1]
  obtain ⟨m, hm⟩ := hQ.here.mx
  refine (Tryd.strings_Cut s p m w (by omega) hm).mono ?_
  rintro e w' ⟨rfl, n, rfl⟩
  exact ⟨rfl, ⟨rfl, rfl, rfl, Nat.le_refl _, fun _ _ => rfl⟩⟩
end Go.Proofs.YthklhfcjglimiaaDoor.OnRd
end

section
set_option linter.unusedVariables false
set_option linter.unusedSimpArgs false
namespace Go.Proofs.YthklhfcjglimiaaDoor.OnRd
open Go Go.Sy Go.Proofs Go.RowKit
def onOk (o : On) : Bool :=
  if o.kind = 1 then inR o.day 1 31 && o.week == 0 else if o.kind = 2 then o.day == 0 && inR o.week 0 6 else if o.kind = 3 then inR o.day 1 31 && inR o.week 0 6 else false
def txO (o : On) : List UInt8 :=
  if onOk o = false then [] else if o.kind = 1 then Lib.itoa o.day else if o.kind = 2 then [108, 97, 115, 116] ++ Lib.itoa o.week else (Lib.itoa o.week ++ [62, 61]) ++ Lib.itoa o.day
def zOn : On := ⟨0, 0, 0⟩
def onO (s : List UInt8) : On :=
  if Lib.hasPrefix s [108, 97, 115, 116] = true then ⟨2, 0, (rdN (Lib.trimPrefix s [108, 97, 115, 116]) 2).1⟩
  else if (Lib.cut s [62, 61]).2.2 = true then ⟨3, (rdN (Lib.cut s [62, 61]).2.1 2).1, (rdN (Lib.cut s [62, 61]).1 2).1⟩
  else ⟨1, (rdN s 2).1, 0⟩
def onRI (s : List UInt8) : On × Bool := if s = [] ∨ ¬ txO (onO s) = s then (zOn, false) else (onO s, true)
def dgo : Int → List UInt8 → Option Int
  | x, [] => some x
  | x, c :: l => if (c.toNat : Int) < 48 ∨ (c.toNat : Int) > 57 then none else dgo (10 * x + (c.toNat : Int) - 48) l
def minus (s : List UInt8) : Nat := match s with
  | c :: _ => if c = 45 then 1 else 0
  | [] => 0
def rd4 (s : List UInt8) : Int × Bool :=
  if inR ((s.length : Int) - (minus s : Int)) 1 4 = true then
    match dgo 0 (s.drop (minus s)) with
    | none => (0, false)
    | some x => if Lib.itoa (if minus s = 1 then 0 - x else x) = s then ((if minus s = 1 then 0 - x else x), true) else (0, false)
  else (0, false)
def rawS (s : List UInt8) : On × Bool :=
  if 4 < s.length ∧ s.take 4 = [108, 97, 115, 116] then (⟨2, 0, (rd4 (s.drop 4)).1⟩, (rd4 (s.drop 4)).2)
  else if 3 < s.length ∧ (s.drop 1).take 2 = [62, 61] then (⟨3, (rd4 (s.drop 3)).1, (rd4 (s.take 1)).1⟩, (rd4 (s.take 1)).2 && (rd4 (s.drop 3)).2)
  else (⟨1, (rd4 s).1, 0⟩, (rd4 s).2)
def onRS (s : List UInt8) : On × Bool := if (rawS s).2 = true ∧ onOk (rawS s).1 = true then ((rawS s).1, true) else (zOn, false)
def onEq (a b : On) : Bool := a.kind == b.kind && a.day == b.day && a.week == b.week
theorem onEq_refl (a : On) : onEq a a = true := by simp [onEq]
/-- A text of a day that may be. -/
def Vd (s : List UInt8) (o : On) : Prop := onOk o = true ∧ txO o = s
theorem itoa_in {s : List UInt8} {m : Int} (h : (rdN s m).2 = true) : Lib.itoa (rdN s m).1 = s := by
  unfold rdN at h ⊢
  split
  · rename_i n hn
    rw [hn] at h
    dsimp only at h ⊢
    split at h
    · rename_i q; rw [if_pos q]; exact q.1
    · simp at h
  · rename_i hn
    split at h
    · rename_i n hn2; exact absurd hn2 (hn n)
    · simp at h
theorem itoa_rd4 {s : List UInt8} (h : (rd4 s).2 = true) : Lib.itoa (rd4 s).1 = s := by
  unfold rd4 at h ⊢
  split at h
  · rename_i q
    rw [if_pos q]
    split at h
    · simp at h
    · rename_i x hx
      by_cases q2 : Lib.itoa (if minus s = 1 then 0 - x else x) = s
      · rw [if_pos q2]; exact q2
      · rw [if_neg q2] at h; simp at h
  · simp at h
theorem read_i {s : List UInt8} (h : (onRI s).2 = true) : Vd s (onRI s).1 := by
  unfold onRI at h ⊢
  split at h
  · simp at h
  · rename_i q
    rw [if_neg q]
    rw [not_or, Classical.not_not] at q
    refine ⟨?_, q.2⟩
    cases hk : onOk (onO s) with
    | true => rfl
    | false =>
      have := q.2
      unfold txO at this
      rw [if_pos hk] at this
      exact absurd this.symm q.1
theorem read_s {s : List UInt8} (h : (onRS s).2 = true) : Vd s (onRS s).1 := by
  unfold onRS at h ⊢
  split at h
  case isFalse => simp at h
  rename_i q
  rw [if_pos q]
  refine ⟨q.2, ?_⟩
  obtain ⟨q1, q2⟩ := q
  unfold txO
  rw [if_neg (by rw [q2]; decide)]
  unfold rawS at q1 q2 ⊢
  by_cases c1 : 4 < s.length ∧ s.take 4 = [108, 97, 115, 116]
  · rw [if_pos c1] at q1 ⊢
    dsimp only at q1 ⊢
    rw [if_neg (by decide), if_pos rfl, itoa_rd4 q1, ← c1.2, List.take_append_drop]
  rw [if_neg c1] at q1 ⊢
  by_cases c2 : 3 < s.length ∧ (s.drop 1).take 2 = [62, 61]
  · rw [if_pos c2] at q1 ⊢
    dsimp only at q1 ⊢
    rw [Bool.and_eq_true] at q1
    rw [if_neg (by decide), if_neg (by decide), itoa_rd4 q1.1, itoa_rd4 q1.2, ← c2.2, List.append_assoc, show s.drop 3 = (s.drop 1).drop 2 by rw [List.drop_drop], List.take_append_drop, List.take_append_drop]
  rw [if_neg c2] at q1 ⊢
  dsimp only at q1 ⊢
  rw [if_pos rfl, itoa_rd4 q1]
/- words for the walks -/
theorem onOk_nums {o : On} (h : onOk o = true) : (0 ≤ o.day ∧ o.day ≤ 31) ∧ 0 ≤ o.week ∧ o.week ≤ 6 := by
  unfold onOk at h
  split at h
  · simp only [Bool.and_eq_true, inR_iff, beq_iff_eq] at h; omega
  · split at h
    · simp only [Bool.and_eq_true, inR_iff, beq_iff_eq] at h; omega
    · split at h
      · simp only [Bool.and_eq_true, inR_iff] at h; omega
      · simp at h
theorem app_str (a b : List UInt8) : strOf a ++ strOf b = strOf (a ++ b) := by
  apply ByteArray.ext
  rw [ByteArray.data_append]
  simp [strOf]
theorem tx_0 {o : On} (h : onOk o = false) : txO o = [] := by unfold txO; rw [if_pos h]
theorem tx_no {o : On} (h : onOk o = false) : (⟨#[]⟩ : ByteArray) = strOf (txO o) := by rw [tx_0 h]; rfl
theorem tx_1 {o : On} (h : onOk o = true) (h1 : o.kind = 1) : strOf (Lib.itoa o.day) = strOf (txO o) := by
  unfold txO; rw [if_neg (by rw [h]; decide), if_pos h1]
theorem tx_2 {o : On} (h : onOk o = true) (h1 : ¬ o.kind = 1) (h2 : o.kind = 2) : (⟨#[108, 97, 115, 116]⟩ : ByteArray) ++ strOf (Lib.itoa o.week) = strOf (txO o) := by
  unfold txO; rw [if_neg (by rw [h]; decide), if_neg h1, if_pos h2, ← app_str]; rfl
theorem tx_3 {o : On} (h : onOk o = true) (h1 : ¬ o.kind = 1) (h2 : ¬ o.kind = 2) : (strOf (Lib.itoa o.week) ++ (⟨#[62, 61]⟩ : ByteArray)) ++ strOf (Lib.itoa o.day) = strOf (txO o) := by
  unfold txO; rw [if_neg (by rw [h]; decide), if_neg h1, if_neg h2, ← app_str, ← app_str]; rfl
theorem rdN_bd (s : List UInt8) (m : Int) : -9223372036854775808 ≤ (rdN s m).1 ∧ (rdN s m).1 ≤ 9223372036854775807 := by
  unfold rdN
  cases h : Lib.atoiAll s with
  | ok n =>
    dsimp only
    obtain ⟨b0, b1⟩ := Lib.atoiAll_bounds h
    split
    · dsimp only; omega
    · simp
  | _ => simp
theorem onO_bd (s : List UInt8) : (-9223372036854775808 ≤ (onO s).day ∧ (onO s).day ≤ 9223372036854775807) ∧ -9223372036854775808 ≤ (onO s).week ∧ (onO s).week ≤ 9223372036854775807 := by
  unfold onO
  split
  · have := rdN_bd (Lib.trimPrefix s [108, 97, 115, 116]) 2; dsimp only; omega
  · split
    · have h1 := rdN_bd (Lib.cut s [62, 61]).1 2; have h2 := rdN_bd (Lib.cut s [62, 61]).2.1 2; dsimp only; omega
    · have := rdN_bd s 2; dsimp only; omega
theorem cut_le (s : List UInt8) : (Lib.cut s [62, 61]).1.length ≤ s.length ∧ (Lib.cut s [62, 61]).2.1.length ≤ s.length := by
  unfold Lib.cut
  split
  · simp; omega
  · simp
theorem trim_le (s p : List UInt8) : (Lib.trimPrefix s p).length ≤ s.length := by
  unfold Lib.trimPrefix
  split <;> simp
theorem onO_1 {l : List UInt8} (h : Lib.hasPrefix l [108, 97, 115, 116] = true) : onO l = ⟨2, 0, (rdN (Lib.trimPrefix l [108, 97, 115, 116]) 2).1⟩ := by unfold onO; rw [if_pos h]
theorem onO_2 {l : List UInt8} (h : Lib.hasPrefix l [108, 97, 115, 116] = false) (h2 : (Lib.cut l [62, 61]).2.2 = true) : onO l = ⟨3, (rdN (Lib.cut l [62, 61]).2.1 2).1, (rdN (Lib.cut l [62, 61]).1 2).1⟩ := by
  unfold onO; rw [if_neg (by rw [h]; decide), if_pos h2]
theorem onO_3 {l : List UInt8} (h : Lib.hasPrefix l [108, 97, 115, 116] = false) (h2 : (Lib.cut l [62, 61]).2.2 = false) : onO l = ⟨1, (rdN l 2).1, 0⟩ := by
  unfold onO; rw [if_neg (by rw [h]; decide), if_neg (by rw [h2]; decide)]
theorem ri_1 {s : ByteArray} (h : s.toList = (⟨#[]⟩ : ByteArray).toList) : onRI s.data.toList = (zOn, false) := by
  have e : s.data.toList = [] := by rw [noBytes, ByteArray.toList_eq] at h; exact h
  unfold onRI; rw [if_pos (.inl e)]
theorem ri_2 {s : ByteArray} {o : On} (h0 : ¬ s.toList = (⟨#[]⟩ : ByteArray).toList) (ho : onO s.data.toList = o) (h : ¬ (strOf (txO o)).toList = s.toList) : onRI s.data.toList = (zOn, false) := by
  unfold onRI
  rw [ByteArray.toList_eq, ByteArray.toList_eq] at h
  rw [ho]
  exact if_pos (.inr h)
theorem ri_3 {s : ByteArray} {o : On} (h0 : ¬ s.toList = (⟨#[]⟩ : ByteArray).toList) (ho : onO s.data.toList = o) (h : (strOf (txO o)).toList = s.toList) : onRI s.data.toList = (o, true) := by
  unfold onRI
  rw [ByteArray.toList_eq, ByteArray.toList_eq] at h
  rw [noBytes, ByteArray.toList_eq] at h0
  rw [ho, if_neg]
  rw [not_or, Classical.not_not]
  exact ⟨h0, h⟩
theorem num_neg {x : Int} (h : x < 0) : (⟨#[45]⟩ : ByteArray) ++ strOf (Lib.itoa (0 - x)) = strOf (Lib.itoa x) := by
  have e : Lib.itoa x = [45] ++ Lib.itoa (0 - x) := by
    unfold Lib.itoa
    rw [if_pos h, if_neg (by omega), show (0 - x).toNat = x.natAbs by omega]; rfl
  rw [e, ← app_str]; rfl
theorem u8_dig {n : Nat} (h : n < 256) : u8Of (n : Int) = UInt8.ofNat n := by unfold u8Of; congr 1; omega
theorem num_one {x : Int} (h0 : ¬ x < 0) (h : x < 10) : strOf [u8Of (48 + x)] = strOf (Lib.itoa x) := by
  congr 1
  unfold Lib.itoa
  rw [if_neg h0, Lib.decDigits_one (by omega), ← u8_dig (by omega)]
  congr 2; omega
theorem num_big {x : Int} (h0 : ¬ x < 0) (h : ¬ x < 10) : strOf (Lib.itoa (x / 10)) ++ strOf [u8Of (48 + (x % 10))] = strOf (Lib.itoa x) := by
  rw [app_str]
  congr 1
  unfold Lib.itoa
  rw [if_neg h0, if_neg (by omega)]
  conv => rhs; rw [Lib.decDigits, dif_neg (show ¬ x.toNat < 10 by omega)]
  rw [show (x / 10).toNat = x.toNat / 10 by omega, ← u8_dig (show 48 + x.toNat % 10 < 256 by omega)]
  congr 3; omega
theorem strGet {s : ByteArray} {k : Nat} {e : UInt8} (h : s.data[k]? = some e) : s.data.toList[k]? = some e := by simpa using h
theorem minus_1 {l : List UInt8} {e : UInt8} (h : l[0]? = some e) (h1 : (e.toNat : Int) = 45) : minus l = 1 := by
  cases l with
  | nil => simp at h
  | cons c r =>
    simp at h; subst h
    have : c = 45 := UInt8.toNat_inj.1 (by show c.toNat = 45; omega)
    show (if c = 45 then 1 else 0) = 1; rw [if_pos this]
theorem minus_0 {l : List UInt8} {e : UInt8} (h : l[0]? = some e) (h1 : ¬ (e.toNat : Int) = 45) : minus l = 0 := by
  cases l with
  | nil => simp at h
  | cons c r =>
    simp at h; subst h
    have : ¬ c = 45 := fun q => h1 (by rw [q]; rfl)
    show (if c = 45 then 1 else 0) = 0; rw [if_neg this]
theorem minus_n {s : ByteArray} (h : ¬ (s.size : Int) > 0) : minus s.data.toList = 0 := by
  have : s.data.toList = [] := by
    apply List.length_eq_zero_iff.1
    rw [Array.length_toList]; have : s.data.size = s.size := rfl; omega
  rw [this]; rfl
theorem dgo_step {l : List UInt8} {k : Nat} {e : UInt8} {x : Int} (h : l[k]? = some e) (h1 : ¬ ((e.toNat : Int) < 48 ∨ (e.toNat : Int) > 57)) : dgo x (l.drop k) = dgo (10 * x + (e.toNat : Int) - 48) (l.drop (k + 1)) := by
  rw [dropCons h, dgo, if_neg h1]
theorem dgo_bad {l : List UInt8} {k : Nat} {e : UInt8} {x : Int} (h : l[k]? = some e) (h1 : (e.toNat : Int) < 48 ∨ (e.toNat : Int) > 57) : dgo x (l.drop k) = none := by
  rw [dropCons h, dgo, if_pos h1]
theorem dgo_end {l : List UInt8} {k : Nat} {x : Int} (h : l.length ≤ k) : dgo x (l.drop k) = some x := by
  rw [List.drop_of_length_le h]; rfl
theorem pow_four {i : Nat} (h : i ≤ 4) : (1 : Int) ≤ 10 ^ i ∧ (10 : Int) ^ i ≤ 10000 := by
  have : i = 0 ∨ i = 1 ∨ i = 2 ∨ i = 3 ∨ i = 4 := by omega
  rcases this with rfl | rfl | rfl | rfl | rfl <;> decide
theorem rd4_no {s : ByteArray} {m : Nat} (hm : minus s.data.toList = m) (h : inR ((s.size : Int) - (m : Int)) 1 4 = false) : rd4 s.data.toList = (0, false) := by
  unfold rd4
  rw [hm, Array.length_toList, if_neg (by have e : s.data.size = s.size := rfl; rw [e, h]; decide)]
theorem rd4_bad {s : ByteArray} {m : Nat} (hm : minus s.data.toList = m) (h : inR ((s.size : Int) - (m : Int)) 1 4 = true) (hd : dgo 0 (s.data.toList.drop m) = none) : rd4 s.data.toList = (0, false) := by
  unfold rd4
  rw [hm, Array.length_toList, if_pos (by have e : s.data.size = s.size := rfl; rw [e, h]), hd]
theorem rd4_val {s : ByteArray} {m : Nat} {x y : Int} (hm : minus s.data.toList = m) (h : inR ((s.size : Int) - (m : Int)) 1 4 = true) (hd : dgo 0 (s.data.toList.drop m) = some x) (hy : (if m = 1 then 0 - x else x) = y) :
    rd4 s.data.toList = if Lib.itoa y = s.data.toList then (y, true) else (0, false) := by
  unfold rd4
  rw [hm, Array.length_toList, if_pos (by have e : s.data.size = s.size := rfl; rw [e, h]), hd]
  dsimp only
  rw [hy]
theorem rd4_ok {s : ByteArray} {m : Nat} {x y : Int} (hm : minus s.data.toList = m) (h : inR ((s.size : Int) - (m : Int)) 1 4 = true) (hd : dgo 0 (s.data.toList.drop m) = some x) (hy : (if m = 1 then 0 - x else x) = y) (hq : (strOf (Lib.itoa y)).toList = s.toList) : rd4 s.data.toList = (y, true) := by
  rw [rd4_val hm h hd hy, if_pos]
  rw [ByteArray.toList_eq, ByteArray.toList_eq] at hq
  exact hq
theorem rd4_ne {s : ByteArray} {m : Nat} {x y : Int} (hm : minus s.data.toList = m) (h : inR ((s.size : Int) - (m : Int)) 1 4 = true) (hd : dgo 0 (s.data.toList.drop m) = some x) (hy : (if m = 1 then 0 - x else x) = y) (hq : ¬ (strOf (Lib.itoa y)).toList = s.toList) : rd4 s.data.toList = (0, false) := by
  rw [rd4_val hm h hd hy, if_neg]
  rw [ByteArray.toList_eq, ByteArray.toList_eq] at hq
  exact hq
theorem ext_to {s : ByteArray} {a : Nat} : (s.extract a s.size).data.toList = s.data.toList.drop a := by
  rw [extract_strOf, data_strOf]
  apply List.take_of_length_le
  rw [List.length_drop, Array.length_toList]; exact Nat.le_refl _
theorem ext_in {s : ByteArray} {a b : Nat} : (s.extract a b).data.toList = (s.data.toList.drop a).take (b - a) := by rw [extract_strOf, data_strOf]
end Go.Proofs.YthklhfcjglimiaaDoor.OnRd
end

section
set_option linter.unusedVariables false
set_option linter.unusedSimpArgs false
namespace Go.Proofs.YthklhfcjglimiaaDoor.OnRd
open Go Go.Sy Go.Proofs Go.RowKit
def dg (n : Nat) : List UInt8 := if n < 10 then [UInt8.ofNat (48 + n)] else [UInt8.ofNat (48 + n / 10), UInt8.ofNat (48 + n % 10)]
theorem itoa_dg {n : Nat} (h : n < 100) : Lib.itoa (n : Int) = dg n := by
  unfold Lib.itoa dg
  rw [if_neg (by omega), Int.toNat_natCast]
  by_cases q : n < 10
  · rw [if_pos q, Lib.decDigits_one q]
  · rw [if_neg q, Lib.decDigits_two (by omega) (by omega)]
theorem atoi_dg : ∀ n, n < 32 → Lib.atoiAll (dg n) = .ok (n : Int) := by
  decide
theorem trim_dg : ∀ n, n < 32 → (Lib.trimPrefix (dg n) [45]).length ≤ 2 := by decide
theorem rdN_dg {n : Nat} (h : n < 32) : rdN (dg n) 2 = ((n : Int), true) := by
  unfold rdN
  rw [atoi_dg n h]
  dsimp only
  rw [if_pos ⟨itoa_dg (by omega), by have := trim_dg n h; omega⟩]
theorem rd4_pre : ∀ n, n < 32 → inR (((dg n).length : Int) - (minus (dg n) : Int)) 1 4 = true ∧ dgo 0 ((dg n).drop (minus (dg n))) = some (n : Int) ∧ ¬ minus (dg n) = 1 := by decide
theorem rd4_dg {n : Nat} (h : n < 32) : rd4 (dg n) = ((n : Int), true) := by
  obtain ⟨h1, h2, h3⟩ := rd4_pre n h
  unfold rd4
  rw [if_pos h1, h2]
  dsimp only
  rw [if_neg h3, if_pos (itoa_dg (by omega))]
theorem pre_dg : ∀ n, n < 32 → Lib.hasPrefix (dg n) [108, 97, 115, 116] = false ∧ (Lib.cut (dg n) [62, 61]).2.2 = false ∧ ¬ (4 < (dg n).length ∧ (dg n).take 4 = [108, 97, 115, 116]) ∧ ¬ (3 < (dg n).length ∧ ((dg n).drop 1).take 2 = [62, 61]) ∧ ¬ dg n = [] := by decide
theorem pre_last : ∀ n, n < 7 → Lib.hasPrefix ([108, 97, 115, 116] ++ dg n) [108, 97, 115, 116] = true ∧ Lib.trimPrefix ([108, 97, 115, 116] ++ dg n) [108, 97, 115, 116] = dg n ∧ (4 < ([108, 97, 115, 116] ++ dg n).length ∧ ([108, 97, 115, 116] ++ dg n).take 4 = [108, 97, 115, 116]) ∧ ([108, 97, 115, 116] ++ dg n).drop 4 = dg n := by decide
def AfterP (w d : Nat) : Prop := Lib.hasPrefix ((dg w ++ [62, 61]) ++ dg d) [108, 97, 115, 116] = false ∧ Lib.cut ((dg w ++ [62, 61]) ++ dg d) [62, 61] = (dg w, dg d, true) ∧ ¬ (4 < ((dg w ++ [62, 61]) ++ dg d).length ∧ ((dg w ++ [62, 61]) ++ dg d).take 4 = [108, 97, 115, 116]) ∧ (3 < ((dg w ++ [62, 61]) ++ dg d).length ∧ (((dg w ++ [62, 61]) ++ dg d).drop 1).take 2 = [62, 61]) ∧ ((dg w ++ [62, 61]) ++ dg d).drop 3 = dg d ∧ ((dg w ++ [62, 61]) ++ dg d).take 1 = dg w
instance (w d : Nat) : Decidable (AfterP w d) := by unfold AfterP; infer_instance
theorem pre_after : ∀ w, w < 7 → ∀ d, d < 32 → AfterP w d := by decide
theorem tx_ne {s : List UInt8} {o : On} (h : Vd s o) : ¬ s = [] := by
  obtain ⟨h1, h2⟩ := h
  rw [← h2]
  have hb := onOk_nums h1
  unfold txO
  rw [if_neg (by rw [h1]; decide)]
  obtain ⟨k, d, w⟩ := o
  dsimp only at hb ⊢
  have ed : (d : Int) = (d.toNat : Int) := by omega
  have ew : (w : Int) = (w.toNat : Int) := by omega
  split
  · rw [ed, itoa_dg (by omega)]; exact (pre_dg _ (by omega)).2.2.2.2
  · split <;> simp
theorem both {s : List UInt8} {o : On} (h : Vd s o) : onO s = o ∧ rawS s = (o, true) := by
  obtain ⟨h1, h2⟩ := h
  have hb := onOk_nums h1
  unfold txO at h2
  rw [if_neg (by rw [h1]; decide)] at h2
  unfold onOk at h1
  obtain ⟨k, d, w⟩ := o
  dsimp only at hb h1 h2
  have ed : (d : Int) = (d.toNat : Int) := by omega
  have ew : (w : Int) = (w.toNat : Int) := by omega
  have td : d.toNat < 32 := by omega
  have tw : w.toNat < 7 := by omega
  by_cases k1 : k = 1
  · rw [if_pos k1] at h1 h2
    simp only [Bool.and_eq_true, beq_iff_eq] at h1
    rw [ed, itoa_dg (by omega)] at h2
    subst h2
    obtain ⟨p1, p2, p3, p4, p5⟩ := pre_dg _ td
    refine ⟨?_, ?_⟩
    · rw [onO_3 p1 p2, rdN_dg td, k1, h1.2, ← ed]
    · unfold rawS
      rw [if_neg p3, if_neg p4, rd4_dg td, k1, h1.2, ← ed]
  rw [if_neg k1] at h1 h2
  by_cases k2 : k = 2
  · rw [if_pos k2] at h1 h2
    simp only [Bool.and_eq_true, beq_iff_eq] at h1
    rw [ew, itoa_dg (by omega)] at h2
    subst h2
    obtain ⟨p1, p2, p3, p4⟩ := pre_last _ tw
    refine ⟨?_, ?_⟩
    · rw [onO_1 p1, p2, rdN_dg (by omega), k2, h1.1, ← ew]
    · unfold rawS
      rw [if_pos p3, p4, rd4_dg (by omega), k2, h1.1, ← ew]
  rw [if_neg k2] at h1 h2
  by_cases k3 : k = 3
  · rw [ew, ed, itoa_dg (by omega), itoa_dg (by omega)] at h2
    subst h2
    obtain ⟨p1, p2, p3, p4, p5, p6⟩ := pre_after _ tw _ td
    refine ⟨?_, ?_⟩
    · rw [onO_2 p1 (by rw [p2]), p2]
      dsimp only
      rw [rdN_dg td, rdN_dg (by omega), k3, ← ew, ← ed]
    · unfold rawS
      rw [if_neg p3, if_pos p4, p5, p6, rd4_dg td, rd4_dg (by omega), k3, ← ew, ← ed]; rfl
  rw [if_neg k3] at h1
  simp at h1
theorem ri_vd {s : List UInt8} {o : On} (h : Vd s o) : onRI s = (o, true) := by
  unfold onRI
  rw [(both h).1, if_neg]
  rw [not_or, Classical.not_not]
  exact ⟨tx_ne h, h.2⟩
theorem rs_vd {s : List UInt8} {o : On} (h : Vd s o) : onRS s = (o, true) := by
  unfold onRS
  rw [(both h).2, if_pos ⟨rfl, h.1⟩]
theorem ri_zero {s : List UInt8} (h : (onRI s).2 = false) : onRI s = (zOn, false) := by
  unfold onRI at h ⊢
  split
  · rfl
  · rename_i q; rw [if_neg q] at h; simp at h
theorem rs_zero {s : List UInt8} (h : (onRS s).2 = false) : onRS s = (zOn, false) := by
  unfold onRS at h ⊢
  split
  · rename_i q; rw [if_pos q] at h; simp at h
  · rfl
theorem onR_eq (s : List UInt8) : onRI s = onRS s := by
  cases h : (onRI s).2 with
  | true => rw [rs_vd (read_i h), ri_vd (read_i h)]
  | false =>
    cases h2 : (onRS s).2 with
    | true => exact absurd h (by rw [ri_vd (read_s h2)]; exact Bool.noConfusion)
    | false => rw [ri_zero h, rs_zero h2]
/- words for the walk of spec.OnRead -/
theorem raw_1 {s : ByteArray} (h1 : (s.size : Int) > 4) (h2 : (s.extract 0 4).toList = (⟨#[108, 97, 115, 116]⟩ : ByteArray).toList) :
    rawS s.data.toList = (⟨2, 0, (rd4 (s.extract 4 s.size).data.toList).1⟩, (rd4 (s.extract 4 s.size).data.toList).2) := by
  rw [ByteArray.toList_eq, ByteArray.toList_eq, ext_in] at h2
  have hn : s.data.toList.length = s.size := Array.length_toList
  unfold rawS
  rw [if_pos ⟨by omega, h2⟩, ext_to]
theorem raw_c {s : ByteArray} (h : ¬ ((s.size : Int) > 4 ∧ (s.extract 0 4).toList = (⟨#[108, 97, 115, 116]⟩ : ByteArray).toList)) : ¬ (4 < s.data.toList.length ∧ s.data.toList.take 4 = [108, 97, 115, 116]) := by
  rw [ByteArray.toList_eq, ByteArray.toList_eq, ext_in] at h
  have hn : s.data.toList.length = s.size := Array.length_toList
  exact fun q => h ⟨by omega, q.2⟩
theorem raw_2 {s : ByteArray} (h : ¬ ((s.size : Int) > 4 ∧ (s.extract 0 4).toList = (⟨#[108, 97, 115, 116]⟩ : ByteArray).toList)) (h1 : (s.size : Int) > 3) (h2 : (s.extract 1 3).toList = (⟨#[62, 61]⟩ : ByteArray).toList) :
    rawS s.data.toList = (⟨3, (rd4 (s.extract 3 s.size).data.toList).1, (rd4 (s.extract 0 1).data.toList).1⟩, (rd4 (s.extract 0 1).data.toList).2 && (rd4 (s.extract 3 s.size).data.toList).2) := by
  have hn : s.data.toList.length = s.size := Array.length_toList
  rw [ByteArray.toList_eq, ByteArray.toList_eq, ext_in] at h2
  unfold rawS
  rw [if_neg (raw_c h), if_pos ⟨by omega, h2⟩, ext_to, ext_in]
  rfl
theorem raw_3 {s : ByteArray} (h : ¬ ((s.size : Int) > 4 ∧ (s.extract 0 4).toList = (⟨#[108, 97, 115, 116]⟩ : ByteArray).toList)) (h1 : ¬ ((s.size : Int) > 3 ∧ (s.extract 1 3).toList = (⟨#[62, 61]⟩ : ByteArray).toList)) :
    rawS s.data.toList = (⟨1, (rd4 s.data.toList).1, 0⟩, (rd4 s.data.toList).2) := by
  have hn : s.data.toList.length = s.size := Array.length_toList
  rw [ByteArray.toList_eq, ByteArray.toList_eq, ext_in] at h1
  unfold rawS
  rw [if_neg (raw_c h), if_neg (fun q => h1 ⟨by omega, q.2⟩)]
theorem rs_ok {l : List UInt8} {o : On} {b : Bool} (hr : rawS l = (o, b)) (hb : b = true) (h : onOk o = true) : onRS l = (o, true) := by unfold onRS; rw [hr, if_pos ⟨hb, h⟩]
theorem rs_no {l : List UInt8} {o : On} {b : Bool} (hr : rawS l = (o, b)) (h : onOk o = false) : onRS l = (zOn, false) := by unfold onRS; rw [hr, if_neg (fun q => by rw [h] at q; exact absurd q.2 (by decide))]
theorem rs_bad {l : List UInt8} {o : On} {b : Bool} (hr : rawS l = (o, b)) (h : b = false) : onRS l = (zOn, false) := by unfold onRS; rw [hr, if_neg (fun q => by rw [h] at q; exact Bool.noConfusion q.1)]
theorem tx_size (o : On) : (strOf (txO o)).size ≤ 1000 := by
  rw [strOf_size]
  by_cases h : onOk o = true
  · have hb := onOk_nums h
    have h1 := Lib.itoa_length_le o.day (by omega) (by omega)
    have h2 := Lib.itoa_length_le o.week (by omega) (by omega)
    unfold txO
    rw [if_neg (by rw [h]; decide)]
    split
    · omega
    · split <;> simp only [List.length_append, List.length_cons, List.length_nil] <;> omega
  · rw [tx_0 (by simpa using h)]; decide
theorem ri_bd (s : List UInt8) : (-9223372036854775808 ≤ (onRI s).1.day ∧ (onRI s).1.day ≤ 9223372036854775807) ∧ -9223372036854775808 ≤ (onRI s).1.week ∧ (onRI s).1.week ≤ 9223372036854775807 := by
  unfold onRI
  split
  · simp [zOn]
  · exact onO_bd s
def onEqA (a b : On) : Bool := (a.kind == b.kind) && ((a.day == b.day) && ((a.week == b.week) && true))
theorem onEqA_refl (a : On) : onEqA a a = true := by simp [onEqA]
theorem ri_txt {o : On} (h : onOk o = true) : onRI (strOf (txO o)).data.toList = (o, true) := by
  rw [data_strOf]; exact ri_vd ⟨h, rfl⟩
theorem tx_same {s : ByteArray} (h : (onRI s.data.toList).2 = true) : (strOf (txO (onRI s.data.toList).1)).toList = s.toList := by
  rw [(read_i h).2, ByteArray.toList_eq, ByteArray.toList_eq, data_strOf]
theorem tx_nil {o : On} (h : onOk o = false) : (strOf (txO o)).toList = (⟨#[]⟩ : ByteArray).toList := by rw [tx_0 h]; rfl
theorem ri_t2 {o : On} (h : onOk o = true) (h2 : (onRI (strOf (txO o)).data.toList).2 = false) : False := by rw [ri_txt h] at h2; exact Bool.noConfusion h2
theorem ri_t1 {o : On} (h : onOk o = true) (h2 : onEqA (onRI (strOf (txO o)).data.toList).1 o = false) : False := by rw [ri_txt h, onEqA_refl] at h2; exact Bool.noConfusion h2
theorem ri_eq2 {l : List UInt8} (h : ((onRI l).2 == (onRS l).2) = false) : False := by rw [onR_eq, beq_self_eq_true] at h; exact Bool.noConfusion h
end Go.Proofs.YthklhfcjglimiaaDoor.OnRd
end

section
set_option linter.unusedVariables false
set_option maxRecDepth 100000
namespace Go.Proofs.YthklhfcjglimiaaDoor.OnRd
open Go Go.Sy Go.Proofs Go.RowKit Go.ChangeShapes Go.WideShapes
/-- What the rows list. -/
def laidL : List (String × DataW Unit) := [("math/bits.deBruijn32tab", Rows.laid_math_bits_deBruijn32tab), ("math/bits.deBruijn64tab", Rows.laid_math_bits_deBruijn64tab), ("internal/strconv.uint64pow10", Rows.laid_internal_strconv_uint64pow10), ("strconv.ErrRange", Rows.laid_strconv_ErrRange), ("strconv.ErrSyntax", Rows.laid_strconv_ErrSyntax)]
theorem star : "*errors.errorString" = "*" ++ "errors.errorString" := by decide
theorem row90 (u : TypeId) (h : Tryd.prog.typeName? 3 u = some "*errors.errorString") : u = 90 :=
  typeName_ptr_named (nm := "errors.errorString") (by rw [← star]; kernel_rfl) (by kernel_rfl) (by decide) u (by rw [← star]; exact h)
theorem g0 : Tryd.prog.globalNamed "internal/bytealg.MaxLen" = some 0 := by kernel_rfl
theorem g1 : Tryd.prog.globalNamed "strconv.ErrSyntax" = some 1 := by kernel_rfl
theorem g2 : Tryd.prog.globalNamed "strconv.ErrRange" = some 2 := by kernel_rfl
theorem g3 : Tryd.prog.globalNamed "internal/strconv.uint64pow10" = some 3 := by kernel_rfl
theorem tab10 : (Rows.laid_internal_strconv_uint64pow10 : DataW Unit) = Lib.tabData .u64 Lib.pow10Tab := by
  kernel_rfl
theorem gl_of {W : World} (hs : W.ShapedOpen Tryd.prog) (h : laidMetH Tryd.prog laidL W) : GB W := by
  rw [MakeChecks.laidMetH_plain _ _ _ (by kernel_rfl)] at h
  have h3 := h.tail.tail
  have h4 := h3.tail
  have h5 := h4.tail
  rw [tab10] at h3
  have mx : ∃ m, W.cell? ⟨0, 0, none⟩ = some (.int .i64 m) := cell_of_shapedOpen_int (t := 3) (zero := #[.int .i64 0]) hs (by decide +kernel) (by kernel_rfl) rfl (by kernel_rfl) (by kernel_rfl) Tryd.underlying3
  have tb : Lib.TabIs Tryd.prog W "internal/strconv.uint64pow10" .u64 Lib.pow10Tab := Lib.tabIs_of_head g3 (t := 94) (e := 76) (n := 20) (by kernel_rfl) Tryd.underlying94 Tryd.underlying76 (by kernel_rfl) (by kernel_rfl) h3
  obtain ⟨a1, _, r1, _⟩ := laid_sentinel (tp := 90) (te := 92) (ts := 9) h4 g2 (ti := 50) (by kernel_rfl) Tryd.underlying50 row90 Tryd.underlying90 Tryd.underlying92 rfl rfl Tryd.underlying9 (by kernel_rfl) (by kernel_rfl)
  obtain ⟨a2, _, r2, _⟩ := laid_sentinel (tp := 90) (te := 92) (ts := 9) h5 g1 (ti := 50) (by kernel_rfl) Tryd.underlying50 row90 Tryd.underlying90 Tryd.underlying92 rfl rfl Tryd.underlying9 (by kernel_rfl) (by kernel_rfl)
  have sz : 6 ≤ W.heap.size := by
    obtain ⟨cs, hh, _⟩ := hs.1 5 _ _ (by decide +kernel) (show ((begin Tryd.prog (fun _ _ => 0) default).world.heap[5]?).bind Obj.row? = some (Array.replicate 64 (.int .u8 0), 100) by kernel_rfl)
    have := (Array.getElem?_eq_some_iff.1 hh).1
    omega
  intro W' hb
  refine ⟨?_, ⟨_, _, var?_below hb g1 (by omega) r2⟩, ⟨_, _, var?_below hb g2 (by omega) r1⟩, var?_below hb g3 (by omega) tb⟩
  obtain ⟨m, hm⟩ := mx
  exact ⟨m, (hb.cell (show 0 < W.heap.size by omega)).trans hm⟩
/-- From a contract over worlds of the program's shape, with a condition more, to the row's wrap. -/
theorem handed_shaped {H : Type} {enc : TypeId × Value → H} {a : Assume} {C : Checked} {os : Os} {f : FuncId} {fn : Func} {s : ChangeSpec} {conds : List PathCond} {apart fresh handsOn again : Bool} {X : World → Array Value → Prop}
    (hX : ∀ (w w' : World) (args : Array Value), w.heap = w'.heap → X w args → X w' args)
    (own : ownKnob C.prog.godebug = none) (started : os.Started) (noInit : C.prog.inits.idxOf? f = none) (hfn : C.prog.funcs[f]? = some fn)
    (witness : ∃ (w : World) (tape : Tape) (i : Input), w.os = os ∧ (w.forCall tape i).Shaped C.prog ∧ i.vars = [] ∧ Input.okWide C.prog (w.forCall tape i) .any w.heap.size f i ∧
      ((s.pre enc C.prog fn conds apart (w.forCall tape i).memory i.args ∧ X (w.forCall tape i).memory i.args) ∧ sizedMet enc C.prog fn (OpenSpec.ofChange s) apart (w.forCall tape i).memory i.args) ∧ a.holds C.prog (lone (Frame.enter C.prog f i.args .normal) [] (w.forCall tape i)))
    (walk : ∀ (W : World) (base : Nat) (args : Array Value) (ds gs : List (DataW H)) (before : List MemPlace),
      (∀ (j : Nat) t v, fn.params[j]? = some t → args[j]? = some v → Value.okWide C.prog W .any base t v) →
      DataW.Whole enc C.prog fn.params.toList s.vars apart W args.toList ds gs before → X W args → W.ShapedOpen C.prog →
      Calls C.prog f args W fun e W' => ∃ v, e = .returned v ∧ s.post enc C.prog fn apart fresh handsOn again W args v W') :
    ReturnsInHanded a C os f .any (fun w args => (s.pre enc C.prog fn conds apart w args ∧ X w args) ∧ sizedMet enc C.prog fn (OpenSpec.ofChange s) apart w args) (s.post enc C.prog fn apart fresh handsOn again) := by
  refine returnsInHanded_of_calls own started noInit witness fun w tape i _ hsh _ hok hpre _ => ?_
  obtain ⟨_, _, _, fn', hfn', _, _, _, _, hval⟩ := hok
  obtain rfl : fn' = fn := Option.some.inj (hfn'.symm.trans hfn)
  obtain ⟨⟨⟨ds, gs, before, hw, _⟩, hx⟩, _⟩ := hpre
  refine (walk (w.forCall tape i) w.heap.size i.args ds gs before hval (DataW.Whole.of_heap (w' := w.forCall tape i) (by rfl) hw) (hX _ _ _ (by rfl) hx) hsh).mono ?_
  rintro e W' ⟨v, rfl, hp⟩
  exact ChangeSpec.post_blind hp
end Go.Proofs.YthklhfcjglimiaaDoor.OnRd
end
