/- Strings and bytes; division; the walk's steps for these. -/
import Derived.Test.YtocjgmdfocaamaaGreatSRecsTellS
set_option linter.unusedVariables false
set_option linter.unusedSimpArgs false
namespace Go.Sy
def encU8 (b : UInt8) : V := .int .u8 (b.toNat : Int)
def u8Of (x : Int) : UInt8 := UInt8.ofNat (x % 256).toNat
theorem sayByte (x : Int) : V.int .u8 (IntKind.u8.wrap x) = encU8 (u8Of x) := by
  unfold encU8 u8Of
  congr 1
  have h1 : (x % 256).toNat < 256 := by omega
  rw [UInt8.toNat_ofNat_of_lt' h1]
  have h2 : IntKind.u8.wrap x = x % 256 := by simp [IntKind.wrap, IntKind.signed, IntKind.bits]
  rw [h2]
  omega
theorem sayRem {a b : Int} (h : 0 ≤ a) : V.int .i64 (a.tmod b) = V.int .i64 (a % b) := by rw [Int.tmod_eq_emod_of_nonneg h]
theorem sayQuo {a b : Int} (h : 0 ≤ a) (h1 : a ≤ 9223372036854775807) (hb : 0 < b) : V.int .i64 (IntKind.i64.wrap (a.tdiv b)) = V.int .i64 (a / b) := by
  rw [Int.tdiv_eq_ediv_of_nonneg h]
  have h2 : 0 ≤ a / b := Int.ediv_nonneg h (by omega)
  have h3 : a / b ≤ a := Int.ediv_le_self b h
  rw [IntKind.wrap_i64]
  congr 1
  omega
def strOf (l : List UInt8) : ByteArray := ⟨l.toArray⟩
theorem allP_encU8 (l : List UInt8) : AllP (l.map encU8) := by
  intro x hx
  obtain ⟨y, _, rfl⟩ := List.mem_map.1 hx
  rfl
section
variable {P : Program} {N : Cx} {ops : Array Oper}
theorem u8_of {w : World} {I J M} {v : Value} {b : UInt8} (h : RepN w I J M v (encU8 b)) : v = .int .u8 (b.toNat : Int) := by
  have := h.1
  cases this
  rfl
theorem ok_b2s {o : Oper} {x : Operand} {s t e d : Nat} {σ : Sg} {T : V} (l : List UInt8) {kill : List Nat} (hs : P.underlying s = some (.slice e)) (he : P.underlying e = some (.int .u8)) (ht : P.underlying t = some .string) (ho : o.op = .convert s t x) (hd : o.dst = some d) (hn : d < N.n)
    (hx : σ.ev x = T) (hf : SecondIs σ.ob T e 1 (l.map encU8) kill) : CoreOk P N o (opw x T ++ obW σ.ob (obK T)) [.t d (.str (strOf l))] :=
  val_ok hd hn fun G w σ' a H hev hp => by
    obtain ⟨hp1, hp2⟩ := has_append.1 hp
    have h1 := hev x
    rw [opw_ev hx hp1] at h1
    obtain ⟨M, ⟨A, c, news, b1, b2, b3, b4, b5, b6, b7, b8⟩, _⟩ := second_src H (hf.congr (obW_has hp2)) h1
    refine ⟨.string (strOf l), ?_, .g (.str _)⟩
    rw [List.length_map] at b1 b2
    cases A with
    | none =>
      have hl : l = [] := by
        have := b3 rfl
        simpa using this
      subst hl
      simp only [execOp, ho, b1, Sem.run_bind, run_convert_bytes_string w s t e _ _ c hs he ht, Conv.bytesToString, Sem.run_pure, Result.andThen_ok]
      rfl
    | some ad =>
      have := run_convert_bytes_back (P := P) w s t e ad c l hs he ht (fun j hj => by
        have hj2 : j < news.length := by omega
        rw [b4 ad rfl j _ (List.getElem?_eq_getElem hj2)]
        have h2 : (l.map encU8)[j]? = some (encU8 l[j]) := by rw [List.getElem?_map, List.getElem?_eq_getElem hj]; rfl
        have h3 := b8 j _ h2 0 (encU8 l[j]) rfl
        have h4 := u8_of h3
        rw [Nat.mul_one, Nat.add_zero, List.getD_eq_getElem?_getD, List.getElem?_eq_getElem hj2] at h4
        simpa using h4)
      simp only [execOp, ho, b1, Sem.run_bind, this, Sem.run_pure, Result.andThen_ok]
      rfl
end
section
variable {P : Program} {N : Cx} {ops : Array Oper} {K : List Tr → Sg → Prop} {k : Nat} {σ : Sg}
theorem At.b2s {s t e d : Nat} {x : Operand} {T : V} (l : List UInt8) (kill : List Nat) (hg : goes ops σ k = true) (ho : opd (opAt ops k) = (.convert s t x, some d)) (ht : (P.underlying s, P.underlying e, P.underlying t, Nat.blt d N.n) = (some (.slice e), some (.int .u8), some .string, true)) (hv : σ.ev x = T) (hf : SecondIs σ.ob T e 1 (l.map encU8) kill)
    (r : At P N ops (k + 1) (σ.puts [.t d (.str (strOf l))]) (fun t s => K (⟨(gpOf ops σ (opAt ops k)).getD [] ++ (opw x T ++ obW σ.ob (obK T)), [.t d (.str (strOf l))]⟩ :: t) s)) : At P N ops k σ K := by
  simp only [Prod.mk.injEq] at ht
  exact At.step2 hg ⟨ok_b2s l ht.1 ht.2.1 ht.2.2.1 (opd1 ho) (opd2 ho) (by simpa using ht.2.2.2) hv hf, has2 (opw_has hv) (obW_self σ _)⟩ r
theorem At.div {t u d : Nat} {op : BinOp} {x y : Operand} {kd : IntKind} {a b : Int} (hg : goes ops σ k = true) (ho : opd (opAt ops k) = (.binOp op t x y u, some d)) (hn : Nat.blt d N.n = true) (hv : [σ.ev x, σ.ev y] = [.int kd a, .int kd b]) (hb : b ≠ 0) (v : V) (hop : (op = .quo ∧ v = .int kd (kd.wrap (a.tdiv b))) ∨ (op = .rem ∧ v = .int kd (a.tmod b)))
    (r : At P N ops (k + 1) (σ.puts [.t d v]) (fun t s => K (⟨(gpOf ops σ (opAt ops k)).getD [] ++ (opw x (.int kd a) ++ opw y (.int kd b)), [.t d v]⟩ :: t) s)) : At P N ops k σ K := by
  simp only [List.cons.injEq, and_true] at hv
  rcases hop with ⟨rfl, rfl⟩ | ⟨rfl, rfl⟩
  · exact At.step2 hg ⟨ok_div (opd1 ho) (opd2 ho) (by simpa using hn) hv.1 hv.2 rfl hb (.inl rfl), has2 (opw_has hv.1) (opw_has hv.2)⟩ r
  · exact At.step2 hg ⟨ok_div (opd1 ho) (opd2 ho) (by simpa using hn) hv.1 hv.2 rfl hb (.inr rfl), has2 (opw_has hv.1) (opw_has hv.2)⟩ r
theorem At.conv {s t d : Nat} {x : Operand} {kd kd' : IntKind} {a : Int} (v : V) (hg : goes ops σ k = true) (ho : opd (opAt ops k) = (.convert s t x, some d)) (ht : ((P.underlying s).isSome, P.underlying t, Nat.blt d N.n) = (true, some (.int kd'), true)) (hv : σ.ev x = .int kd a) (hw : V.int kd' (kd'.wrap a) = v)
    (r : At P N ops (k + 1) (σ.puts [.t d v]) (fun t s => K (⟨(gpOf ops σ (opAt ops k)).getD [] ++ opw x (.int kd a), [.t d v]⟩ :: t) s)) : At P N ops k σ K := by
  subst hw
  simp only [Prod.mk.injEq] at ht
  exact At.step2 hg ⟨ok_conv ht.1 ht.2.1 (opd1 ho) (opd2 ho) (by simpa using ht.2.2) hv, opw_has hv⟩ r
theorem At.cat {t u d : Nat} {x y : Operand} {a b : ByteArray} (hg : goes ops σ k = true) (ho : opd (opAt ops k) = (.binOp .add t x y u, some d)) (hn : Nat.blt d N.n = true) (hv : [σ.ev x, σ.ev y] = [.str a, .str b]) (hl : a.size + b.size ≤ 9223372036854775807)
    (r : At P N ops (k + 1) (σ.puts [.t d (.str (a ++ b))]) (fun t s => K (⟨(gpOf ops σ (opAt ops k)).getD [] ++ (opw x (.str a) ++ opw y (.str b)), [.t d (.str (a ++ b))]⟩ :: t) s)) : At P N ops k σ K := by
  simp only [List.cons.injEq, and_true] at hv
  exact At.step2 hg ⟨ok_cat (opd1 ho) (opd2 ho) (by simpa using hn) hv.1 hv.2 hl, has2 (opw_has hv.1) (opw_has hv.2)⟩ r
theorem At.idxStr {t d : Nat} {x y : Operand} {s : ByteArray} {kd : IntKind} {i : Int} (c : UInt8) (hg : goes ops σ k = true) (ho : opd (opAt ops k) = (.index t x y, some d)) (ht : (P.underlying t, Nat.blt d N.n) = (some .string, true)) (hv : [σ.ev x, σ.ev y] = [.str s, .int kd i]) (h0 : 0 ≤ i) (hc : s.data[i.toNat]? = some c)
    (r : At P N ops (k + 1) (σ.puts [.t d (.int .u8 (c.toNat : Int))]) (fun t s' => K (⟨(gpOf ops σ (opAt ops k)).getD [] ++ (opw x (.str s) ++ opw y (.int kd i)), [.t d (.int .u8 (c.toNat : Int))]⟩ :: t) s')) : At P N ops k σ K := by
  simp only [List.cons.injEq, and_true] at hv
  simp only [Prod.mk.injEq] at ht
  have h1 : i.toNat < s.size := (Array.getElem?_eq_some_iff.1 hc).1
  have h2 : s[i.toNat] = c := (Array.getElem?_eq_some_iff.1 hc).2
  subst h2
  exact At.step2 hg ⟨ok_indexStr (opd1 ho) (opd2 ho) (by simpa using ht.2) ht.1 hv.1 hv.2 h0 h1, has2 (opw_has hv.1) (opw_has hv.2)⟩ r
theorem At.out {t d i e es j off e' es' : Nat} {x : Operand} {xs xs' ys : List V} (q : Nat) (y y' : V) (hg : goes ops σ k = true) (ho : opd (opAt ops k) = (.load t x, some d)) (ht : ldT P t N.n d = some (false, 1)) (hx : σ.ev x = .ptr i j off) (hob : (σ.ob i, σ.ob q) = (.arr e es xs, .free)) (hy : xs[j]? = some y) (hc : ((cl y)[off]?, putEl es off [.un] y) = (some (.own e' es' ys), some y')) (hik : i ≠ q) (hxs : xs.set j y' = xs')
    (r : At P N ops (k + 1) (σ.puts ([.o i (.hole e es xs' j off q), .o q (.arr e' es' ys)] ++ [.t d (.ref q)])) (fun t s => K (⟨(gpOf ops σ (opAt ops k)).getD [] ++ (opw x (.ptr i j off) ++ [.o i (.arr e es xs), .o q .free]), [.o i (.hole e es xs' j off q), .o q (.arr e' es' ys)] ++ [.t d (.ref q)]⟩ :: t) s)) : At P N ops k σ K := by
  subst hxs
  simp only [Prod.mk.injEq] at hob hc
  obtain ⟨a1, a2, a3⟩ := ldT_of ht
  exact At.step2 hg ⟨ok_open (opd1 ho) (opd2 ho) a3 hx hob.1 hy hc.1 a1 hc.2 hik, has2 (opw_has hx) ⟨hob.1, hob.2, trivial⟩⟩ r
end
end Go.Sy

