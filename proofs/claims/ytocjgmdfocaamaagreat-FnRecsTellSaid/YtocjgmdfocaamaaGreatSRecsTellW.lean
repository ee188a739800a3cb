/- The rules of single operations, part 8: bits, shifts, copy. -/
import Derived.Test.YtocjgmdfocaamaaGreatSRecsTellU
set_option linter.unusedVariables false
set_option linter.unusedSimpArgs false
namespace Go.Sy
section
variable {P : Program} {N : Cx} {ops : Array Oper}
def bitI (op : BinOp) (k : IntKind) (a b : Int) : Option Int :=
  match op with
  | .and => some (k.wrap (BitVec.ofInt k.bits a &&& BitVec.ofInt k.bits b).toNat)
  | .or => some (k.wrap (BitVec.ofInt k.bits a ||| BitVec.ofInt k.bits b).toNat)
  | .xor => some (k.wrap (BitVec.ofInt k.bits a ^^^ BitVec.ofInt k.bits b).toNat)
  | .andNot => some (k.wrap (BitVec.ofInt k.bits a &&& ~~~BitVec.ofInt k.bits b).toNat)
  | _ => none
theorem ok_bits {o : Oper} {op : BinOp} {x y : Operand} {t u : TypeId} {d : Nat} {σ : Sg} {k k' : IntKind} {a b r : Int} (ho : o.op = .binOp op t x y u) (hd : o.dst = some d) (hn : d < N.n)
    (hx : σ.ev x = .int k a) (hy : σ.ev y = .int k' b) (hk : k = k') (hv : bitI op k a b = some r) : CoreOk P N o (opw x (.int k a) ++ opw y (.int k' b)) [.t d (.int k r)] :=
  val_ok hd hn fun G w σ' ac H he hp => by
    subst hk
    obtain ⟨hp1, hp2⟩ := has_append.1 hp
    have h1 := he x
    rw [opw_ev hx hp1] at h1
    have h2 := he y
    rw [opw_ev hy hp2] at h2
    have e1 := Rep.inv_int h1
    have e2 := Rep.inv_int h2
    refine ⟨.int k r, ?_, .g (.int _ _)⟩
    cases op <;> simp only [bitI, Option.some.injEq, reduceCtorEq] at hv <;> subst hv
    all_goals simp [execOp, ho, e1, e2, eqGuard, binOp, Op.intBits]
def shI (op : BinOp) (k : IntKind) (a b : Int) : Option Int :=
  match op with
  | .shl => some (k.wrap (a * 2 ^ min b.toNat k.bits))
  | .shr => some (a / 2 ^ min b.toNat k.bits)
  | _ => none
theorem ok_shift {o : Oper} {op : BinOp} {x y : Operand} {t u : TypeId} {d : Nat} {σ : Sg} {k k' : IntKind} {a b r : Int} (ho : o.op = .binOp op t x y u) (hd : o.dst = some d) (hn : d < N.n)
    (hx : σ.ev x = .int k a) (hy : σ.ev y = .int k' b) (hb : 0 ≤ b) (hv : shI op k a b = some r) : CoreOk P N o (opw x (.int k a) ++ opw y (.int k' b)) [.t d (.int k r)] :=
  val_ok hd hn fun G w σ' ac H he hp => by
    obtain ⟨hp1, hp2⟩ := has_append.1 hp
    have h1 := he x
    rw [opw_ev hx hp1] at h1
    have h2 := he y
    rw [opw_ev hy hp2] at h2
    have e1 := Rep.inv_int h1
    have e2 := Rep.inv_int h2
    refine ⟨.int k r, ?_, .g (.int _ _)⟩
    have hp : (0 : Int) ≤ 2 ^ min b.toNat k.bits := Int.le_of_lt (Int.pow_pos (by decide))
    cases op <;> simp only [shI, Option.some.injEq, reduceCtorEq] at hv <;> subst hv
    all_goals simp [execOp, ho, e1, e2, eqGuard, binOp, Op.shift, Int.not_lt.mpr hb, Int.fdiv_eq_ediv_of_nonneg _ hp]
theorem splice_get {α : Type} {xs ys : List α} {off n : Nat} (h : off + n ≤ xs.length) (hn : n ≤ ys.length) (k : Nat) :
    (xs.take off ++ ys.take n ++ xs.drop (off + n))[k]? = if k < off then xs[k]? else if k < off + n then ys[k - off]? else xs[k]? := by
  simp only [List.append_assoc, List.getElem?_append, List.length_take, List.getElem?_take, List.getElem?_drop, Nat.min_eq_left (show off ≤ xs.length by omega), Nat.min_eq_left hn]
  by_cases h1 : k < off
  · simp [h1]
  · by_cases h2 : k < off + n
    · simp [h1, h2, show k - off < n by omega]
    · simp [h1, h2, show ¬ k - off < n by omega, show off + n + (k - off - n) = k by omega]
theorem run_copy {t t2 ty e es : Nat} (hu : P.underlying t = some (.slice e)) (hi : szOf P e = some es) {w w' : World} {A A2 : Option Addr} {m c l c2 n : Nat} {cells : Array Value} (hmin : Nat.min l m = n)
    (hf : (Builtin.firstCells es n (.slice A2 l c2)).run P w = .ok cells w) (hst : (match A with
      | some a => storeCells a cells.toList
      | none => pure ()).run P w = .ok () w') : (Builtin.copy_ #[t, t2] ty #[.slice A m c, .slice A2 l c2]).run P w = .ok (goInt n) w' := by
  subst hmin
  have hz := run_sz hi
  cases A with
  | none =>
    simp only [Sem.run_pure, Result.ok.injEq, true_and] at hst
    subst hst
    simp [Builtin.copy_, run_underlying hu, Builtin.lenOf, hz, hf]
  | some a =>
    simp only at hst
    simp [Builtin.copy_, run_underlying hu, Builtin.lenOf, hz, hf, hst]
theorem ok_copy {o : Oper} {x y : Operand} {t t2 e es d i off m n : Nat} {σ : Sg} {S T : V} {xs ys zs : List V} (ho : o.op = .call { callee := .builtin .copy, args := #[x, y], argTypes := #[t, t2] }) (hd : o.dst = some d) (hn : d < N.n)
    (hu : P.underlying t = some (.slice e)) (hi : szOf P e = some es) (hx : σ.ev x = S) (hy : σ.ev y = T) (hS : (S = .ref i ∧ off = 0 ∧ m = xs.length) ∨ S = .sub i off m) (hob : σ.ob i = .arr e es xs)
    (hg : SecondIs σ.ob T e es ys []) (hp : AllP xs) (hm : n = min ys.length m) (hz : xs.take off ++ ys.take n ++ xs.drop (off + n) = zs) :
    CoreOk P N o (opw x S ++ opw y T ++ [.o i (.arr e es xs)] ++ obW σ.ob (obK T)) ([.o i (.arr e es zs)] ++ [.t d (.int .i64 (n : Int))]) :=
  eff_ok hd hn (fun z hz => by simp at hz; exact ⟨_, _, hz⟩) fun G w σ' a H _ he hpre => by
    subst hz
    obtain ⟨hpre, hp4⟩ := has_append.1 hpre
    obtain ⟨hpre, hp3⟩ := has_append.1 hpre
    obtain ⟨hp1, hp2⟩ := has_append.1 hpre
    have h1 := he x
    rw [opw_ev hx hp1] at h1
    have h2 := he y
    rw [opw_ev hy hp2] at h2
    have hob' : σ'.ob i = .arr e es xs := hp3.1
    have hyp : AllP ys := by
      have hg' := hg
      cases T <;> simp only [SecondIs] at hg'
      · rw [hg'.1]; intro x hx; cases hx
      · exact hg'.2.2.1
      · rcases hg'.2 with h | h
        · exact h.2
        · cases h
      · obtain ⟨_, _, _, _, h, _⟩ := hg'; exact h
    obtain ⟨M2, b1, b2, b3, b4⟩ := second_src H (hg.congr (obW_has hp4)) h2
    obtain ⟨A2, c2, news, s1, s2, s3, s4, s5, s6, s7, s8⟩ := src_plain b1 hyp
    -- the destination's value
    have hdst : ∃ r, G.ρ i = some r ∧ r.es = es ∧ off + m ≤ xs.length ∧ ∃ A c, a.eval x = .slice A m c ∧ (0 < m → A = r.g.map fun g => ⟨g, off * es, none⟩) := by
      rcases hS with ⟨rfl, rfl, rfl⟩ | rfl
      · obtain ⟨r, q1, q2⟩ := Rep.inv_ref h1
        obtain ⟨r', f1, f2, f3, f4⟩ := arr_of H hob'
        rw [q1] at f1
        obtain rfl := Option.some.inj f1
        refine ⟨r, q1, f2, by omega, ?_⟩
        unfold RI.sl at q2
        cases hg' : r.g with
        | none =>
          rw [hg'] at q2
          rcases f4 with ⟨_, rfl, _⟩ | ⟨g, _, _, h, _⟩
          · exact ⟨none, 0, q2.1, fun _ => rfl⟩
          · rw [hg'] at h; cases h
        | some g =>
          rw [hg'] at q2
          simp only at q2
          exact ⟨_, _, by rw [q2, f3], fun _ => by simp⟩
      · obtain ⟨r, q1, q2, q3, q4, A, q5, q6⟩ := sub_ref H hob' h1
        exact ⟨r, q1, q2, q4, A, _, q5, fun h => q6 (.inl h)⟩
    obtain ⟨r, q1, q2, q3, A, c, q5, q6⟩ := hdst
    have hn1 : n ≤ ys.length := by omega
    have hn2 : n ≤ m := by omega
    have hle : n * es ≤ news.length := by rw [s2]; exact Nat.mul_le_mul_right es hn1
    have hlen' : (xs.take off ++ ys.take n ++ xs.drop (off + n)).length = xs.length := by simp; omega
    have hgl : (news.take (n * es)).length = n * es := by rw [List.length_take]; omega
    have hld : ∀ ad, A2 = some ad → (loadCells ad (n * es)).run P w = .ok (news.take (n * es)).toArray w := by
      intro ad h
      have := run_loadCells_list (P := P) (w := w) ad (news.take (n * es)) (fun j v hv => by
        rw [List.getElem?_take] at hv
        split at hv
        · exact s4 ad h j v hv
        · cases hv)
      rwa [hgl] at this
    have hfirst : (Builtin.firstCells es n (.slice A2 ys.length c2)).run P w = .ok (news.take (n * es)).toArray w := by
      cases hA : A2 with
      | none =>
        have h0 := s3 hA
        subst h0
        obtain rfl : n = 0 := by simpa using hn1
        simp [Builtin.firstCells]
      | some ad => exact hld ad hA
    have hmin : Nat.min ys.length m = n := hm.symm
    by_cases hn0 : n = 0
    · -- nothing goes over
      subst hn0
      refine ⟨.int .i64 0, w, G, ?_, ?_, Fr.refl _ _, .g (.int _ _)⟩
      · simp only [Nat.zero_mul, List.take_zero] at hfirst
        have := run_copy (t2 := t2) (ty := o.type) (A := A) (c := c) (w' := w) hu hi hmin hfirst (by cases A <;> simp [storeCells])
        rw [← q5, ← s1] at this
        simp only [execOp, ho, resolve, invoke, builtin, List.map_toArray, List.map_cons, List.map_nil, Sem.run_bind, Sem.run_pure, Result.andThen_ok, this]
        rfl
      · have e0 : (xs.take off ++ ys.take 0 ++ xs.drop (off + 0)) = xs := by simp
        rw [e0]
        have : (σ'.puts [W.o i (Ob.arr e es xs)]).ob = σ'.ob := by
          funext l
          simp only [Sg.puts, Sg.put]
          split
          · rename_i h; rw [h, hob']
          · rfl
        rw [this]
        exact H
    · have hm0 : 0 < m := by omega
      obtain ⟨r', f1, f2, f3, f4⟩ := arr_of H hob'
      rw [q1] at f1
      obtain rfl := Option.some.inj f1
      rcases f4 with ⟨_, rfl, _⟩ | ⟨g, cur, M, f4, f5⟩
      · simp at q3; omega
      have q6 := q6 hm0
      rw [f4] at q6
      simp only [Option.map_some] at q6
      subst q6
      have hle1 : (off + n) * es ≤ xs.length * es := Nat.mul_le_mul_right _ (by omega)
      have hle2 := Nat.mul_le_mul_right es f5.le
      rw [Nat.add_mul] at hle1
      have hcs := f5.size
      have hone : ∀ u ∈ news.take (n * es), u.oneCell' = true := fun u hu => s5 u (List.mem_of_mem_take hu)
      have hst := run_storeCells_at P g (off * es) e (news.take (n * es)) 0 cur w f5.heap (by rw [hgl]; omega) hone
      have hgd := fun j => getD_splice (off := off * es) (vs := news.take (n * es)) (cur := cur) (by rw [hgl]; omega) j
      rw [hgl] at hgd
      rw [Nat.add_zero, hgl] at hst
      generalize hcur' : (cur.toList.take (off * es) ++ news.take (n * es) ++ cur.toList.drop (off * es + n * es)).toArray = cur' at hst hgd
      have hsz' : cur'.size = cur.size := by rw [← hcur']; simp [hgl]; omega
      have hM : ∀ k j b, ¬ M k j b := by
        intro k j b hb
        obtain ⟨x1, y1, hx1, hy1⟩ := f5.nb k j b hb
        have hgv := (List.all_eq_true.1 (hp x1 (List.mem_of_getElem? hx1))) y1 (List.mem_of_getElem? hy1)
        exact (RepN.plain (f5.rep k x1 hx1 j y1 hy1) (plain_of_gV hgv)).2 b hb
      have hget := fun k => splice_get (xs := xs) (ys := ys) (off := off) (n := n) (by omega) hn1 k
      generalize hzs : xs.take off ++ ys.take n ++ xs.drop (off + n) = zs at hget hlen'
      refine ⟨.int .i64 n, w.setRow g cur', G, ?_, ?_⟩
      · have := run_copy (t2 := t2) (ty := o.type) (A := some ⟨g, off * es, none⟩) (c := c) hu hi hmin hfirst hst
        rw [← q5, ← s1] at this
        simp only [execOp, ho, resolve, invoke, builtin, List.map_toArray, List.map_cons, List.map_nil, Sem.run_bind, Sem.run_pure, Result.andThen_ok, this]
        rfl
      refine (fun (h : Hold G (w.setRow g cur') (σ'.puts [W.o i (Ob.arr e es zs)]).ob ∧ Fr G w G (w.setRow g cur')) => ⟨h.1, h.2, .g (.int _ _)⟩) (Hold.step H rfl rfl rfl rfl rfl (by simp) (fun _ _ h => h) (fun l => l = i) (fun l (hl : ¬ l = i) => ⟨by simp [Sg.puts, Sg.put, hl], rfl, rfl⟩) (fun b hb hf => setRow_other w g b cur' (fun e => hf i rfl ((f5.fo b).2 (.inl e)))) (fun LG L l hl => ?_) (fun l b hl h => .inl ⟨l, hl, h⟩) (fun l b hl h => by simpa using H.flt l b h) (fun l l' b hl hl' _ _ => by rw [hl, hl']))
      subst hl
      have hob2 : (σ'.puts [W.o l (Ob.arr e es zs)]).ob l = .arr e es zs := by simp [Sg.puts, Sg.put]
      rw [hob2, q1]
      refine ⟨r, rfl, f2, by rw [f3, hlen'], .inr ⟨g, cur', M, f4, ?_⟩⟩
      have hidx : ∀ k j, j < es → (k * es + j < off * es ↔ k < off) ∧ (k * es + j < off * es + n * es ↔ k < off + n) := by
        intro k j hj
        refine ⟨⟨fun h => ?_, fun h => ?_⟩, fun h => ?_, fun h => ?_⟩
        · exact Nat.lt_of_mul_lt_mul_right (a := es) (by omega)
        · have : (k + 1) * es ≤ off * es := Nat.mul_le_mul_right _ (by omega)
          rw [Nat.add_mul] at this; omega
        · rw [← Nat.add_mul] at h
          exact Nat.lt_of_mul_lt_mul_right (a := es) (by omega)
        · have : (k + 1) * es ≤ (off + n) * es := Nat.mul_le_mul_right _ (by omega)
          rw [Nat.add_mul, Nat.add_mul off] at this; omega
      have hz3 : ∀ k x', zs[k]? = some x' → (k < off ∨ off + n ≤ k) ∧ xs[k]? = some x' ∨ (off ≤ k ∧ k < off + n) ∧ ys[k - off]? = some x' := by
        intro k x' h
        rw [hget] at h
        split at h
        · exact .inl ⟨.inl ‹_›, h⟩
        · split at h
          · exact .inr ⟨⟨by omega, ‹_›⟩, h⟩
          · exact .inl ⟨.inr (by omega), h⟩
      have hnws : ∀ t, t < n * es → (news.take (n * es)).toArray.getD t undef = news.getD t undef := by
        intro t ht
        rw [Array.getD_eq_getD_getElem?, List.getElem?_toArray, List.getElem?_take, if_pos ht, List.getD_eq_getElem?_getD]
      refine ⟨setRow_heap w g cur cur' e (0, 0) f5.heap, by rw [hsz']; exact f5.size, by rw [hlen']; exact f5.le, f5.max, fun k x' hx' => ?_, fun j hj => ?_, fun x' hx' => ?_, fun k x' hx' j y' hy' => ?_, f5.fo, f5.ng, f5.nd, fun k j b h => (hM k j b h).elim⟩
      · rcases hz3 k x' hx' with ⟨_, h⟩ | ⟨_, h⟩
        · exact f5.hl k x' h
        · exact s6 _ x' h
      · rw [hlen'] at hj
        rw [hgd]
        split
        · exact f5.one j hj
        · split
          · rename_i hj1 hj2
            rw [hnws _ (by omega)]
            refine s5 _ ?_
            have hlt : j - off * es < news.length := by omega
            rw [List.getD_eq_getElem?_getD, List.getElem?_eq_getElem hlt]
            exact List.getElem_mem hlt
          · exact f5.one j hj
      · obtain ⟨k, hk⟩ := List.getElem?_of_mem hx'
        rcases hz3 k x' hk with ⟨_, h⟩ | ⟨_, h⟩
        · exact f5.gr x' (List.mem_of_getElem? h)
        · exact s7 x' (List.mem_of_getElem? h)
      · rcases hz3 k x' hx' with ⟨hk, h⟩ | ⟨hk, h⟩
        · have hj : j < es := by rw [← f5.hl k x' h]; exact (List.getElem?_eq_some_iff.1 hy').1
          obtain ⟨i1, i2⟩ := hidx k j hj
          have h5 := (f5.rep k x' h j y' hy').lift LG (fun b hb => (hM _ _ _ hb).elim)
          rw [hgd]
          by_cases h7 : k * es + j < off * es
          · rw [if_pos h7]; exact h5
          · rw [if_neg h7, if_neg (by rw [i2]; rw [i1] at h7; omega)]; exact h5
        · have hj : j < es := by rw [← s6 _ x' h]; exact (List.getElem?_eq_some_iff.1 hy').1
          obtain ⟨i1, i2⟩ := hidx k j hj
          have e1 : k * es = off * es + (k - off) * es := by rw [← Nat.add_mul]; congr 1; omega
          have e2 : (k - off) * es + j < n * es := idx_lt (show k - off < n by omega) (Nat.le_refl _) hj
          have h5 := (s8 _ x' h j y' hy').lift LG (fun b hb => hb.elim)
          rw [hgd, if_neg (by rw [i1]; omega), if_pos (by rw [i2]; omega), show k * es + j - off * es = (k - off) * es + j by omega, hnws _ e2]
          have : M k j = fun _ => False := by funext b; exact eq_false (hM k j b)
          rw [this]
          exact h5
end
theorem and32 {x : Int} (h0 : 0 ≤ x) (h1 : x ≤ 4294967295) : bitI .and .u64 x 4294967295 = some x := by
  obtain ⟨n, rfl⟩ := Int.eq_ofNat_of_zero_le h0
  have hn : n % 18446744073709551616 = n := by omega
  have e : (BitVec.ofInt 64 (n : Int) &&& BitVec.ofInt 64 4294967295).toNat = n := by
    rw [BitVec.toNat_and, show BitVec.ofInt 64 (n : Int) = BitVec.ofNat 64 n from rfl, BitVec.toNat_ofNat, show (BitVec.ofInt 64 4294967295).toNat = 2 ^ 32 - 1 by decide, Nat.and_two_pow_sub_one_eq_mod]
    omega
  have e2 : bitI .and .u64 (n : Int) 4294967295 = some (IntKind.u64.wrap ((BitVec.ofInt 64 (n : Int) &&& BitVec.ofInt 64 4294967295).toNat : Int)) := rfl
  rw [e2, e]
  simp [IntKind.wrap, IntKind.bits, IntKind.signed]
  omega
theorem shr32 {x : Int} (h0 : 0 ≤ x) (h1 : x ≤ 4294967295) : shI .shr .u64 x 32 = some 0 := by
  simp only [shI, Option.some.injEq]
  rw [show (2 : Int) ^ min (32 : Int).toNat IntKind.u64.bits = 4294967296 by decide]
  omega
theorem sayU (n : Int) (h : 0 ≤ n ∧ n ≤ 18446744073709551615) : V.int .u64 (IntKind.u64.wrap n) = V.int .u64 n := by
  simp [IntKind.wrap, IntKind.bits, IntKind.signed]
  omega
theorem sayAs {a b : Int} (e : a = b) (h : -9223372036854775808 ≤ b ∧ b ≤ 9223372036854775807) : V.int .i64 (IntKind.i64.wrap a) = V.int .i64 b := by
  rw [e]
  simp [IntKind.wrap, IntKind.bits, IntKind.signed]
  omega
theorem sayUs {a b : Int} (e : a = b) (h : 0 ≤ b ∧ b ≤ 18446744073709551615) : V.int .u64 (IntKind.u64.wrap a) = V.int .u64 b := by rw [e]; exact sayU b h
def repl (l : List Int) (n : Int) : List Int := List.replicate n.toNat (l.headD 0)
theorem repl_start {x : List Int} {n : Nat} (hx : x.length = 1) (hn : 1 ≤ n) : ((List.replicate n (0 : Int)).map encI).take 0 ++ (x.map encI).take 1 ++ ((List.replicate n (0 : Int)).map encI).drop (0 + 1) = (List.replicate 1 (x.headD 0) ++ List.replicate (n - 1) (0 : Int)).map encI := by
  obtain ⟨a, rfl⟩ := List.length_eq_one_iff.1 hx
  simp
theorem repl_step {a : Int} {k n : Nat} (hk : k ≤ n) : ((List.replicate k a ++ List.replicate (n - k) (0 : Int)).map encI).take k ++ ((((List.replicate k a ++ List.replicate (n - k) (0 : Int)).map encI).drop 0).take (k - 0)).take (min k (n - k)) ++ ((List.replicate k a ++ List.replicate (n - k) (0 : Int)).map encI).drop (k + min k (n - k)) = (List.replicate (k + min k (n - k)) a ++ List.replicate (n - (k + min k (n - k))) (0 : Int)).map encI := by
  have h : ∀ j, j ≤ k → (((List.replicate k a ++ List.replicate (n - k) (0 : Int)).map encI).drop 0).take (k - 0) = (List.replicate k a).map encI := by
    intro j _
    rw [List.drop_zero, Nat.sub_zero, ← List.map_take, List.take_left' (by simp)]
  rw [h 0 (by omega), ← List.map_take, ← List.map_take, ← List.map_drop, List.take_left' (by simp), List.take_replicate, ← List.map_append, ← List.map_append, Nat.min_eq_left (show min k (n - k) ≤ k by omega), List.replicate_append_replicate, List.drop_append, List.length_replicate, List.drop_replicate, List.drop_replicate, show k - (k + min k (n - k)) = 0 by omega, show n - k - (k + min k (n - k) - k) = n - (k + min k (n - k)) by omega]
  rfl
section
variable {P : Program} {N : Cx} {ops : Array Oper} {K : List Tr → Sg → Prop} {k : Nat} {σ : Sg}
theorem At.bits {t u d : Nat} {op : BinOp} {x y : Operand} {kd : IntKind} {a b : Int} (r' : Int) (hg : goes ops σ k = true) (ho : opd (opAt ops k) = (.binOp op t x y u, some d)) (hn : Nat.blt d N.n = true) (hv : [σ.ev x, σ.ev y] = [.int kd a, .int kd b]) (hr : bitI op kd a b = some r')
    (r : At P N ops (k + 1) (σ.puts [.t d (.int kd r')]) (fun t s => K (⟨(gpOf ops σ (opAt ops k)).getD [] ++ (opw x (.int kd a) ++ opw y (.int kd b)), [.t d (.int kd r')]⟩ :: t) s)) : At P N ops k σ K := by
  simp only [List.cons.injEq, and_true] at hv
  exact At.step2 hg ⟨ok_bits (opd1 ho) (opd2 ho) (by simpa using hn) hv.1 hv.2 rfl hr, has2 (opw_has hv.1) (opw_has hv.2)⟩ r
theorem At.shift {t u d : Nat} {op : BinOp} {x y : Operand} {kd kd' : IntKind} {a b : Int} (r' : Int) (hg : goes ops σ k = true) (ho : opd (opAt ops k) = (.binOp op t x y u, some d)) (hn : Nat.blt d N.n = true) (hv : [σ.ev x, σ.ev y] = [.int kd a, .int kd' b]) (hb : 0 ≤ b) (hr : shI op kd a b = some r')
    (r : At P N ops (k + 1) (σ.puts [.t d (.int kd r')]) (fun t s => K (⟨(gpOf ops σ (opAt ops k)).getD [] ++ (opw x (.int kd a) ++ opw y (.int kd' b)), [.t d (.int kd r')]⟩ :: t) s)) : At P N ops k σ K := by
  simp only [List.cons.injEq, and_true] at hv
  exact At.step2 hg ⟨ok_shift (opd1 ho) (opd2 ho) (by simpa using hn) hv.1 hv.2 hb hr, has2 (opw_has hv.1) (opw_has hv.2)⟩ r
theorem At.copy {t t2 d e es i off m : Nat} {x y : Operand} {S T : V} {xs ys : List V} (n : Nat) (zs : List V) (hg : goes ops σ k = true) (ho : opd (opAt ops k) = (.call { callee := .builtin .copy, args := #[x, y], argTypes := #[t, t2] }, some d)) (ht : (P.underlying t, szOf P e, Nat.blt d N.n) = (some (.slice e), some es, true))
    (hv : [σ.ev x, σ.ev y] = [S, T]) (hS : (S = .ref i ∧ off = 0 ∧ m = xs.length) ∨ S = .sub i off m) (hob : σ.ob i = .arr e es xs) (hs : SecondIs σ.ob T e es ys []) (hp : AllP xs) (hm : n = min ys.length m) (hz : xs.take off ++ ys.take n ++ xs.drop (off + n) = zs)
    (r : At P N ops (k + 1) (σ.puts ([.o i (.arr e es zs)] ++ [.t d (.int .i64 (n : Int))])) (fun t s' => K (⟨(gpOf ops σ (opAt ops k)).getD [] ++ (opw x S ++ opw y T ++ [.o i (.arr e es xs)] ++ obW σ.ob (obK T)), [.o i (.arr e es zs)] ++ [.t d (.int .i64 (n : Int))]⟩ :: t) s')) : At P N ops k σ K := by
  simp only [Prod.mk.injEq] at ht
  simp only [List.cons.injEq, and_true] at hv
  exact At.step2 hg ⟨ok_copy (opd1 ho) (opd2 ho) (by simpa using ht.2.2) ht.1 ht.2.1 hv.1 hv.2 hS hob hs hp hm hz, has2 (has2 (has2 (opw_has hv.1) (opw_has hv.2)) ⟨hob, trivial⟩) (obW_self σ _)⟩ r
end
end Go.Sy

