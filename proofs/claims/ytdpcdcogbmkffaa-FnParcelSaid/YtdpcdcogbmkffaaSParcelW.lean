/- The rules of single operations, part 8: bits, shifts, copy. -/
import Derived.Test.YtdpcdcogbmkffaaSParcelU
set_option linter.unusedVariables false
set_option linter.unusedSimpArgs false
namespace Go.Sy
section
variable {P : Program} {N : Cx} {ops : Array Oper}
def bitI (op : BinOp) (k : IntKind) (a b : Int) : Option Int :=
  match op with
  | .and => some (k.wrap (BitVec.ofInt k.bits a &&& BitVec.ofInt k.bits b).toNat)
  | .or => some (k.wrap (BitVec.ofInt k.bits a ||| BitVec.ofInt k.bits b).toNat)
  | .xor => some (k.wrap (BitVec.ofInt k.bits a ^^^ BitVec.ofInt k.bits b).toNat)
  | .andNot => some (k.wrap (BitVec.ofInt k.bits a &&& ~~~BitVec.ofInt k.bits b).toNat)
  | _ => none
theorem ok_bits {o : Oper} {op : BinOp} {x y : Operand} {t u : TypeId} {d : Nat} {σ : Sg} {k k' : IntKind} {a b r : Int} (ho : o.op = .binOp op t x y u) (hd : o.dst = some d) (hn : d < N.n)
    (hx : σ.ev x = .int k a) (hy : σ.ev y = .int k' b) (hk : k = k') (hv : bitI op k a b = some r) : CoreOk P N o (opw x (.int k a) ++ opw y (.int k' b)) [.t d (.int k r)] :=
  val_ok hd hn fun G w σ' ac H he hp => by
    subst hk
    obtain ⟨hp1, hp2⟩ := has_append.1 hp
    have h1 := he x
    rw [opw_ev hx hp1] at h1
    have h2 := he y
    rw [opw_ev hy hp2] at h2
    have e1 := Rep.inv_int h1
    have e2 := Rep.inv_int h2
    refine ⟨.int k r, ?_, .g (.int _ _)⟩
    cases op <;> simp only [bitI, Option.some.injEq, reduceCtorEq] at hv <;> subst hv
    all_goals simp [execOp, ho, e1, e2, eqGuard, binOp, Op.intBits]
def shI (op : BinOp) (k : IntKind) (a b : Int) : Option Int :=
  match op with
  | .shl => some (k.wrap (a * 2 ^ min b.toNat k.bits))
  | .shr => some (a / 2 ^ min b.toNat k.bits)
  | _ => none
theorem ok_shift {o : Oper} {op : BinOp} {x y : Operand} {t u : TypeId} {d : Nat} {σ : Sg} {k k' : IntKind} {a b r : Int} (ho : o.op = .binOp op t x y u) (hd : o.dst = some d) (hn : d < N.n)
    (hx : σ.ev x = .int k a) (hy : σ.ev y = .int k' b) (hb : 0 ≤ b) (hv : shI op k a b = some r) : CoreOk P N o (opw x (.int k a) ++ opw y (.int k' b)) [.t d (.int k r)] :=
  val_ok hd hn fun G w σ' ac H he hp => by
    obtain ⟨hp1, hp2⟩ := has_append.1 hp
    have h1 := he x
    rw [opw_ev hx hp1] at h1
    have h2 := he y
    rw [opw_ev hy hp2] at h2
    have e1 := Rep.inv_int h1
    have e2 := Rep.inv_int h2
    refine ⟨.int k r, ?_, .g (.int _ _)⟩
    have hp : (0 : Int) ≤ 2 ^ min b.toNat k.bits := Int.le_of_lt (Int.pow_pos (by decide))
    cases op <;> simp only [shI, Option.some.injEq, reduceCtorEq] at hv <;> subst hv
    all_goals simp [execOp, ho, e1, e2, eqGuard, binOp, Op.shift, Int.not_lt.mpr hb, Int.fdiv_eq_ediv_of_nonneg _ hp]
end
section
variable {P : Program} {N : Cx} {ops : Array Oper} {K : List Tr → Sg → Prop} {k : Nat} {σ : Sg}
theorem At.bits {t u d : Nat} {op : BinOp} {x y : Operand} {kd : IntKind} {a b : Int} (r' : Int) (hg : goes ops σ k = true) (ho : opd (opAt ops k) = (.binOp op t x y u, some d)) (hn : Nat.blt d N.n = true) (hv : [σ.ev x, σ.ev y] = [.int kd a, .int kd b]) (hr : bitI op kd a b = some r')
    (r : At P N ops (k + 1) (σ.puts [.t d (.int kd r')]) (fun t s => K (⟨(gpOf ops σ (opAt ops k)).getD [] ++ (opw x (.int kd a) ++ opw y (.int kd b)), [.t d (.int kd r')]⟩ :: t) s)) : At P N ops k σ K := by
  simp only [List.cons.injEq, and_true] at hv
  exact At.step2 hg ⟨ok_bits (opd1 ho) (opd2 ho) (by simpa using hn) hv.1 hv.2 rfl hr, has2 (opw_has hv.1) (opw_has hv.2)⟩ r
theorem At.shift {t u d : Nat} {op : BinOp} {x y : Operand} {kd kd' : IntKind} {a b : Int} (r' : Int) (hg : goes ops σ k = true) (ho : opd (opAt ops k) = (.binOp op t x y u, some d)) (hn : Nat.blt d N.n = true) (hv : [σ.ev x, σ.ev y] = [.int kd a, .int kd' b]) (hb : 0 ≤ b) (hr : shI op kd a b = some r')
    (r : At P N ops (k + 1) (σ.puts [.t d (.int kd r')]) (fun t s => K (⟨(gpOf ops σ (opAt ops k)).getD [] ++ (opw x (.int kd a) ++ opw y (.int kd' b)), [.t d (.int kd r')]⟩ :: t) s)) : At P N ops k σ K := by
  simp only [List.cons.injEq, and_true] at hv
  exact At.step2 hg ⟨ok_shift (opd1 ho) (opd2 ho) (by simpa using hn) hv.1 hv.2 hb hr, has2 (opw_has hv.1) (opw_has hv.2)⟩ r
end
end Go.Sy

