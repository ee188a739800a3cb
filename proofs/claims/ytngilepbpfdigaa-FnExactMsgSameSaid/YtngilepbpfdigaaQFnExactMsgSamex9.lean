-- Written by a program of this session (wip/opq/msgsame.py): the law's own function, walked with structs as arrays that a predicate tells of.
import Derived.Test.YtngilepbpfdigaaQFnExactMsgSamex0
import Derived.Test.YtngilepbpfdigaaQFnExactMsgSamex1
import Derived.Test.YtngilepbpfdigaaQFnExactMsgSamex2
import Derived.Test.YtngilepbpfdigaaQFnExactMsgSamex3
import Derived.Test.YtngilepbpfdigaaQFnExactMsgSamex4
import Derived.Test.YtngilepbpfdigaaQFnExactMsgSamex5
import Derived.Test.YtngilepbpfdigaaQFnExactMsgSamex6
import Derived.Test.YtngilepbpfdigaaQFnExactMsgSamex7
import Derived.Test.YtngilepbpfdigaaQFnExactMsgSamex8
namespace Go.Proofs.Ytngilepbpfdigaa.QFnExactMsgSame
open Go.RowKit Go.Proofs.YtngilepbpfdigaaW.PrintWords Go.Proofs.YtngilepbpfdigaaW.PrintLast Go.Proofs.YtngilepbpfdigaaW.PrintMore
set_option linter.unusedVariables false
set_option linter.unusedSimpArgs false
/-! ### laws_FnExactMsgSame: function 3 -/
def laws_FnExactMsgSame.f (k : Nat) (a0_0 : Int) (a0_1 : Int) (a0_2 : Int) (a0_3 : Int) (a0_4 : Int) (a0_5 : Int) (a0_6 : Bool) (a0_7 : Int) (a0_8 : Int) (a0_9 : ByteArray) (a0_10 : Int) (a0_11 : Int) (a0_12 : Int) (a0_13 : Int) (a0_14 : ByteArray) (l0_15 : List (S53)) (a1_0 : Int) (a1_1 : Int) (a1_2 : Int) (a1_3 : Int) (a1_4 : Int) (a1_5 : Int) (a1_6 : Bool) (a1_7 : Int) (a1_8 : Int) (a1_9 : ByteArray) (a1_10 : Int) (a1_11 : Int) (a1_12 : Int) (a1_13 : Int) (a1_14 : ByteArray) (l1_15 : List (S53)) : Option (Bool) := (laws_szMsg.f k a0_0 a0_1 a0_2 a0_3 a0_4 a0_5 a0_6 a0_7 a0_8 a0_9 a0_10 a0_11 a0_12 a0_13 a0_14 l0_15 1048576).bind fun t165 => (if t165 < 0 then (some true) else ((laws_szMsg.f k a1_0 a1_1 a1_2 a1_3 a1_4 a1_5 a1_6 a1_7 a1_8 a1_9 a1_10 a1_11 a1_12 a1_13 a1_14 l1_15 t165).bind fun t166 => (if t166 < 0 then (some true) else ((laws_toMsg.f k a0_0 a0_1 a0_2 a0_3 a0_4 a0_5 a0_6 a0_7 a0_8 a0_9 a0_10 a0_11 a0_12 a0_13 a0_14 l0_15).bind fun bt167 => ((laws_toMsg.f k a1_0 a1_1 a1_2 a1_3 a1_4 a1_5 a1_6 a1_7 a1_8 a1_9 a1_10 a1_11 a1_12 a1_13 a1_14 l1_15).bind fun bt185 => ((spec_MsgSame.f k bt167.1 bt167.2.1 bt167.2.2.1 bt167.2.2.2.1 bt167.2.2.2.2.1 bt167.2.2.2.2.2.1 bt167.2.2.2.2.2.2.1 bt167.2.2.2.2.2.2.2.1 bt167.2.2.2.2.2.2.2.2.1 bt167.2.2.2.2.2.2.2.2.2.1 bt167.2.2.2.2.2.2.2.2.2.2.1 bt167.2.2.2.2.2.2.2.2.2.2.2.1 bt167.2.2.2.2.2.2.2.2.2.2.2.2.1 bt167.2.2.2.2.2.2.2.2.2.2.2.2.2.1 bt167.2.2.2.2.2.2.2.2.2.2.2.2.2.2.1 bt167.2.2.2.2.2.2.2.2.2.2.2.2.2.2.2 bt185.1 bt185.2.1 bt185.2.2.1 bt185.2.2.2.1 bt185.2.2.2.2.1 bt185.2.2.2.2.2.1 bt185.2.2.2.2.2.2.1 bt185.2.2.2.2.2.2.2.1 bt185.2.2.2.2.2.2.2.2.1 bt185.2.2.2.2.2.2.2.2.2.1 bt185.2.2.2.2.2.2.2.2.2.2.1 bt185.2.2.2.2.2.2.2.2.2.2.2.1 bt185.2.2.2.2.2.2.2.2.2.2.2.2.1 bt185.2.2.2.2.2.2.2.2.2.2.2.2.2.1 bt185.2.2.2.2.2.2.2.2.2.2.2.2.2.2.1 bt185.2.2.2.2.2.2.2.2.2.2.2.2.2.2.2).bind fun t203 => ((laws_toMsg.f k a0_0 a0_1 a0_2 a0_3 a0_4 a0_5 a0_6 a0_7 a0_8 a0_9 a0_10 a0_11 a0_12 a0_13 a0_14 l0_15).bind fun bt204 => ((laws_toMsg.f k a1_0 a1_1 a1_2 a1_3 a1_4 a1_5 a1_6 a1_7 a1_8 a1_9 a1_10 a1_11 a1_12 a1_13 a1_14 l1_15).bind fun bt223 => ((impl_MsgSame.f k bt204.1 bt204.2.1 bt204.2.2.1 bt204.2.2.2.1 bt204.2.2.2.2.1 bt204.2.2.2.2.2.1 bt204.2.2.2.2.2.2.1 bt204.2.2.2.2.2.2.2.1 bt204.2.2.2.2.2.2.2.2.1 bt204.2.2.2.2.2.2.2.2.2.1 bt204.2.2.2.2.2.2.2.2.2.2.1 bt204.2.2.2.2.2.2.2.2.2.2.2.1 bt204.2.2.2.2.2.2.2.2.2.2.2.2.1 bt204.2.2.2.2.2.2.2.2.2.2.2.2.2.1 bt204.2.2.2.2.2.2.2.2.2.2.2.2.2.2.1 bt204.2.2.2.2.2.2.2.2.2.2.2.2.2.2.2 bt223.1 bt223.2.1 bt223.2.2.1 bt223.2.2.2.1 bt223.2.2.2.2.1 bt223.2.2.2.2.2.1 bt223.2.2.2.2.2.2.1 bt223.2.2.2.2.2.2.2.1 bt223.2.2.2.2.2.2.2.2.1 bt223.2.2.2.2.2.2.2.2.2.1 bt223.2.2.2.2.2.2.2.2.2.2.1 bt223.2.2.2.2.2.2.2.2.2.2.2.1 bt223.2.2.2.2.2.2.2.2.2.2.2.2.1 bt223.2.2.2.2.2.2.2.2.2.2.2.2.2.1 bt223.2.2.2.2.2.2.2.2.2.2.2.2.2.2.1 bt223.2.2.2.2.2.2.2.2.2.2.2.2.2.2.2).bind fun t242 => (if (t242 != t203) = true then (some false) else ((laws_toMsg.f k a0_0 a0_1 a0_2 a0_3 a0_4 a0_5 a0_6 a0_7 a0_8 a0_9 a0_10 a0_11 a0_12 a0_13 a0_14 l0_15).bind fun bt243 => ((laws_eqMsg.f k bt204.1 bt204.2.1 bt204.2.2.1 bt204.2.2.2.1 bt204.2.2.2.2.1 bt204.2.2.2.2.2.1 bt204.2.2.2.2.2.2.1 bt204.2.2.2.2.2.2.2.1 bt204.2.2.2.2.2.2.2.2.1 bt204.2.2.2.2.2.2.2.2.2.1 bt204.2.2.2.2.2.2.2.2.2.2.1 bt204.2.2.2.2.2.2.2.2.2.2.2.1 bt204.2.2.2.2.2.2.2.2.2.2.2.2.1 bt204.2.2.2.2.2.2.2.2.2.2.2.2.2.1 bt204.2.2.2.2.2.2.2.2.2.2.2.2.2.2.1 bt204.2.2.2.2.2.2.2.2.2.2.2.2.2.2.2 bt243.1 bt243.2.1 bt243.2.2.1 bt243.2.2.2.1 bt243.2.2.2.2.1 bt243.2.2.2.2.2.1 bt243.2.2.2.2.2.2.1 bt243.2.2.2.2.2.2.2.1 bt243.2.2.2.2.2.2.2.2.1 bt243.2.2.2.2.2.2.2.2.2.1 bt243.2.2.2.2.2.2.2.2.2.2.1 bt243.2.2.2.2.2.2.2.2.2.2.2.1 bt243.2.2.2.2.2.2.2.2.2.2.2.2.1 bt243.2.2.2.2.2.2.2.2.2.2.2.2.2.1 bt243.2.2.2.2.2.2.2.2.2.2.2.2.2.2.1 bt243.2.2.2.2.2.2.2.2.2.2.2.2.2.2.2).bind fun t261 => (if t261 = true then ((laws_toMsg.f k a1_0 a1_1 a1_2 a1_3 a1_4 a1_5 a1_6 a1_7 a1_8 a1_9 a1_10 a1_11 a1_12 a1_13 a1_14 l1_15).bind fun bt262 => ((laws_eqMsg.f k bt223.1 bt223.2.1 bt223.2.2.1 bt223.2.2.2.1 bt223.2.2.2.2.1 bt223.2.2.2.2.2.1 bt223.2.2.2.2.2.2.1 bt223.2.2.2.2.2.2.2.1 bt223.2.2.2.2.2.2.2.2.1 bt223.2.2.2.2.2.2.2.2.2.1 bt223.2.2.2.2.2.2.2.2.2.2.1 bt223.2.2.2.2.2.2.2.2.2.2.2.1 bt223.2.2.2.2.2.2.2.2.2.2.2.2.1 bt223.2.2.2.2.2.2.2.2.2.2.2.2.2.1 bt223.2.2.2.2.2.2.2.2.2.2.2.2.2.2.1 bt223.2.2.2.2.2.2.2.2.2.2.2.2.2.2.2 bt262.1 bt262.2.1 bt262.2.2.1 bt262.2.2.2.1 bt262.2.2.2.2.1 bt262.2.2.2.2.2.1 bt262.2.2.2.2.2.2.1 bt262.2.2.2.2.2.2.2.1 bt262.2.2.2.2.2.2.2.2.1 bt262.2.2.2.2.2.2.2.2.2.1 bt262.2.2.2.2.2.2.2.2.2.2.1 bt262.2.2.2.2.2.2.2.2.2.2.2.1 bt262.2.2.2.2.2.2.2.2.2.2.2.2.1 bt262.2.2.2.2.2.2.2.2.2.2.2.2.2.1 bt262.2.2.2.2.2.2.2.2.2.2.2.2.2.2.1 bt262.2.2.2.2.2.2.2.2.2.2.2.2.2.2.2).bind fun t280 => (if t280 = true then (some true) else (some false)))) else (some false))))))))))))))
abbrev X26 := Int × Int × Int × Int × Int × Int × Bool × Int × Int × ByteArray × Int × Int × Int × Int × ByteArray × List S53
/-- What the cells of a value of type 26 say, in world w. -/
def M26 (w : World) (x : X26) (cs : Array Value) : Prop := ∃ (A : Option Addr) (c : Nat), cs = #[.int .i64 x.1, .int .i64 x.2.1, .int .i64 x.2.2.1, .int .i64 x.2.2.2.1, .int .i64 x.2.2.2.2.1, .int .i64 x.2.2.2.2.2.1, .bool x.2.2.2.2.2.2.1, .int .i64 x.2.2.2.2.2.2.2.1, .int .i64 x.2.2.2.2.2.2.2.2.1, .string x.2.2.2.2.2.2.2.2.2.1, .int .i64 x.2.2.2.2.2.2.2.2.2.2.1, .int .i64 x.2.2.2.2.2.2.2.2.2.2.2.1, .int .i64 x.2.2.2.2.2.2.2.2.2.2.2.2.1, .int .i64 x.2.2.2.2.2.2.2.2.2.2.2.2.2.1, .string x.2.2.2.2.2.2.2.2.2.2.2.2.2.2.1, .slice A x.2.2.2.2.2.2.2.2.2.2.2.2.2.2.2.length c] ∧ x.2.2.2.2.2.2.2.2.2.2.2.2.2.2.2.length ≤ c ∧ Kd.C k53 w A x.2.2.2.2.2.2.2.2.2.2.2.2.2.2.2.length x.2.2.2.2.2.2.2.2.2.2.2.2.2.2.2
theorem M26.below {w w' : World} {x : X26} {cs : Array Value} (h : M26 w x cs) (hb : Below w.heap.size w w') : M26 w' x cs := by
  obtain ⟨A, c, e, hc, hr⟩ := h
  exact ⟨A, c, e, hc, Kd.C_below hr hb⟩
theorem M26.sz {w : World} {x : X26} {cs : Array Value} (h : M26 w x cs) : (Try.prog.info? 26).map (·.size) = some cs.size := by
  obtain ⟨A, c, rfl, hc, hr⟩ := h
  exact (show (Try.prog.info? 26).map (·.size) = some 16 by kernel_rfl)
theorem M26.size {w : World} {x : X26} {cs : Array Value} (h : M26 w x cs) : cs.size = 16 := by
  obtain ⟨A, c, rfl, hc, hr⟩ := h
  rfl
theorem M26.one {w : World} {x : X26} {cs : Array Value} (h : M26 w x cs) : cs.all (·.oneCell') = true := by
  obtain ⟨A, c, rfl, hc, hr⟩ := h
  simp [Value.oneCell']

abbrev X32 := Int × Int × Int × Int × Int × Int × Bool × Int × Int × ByteArray × Int × Int × Int × Int × ByteArray × List S40
/-- What the cells of a value of type 32 say, in world w. -/
def M32 (w : World) (x : X32) (cs : Array Value) : Prop := ∃ (A : Option Addr) (c : Nat), cs = #[.int .i64 x.1, .int .i64 x.2.1, .int .i64 x.2.2.1, .int .i64 x.2.2.2.1, .int .i64 x.2.2.2.2.1, .int .i64 x.2.2.2.2.2.1, .bool x.2.2.2.2.2.2.1, .int .i64 x.2.2.2.2.2.2.2.1, .int .i64 x.2.2.2.2.2.2.2.2.1, .string x.2.2.2.2.2.2.2.2.2.1, .int .i64 x.2.2.2.2.2.2.2.2.2.2.1, .int .i64 x.2.2.2.2.2.2.2.2.2.2.2.1, .int .i64 x.2.2.2.2.2.2.2.2.2.2.2.2.1, .int .i64 x.2.2.2.2.2.2.2.2.2.2.2.2.2.1, .string x.2.2.2.2.2.2.2.2.2.2.2.2.2.2.1, .slice A x.2.2.2.2.2.2.2.2.2.2.2.2.2.2.2.length c] ∧ x.2.2.2.2.2.2.2.2.2.2.2.2.2.2.2.length ≤ c ∧ Kd.C k40 w A x.2.2.2.2.2.2.2.2.2.2.2.2.2.2.2.length x.2.2.2.2.2.2.2.2.2.2.2.2.2.2.2
theorem M32.below {w w' : World} {x : X32} {cs : Array Value} (h : M32 w x cs) (hb : Below w.heap.size w w') : M32 w' x cs := by
  obtain ⟨A, c, e, hc, hr⟩ := h
  exact ⟨A, c, e, hc, Kd.C_below hr hb⟩
theorem M32.sz {w : World} {x : X32} {cs : Array Value} (h : M32 w x cs) : (Try.prog.info? 32).map (·.size) = some cs.size := by
  obtain ⟨A, c, rfl, hc, hr⟩ := h
  exact (show (Try.prog.info? 32).map (·.size) = some 16 by kernel_rfl)
theorem M32.size {w : World} {x : X32} {cs : Array Value} (h : M32 w x cs) : cs.size = 16 := by
  obtain ⟨A, c, rfl, hc, hr⟩ := h
  rfl
theorem M32.one {w : World} {x : X32} {cs : Array Value} (h : M32 w x cs) : cs.all (·.oneCell') = true := by
  obtain ⟨A, c, rfl, hc, hr⟩ := h
  simp [Value.oneCell']

theorem load_run {P : Program} {o : Oper} {a : Act} {w : World} (ty : TypeId) (x : Operand) (ho : o.op = .load ty x)
    (g : Nat) (hx : a.eval x = .pointer (some ⟨g, 0, none⟩)) (t : TypeId) (cs : Array Value) (fr : Nat × Nat) (d : TypeDesc) (hg : w.heap[g]? = some (.cells cs t fr))
    (hu : P.underlying ty = some d) (hd : (match d with | .struct _ | .array _ _ => true | _ => false) = true) (hi : (P.info? ty).map (·.size) = some cs.size) : (execOp a.eval o).run P w = .ok (.value (.agg cs)) w := by
  unfold execOp
  simp only [ho, hx, Instr.loadAt, Instr.sureAddr, Sem.run_bind, Sem.run_pure, Result.andThen_ok, run_loadVar_row w g t ty cs fr d hg hu hd hi]
def szF (k : Nat) (x : X26) (a : Int) : Option Int := laws_szMsg.f k x.1 x.2.1 x.2.2.1 x.2.2.2.1 x.2.2.2.2.1 x.2.2.2.2.2.1 x.2.2.2.2.2.2.1 x.2.2.2.2.2.2.2.1 x.2.2.2.2.2.2.2.2.1 x.2.2.2.2.2.2.2.2.2.1 x.2.2.2.2.2.2.2.2.2.2.1 x.2.2.2.2.2.2.2.2.2.2.2.1 x.2.2.2.2.2.2.2.2.2.2.2.2.1 x.2.2.2.2.2.2.2.2.2.2.2.2.2.1 x.2.2.2.2.2.2.2.2.2.2.2.2.2.2.1 x.2.2.2.2.2.2.2.2.2.2.2.2.2.2.2 a
def toF (k : Nat) (x : X26) : Option X32 := laws_toMsg.f k x.1 x.2.1 x.2.2.1 x.2.2.2.1 x.2.2.2.2.1 x.2.2.2.2.2.1 x.2.2.2.2.2.2.1 x.2.2.2.2.2.2.2.1 x.2.2.2.2.2.2.2.2.1 x.2.2.2.2.2.2.2.2.2.1 x.2.2.2.2.2.2.2.2.2.2.1 x.2.2.2.2.2.2.2.2.2.2.2.1 x.2.2.2.2.2.2.2.2.2.2.2.2.1 x.2.2.2.2.2.2.2.2.2.2.2.2.2.1 x.2.2.2.2.2.2.2.2.2.2.2.2.2.2.1 x.2.2.2.2.2.2.2.2.2.2.2.2.2.2.2
def spF (k : Nat) (x y : X32) : Option Bool := spec_MsgSame.f k x.1 x.2.1 x.2.2.1 x.2.2.2.1 x.2.2.2.2.1 x.2.2.2.2.2.1 x.2.2.2.2.2.2.1 x.2.2.2.2.2.2.2.1 x.2.2.2.2.2.2.2.2.1 x.2.2.2.2.2.2.2.2.2.1 x.2.2.2.2.2.2.2.2.2.2.1 x.2.2.2.2.2.2.2.2.2.2.2.1 x.2.2.2.2.2.2.2.2.2.2.2.2.1 x.2.2.2.2.2.2.2.2.2.2.2.2.2.1 x.2.2.2.2.2.2.2.2.2.2.2.2.2.2.1 x.2.2.2.2.2.2.2.2.2.2.2.2.2.2.2 y.1 y.2.1 y.2.2.1 y.2.2.2.1 y.2.2.2.2.1 y.2.2.2.2.2.1 y.2.2.2.2.2.2.1 y.2.2.2.2.2.2.2.1 y.2.2.2.2.2.2.2.2.1 y.2.2.2.2.2.2.2.2.2.1 y.2.2.2.2.2.2.2.2.2.2.1 y.2.2.2.2.2.2.2.2.2.2.2.1 y.2.2.2.2.2.2.2.2.2.2.2.2.1 y.2.2.2.2.2.2.2.2.2.2.2.2.2.1 y.2.2.2.2.2.2.2.2.2.2.2.2.2.2.1 y.2.2.2.2.2.2.2.2.2.2.2.2.2.2.2
def imF (k : Nat) (x y : X32) : Option Bool := impl_MsgSame.f k x.1 x.2.1 x.2.2.1 x.2.2.2.1 x.2.2.2.2.1 x.2.2.2.2.2.1 x.2.2.2.2.2.2.1 x.2.2.2.2.2.2.2.1 x.2.2.2.2.2.2.2.2.1 x.2.2.2.2.2.2.2.2.2.1 x.2.2.2.2.2.2.2.2.2.2.1 x.2.2.2.2.2.2.2.2.2.2.2.1 x.2.2.2.2.2.2.2.2.2.2.2.2.1 x.2.2.2.2.2.2.2.2.2.2.2.2.2.1 x.2.2.2.2.2.2.2.2.2.2.2.2.2.2.1 x.2.2.2.2.2.2.2.2.2.2.2.2.2.2.2 y.1 y.2.1 y.2.2.1 y.2.2.2.1 y.2.2.2.2.1 y.2.2.2.2.2.1 y.2.2.2.2.2.2.1 y.2.2.2.2.2.2.2.1 y.2.2.2.2.2.2.2.2.1 y.2.2.2.2.2.2.2.2.2.1 y.2.2.2.2.2.2.2.2.2.2.1 y.2.2.2.2.2.2.2.2.2.2.2.1 y.2.2.2.2.2.2.2.2.2.2.2.2.1 y.2.2.2.2.2.2.2.2.2.2.2.2.2.1 y.2.2.2.2.2.2.2.2.2.2.2.2.2.2.1 y.2.2.2.2.2.2.2.2.2.2.2.2.2.2.2
def eqF (k : Nat) (x y : X32) : Option Bool := laws_eqMsg.f k x.1 x.2.1 x.2.2.1 x.2.2.2.1 x.2.2.2.2.1 x.2.2.2.2.2.1 x.2.2.2.2.2.2.1 x.2.2.2.2.2.2.2.1 x.2.2.2.2.2.2.2.2.1 x.2.2.2.2.2.2.2.2.2.1 x.2.2.2.2.2.2.2.2.2.2.1 x.2.2.2.2.2.2.2.2.2.2.2.1 x.2.2.2.2.2.2.2.2.2.2.2.2.1 x.2.2.2.2.2.2.2.2.2.2.2.2.2.1 x.2.2.2.2.2.2.2.2.2.2.2.2.2.2.1 x.2.2.2.2.2.2.2.2.2.2.2.2.2.2.2 y.1 y.2.1 y.2.2.1 y.2.2.2.1 y.2.2.2.2.1 y.2.2.2.2.2.1 y.2.2.2.2.2.2.1 y.2.2.2.2.2.2.2.1 y.2.2.2.2.2.2.2.2.1 y.2.2.2.2.2.2.2.2.2.1 y.2.2.2.2.2.2.2.2.2.2.1 y.2.2.2.2.2.2.2.2.2.2.2.1 y.2.2.2.2.2.2.2.2.2.2.2.2.1 y.2.2.2.2.2.2.2.2.2.2.2.2.2.1 y.2.2.2.2.2.2.2.2.2.2.2.2.2.2.1 y.2.2.2.2.2.2.2.2.2.2.2.2.2.2.2
def lawF (k : Nat) (x0 x1 : X26) : Option Bool := (szF k x0 1048576).bind fun t => if t < 0 then some true else (szF k x1 t).bind fun t2 => if t2 < 0 then some true else (toF k x0).bind fun y0 => (toF k x1).bind fun y1 => (spF k y0 y1).bind fun b0 => (toF k x0).bind fun z0 => (toF k x1).bind fun z1 => (imF k z0 z1).bind fun b1 => if (b1 != b0) = true then some false else (toF k x0).bind fun u0 => (eqF k z0 u0).bind fun q0 => if q0 = true then (toF k x1).bind fun u1 => (eqF k z1 u1).bind fun q1 => if q1 = true then some true else some false else some false
theorem sz_o (k : Nat) (x : X26) (a r : Int) (cs : Array Value) (w : World) (hx : M26 w x cs) (h : szF k x a = some r) :
    Calls Try.prog 5 #[.agg cs, .int .i64 a] w fun e w' => e = .returned (.int .i64 r) ∧ Below w.heap.size w w' := by
  obtain ⟨A, c, rfl, hc, hr⟩ := hx
  exact laws_szMsg.calls k x.1 x.2.1 x.2.2.1 x.2.2.2.1 x.2.2.2.2.1 x.2.2.2.2.2.1 x.2.2.2.2.2.2.1 x.2.2.2.2.2.2.2.1 x.2.2.2.2.2.2.2.2.1 x.2.2.2.2.2.2.2.2.2.1 x.2.2.2.2.2.2.2.2.2.2.1 x.2.2.2.2.2.2.2.2.2.2.2.1 x.2.2.2.2.2.2.2.2.2.2.2.2.1 x.2.2.2.2.2.2.2.2.2.2.2.2.2.1 x.2.2.2.2.2.2.2.2.2.2.2.2.2.2.1 A c x.2.2.2.2.2.2.2.2.2.2.2.2.2.2.2 a r w hr hc h
theorem to_o (k : Nat) (x : X26) (y : X32) (cs : Array Value) (w : World) (hx : M26 w x cs) (h : toF k x = some y) :
    Calls Try.prog 7 #[.agg cs] w fun e w' => ∃ ds, e = .returned (.agg ds) ∧ M32 w' y ds ∧ Below w.heap.size w w' := by
  obtain ⟨A, c, rfl, hc, hr⟩ := hx
  refine (laws_toMsg.calls k x.1 x.2.1 x.2.2.1 x.2.2.2.1 x.2.2.2.2.1 x.2.2.2.2.2.1 x.2.2.2.2.2.2.1 x.2.2.2.2.2.2.2.1 x.2.2.2.2.2.2.2.2.1 x.2.2.2.2.2.2.2.2.2.1 x.2.2.2.2.2.2.2.2.2.2.1 x.2.2.2.2.2.2.2.2.2.2.2.1 x.2.2.2.2.2.2.2.2.2.2.2.2.1 x.2.2.2.2.2.2.2.2.2.2.2.2.2.1 x.2.2.2.2.2.2.2.2.2.2.2.2.2.2.1 A c x.2.2.2.2.2.2.2.2.2.2.2.2.2.2.2 y.1 y.2.1 y.2.2.1 y.2.2.2.1 y.2.2.2.2.1 y.2.2.2.2.2.1 y.2.2.2.2.2.2.1 y.2.2.2.2.2.2.2.1 y.2.2.2.2.2.2.2.2.1 y.2.2.2.2.2.2.2.2.2.1 y.2.2.2.2.2.2.2.2.2.2.1 y.2.2.2.2.2.2.2.2.2.2.2.1 y.2.2.2.2.2.2.2.2.2.2.2.2.1 y.2.2.2.2.2.2.2.2.2.2.2.2.2.1 y.2.2.2.2.2.2.2.2.2.2.2.2.2.2.1 y.2.2.2.2.2.2.2.2.2.2.2.2.2.2.2 w hr hc h).mono ?_
  rintro e w' ⟨v, rfl, hR, hb⟩
  obtain ⟨A', c', rfl, hl, hC⟩ := Kd.R_reads hR
  exact ⟨_, rfl, ⟨A', c', rfl, hl, hC⟩, hb⟩
theorem sp_o (k : Nat) (x y : X32) (r : Bool) (cs ds : Array Value) (w : World) (hx : M32 w x cs) (hy : M32 w y ds) (h : spF k x y = some r) :
    Calls Try.prog 6 #[.agg cs, .agg ds] w fun e w' => e = .returned (.bool r) ∧ Below w.heap.size w w' := by
  obtain ⟨A0, c0, rfl, hc0, hr0⟩ := hx
  obtain ⟨A1, c1, rfl, hc1, hr1⟩ := hy
  exact spec_MsgSame.calls k x.1 x.2.1 x.2.2.1 x.2.2.2.1 x.2.2.2.2.1 x.2.2.2.2.2.1 x.2.2.2.2.2.2.1 x.2.2.2.2.2.2.2.1 x.2.2.2.2.2.2.2.2.1 x.2.2.2.2.2.2.2.2.2.1 x.2.2.2.2.2.2.2.2.2.2.1 x.2.2.2.2.2.2.2.2.2.2.2.1 x.2.2.2.2.2.2.2.2.2.2.2.2.1 x.2.2.2.2.2.2.2.2.2.2.2.2.2.1 x.2.2.2.2.2.2.2.2.2.2.2.2.2.2.1 A0 c0 x.2.2.2.2.2.2.2.2.2.2.2.2.2.2.2 y.1 y.2.1 y.2.2.1 y.2.2.2.1 y.2.2.2.2.1 y.2.2.2.2.2.1 y.2.2.2.2.2.2.1 y.2.2.2.2.2.2.2.1 y.2.2.2.2.2.2.2.2.1 y.2.2.2.2.2.2.2.2.2.1 y.2.2.2.2.2.2.2.2.2.2.1 y.2.2.2.2.2.2.2.2.2.2.2.1 y.2.2.2.2.2.2.2.2.2.2.2.2.1 y.2.2.2.2.2.2.2.2.2.2.2.2.2.1 y.2.2.2.2.2.2.2.2.2.2.2.2.2.2.1 A1 c1 y.2.2.2.2.2.2.2.2.2.2.2.2.2.2.2 r w hr0 hc0 hr1 hc1 h
theorem im_o (k : Nat) (x y : X32) (r : Bool) (cs ds : Array Value) (w : World) (hx : M32 w x cs) (hy : M32 w y ds) (h : imF k x y = some r) :
    Calls Try.prog 8 #[.agg cs, .agg ds] w fun e w' => e = .returned (.bool r) ∧ Below w.heap.size w w' := by
  obtain ⟨A0, c0, rfl, hc0, hr0⟩ := hx
  obtain ⟨A1, c1, rfl, hc1, hr1⟩ := hy
  exact impl_MsgSame.calls k x.1 x.2.1 x.2.2.1 x.2.2.2.1 x.2.2.2.2.1 x.2.2.2.2.2.1 x.2.2.2.2.2.2.1 x.2.2.2.2.2.2.2.1 x.2.2.2.2.2.2.2.2.1 x.2.2.2.2.2.2.2.2.2.1 x.2.2.2.2.2.2.2.2.2.2.1 x.2.2.2.2.2.2.2.2.2.2.2.1 x.2.2.2.2.2.2.2.2.2.2.2.2.1 x.2.2.2.2.2.2.2.2.2.2.2.2.2.1 x.2.2.2.2.2.2.2.2.2.2.2.2.2.2.1 A0 c0 x.2.2.2.2.2.2.2.2.2.2.2.2.2.2.2 y.1 y.2.1 y.2.2.1 y.2.2.2.1 y.2.2.2.2.1 y.2.2.2.2.2.1 y.2.2.2.2.2.2.1 y.2.2.2.2.2.2.2.1 y.2.2.2.2.2.2.2.2.1 y.2.2.2.2.2.2.2.2.2.1 y.2.2.2.2.2.2.2.2.2.2.1 y.2.2.2.2.2.2.2.2.2.2.2.1 y.2.2.2.2.2.2.2.2.2.2.2.2.1 y.2.2.2.2.2.2.2.2.2.2.2.2.2.1 y.2.2.2.2.2.2.2.2.2.2.2.2.2.2.1 A1 c1 y.2.2.2.2.2.2.2.2.2.2.2.2.2.2.2 r w hr0 hc0 hr1 hc1 h
theorem eq_o (k : Nat) (x y : X32) (r : Bool) (cs ds : Array Value) (w : World) (hx : M32 w x cs) (hy : M32 w y ds) (h : eqF k x y = some r) :
    Calls Try.prog 9 #[.agg cs, .agg ds] w fun e w' => e = .returned (.bool r) ∧ Below w.heap.size w w' := by
  obtain ⟨A0, c0, rfl, hc0, hr0⟩ := hx
  obtain ⟨A1, c1, rfl, hc1, hr1⟩ := hy
  exact laws_eqMsg.calls k x.1 x.2.1 x.2.2.1 x.2.2.2.1 x.2.2.2.2.1 x.2.2.2.2.2.1 x.2.2.2.2.2.2.1 x.2.2.2.2.2.2.2.1 x.2.2.2.2.2.2.2.2.1 x.2.2.2.2.2.2.2.2.2.1 x.2.2.2.2.2.2.2.2.2.2.1 x.2.2.2.2.2.2.2.2.2.2.2.1 x.2.2.2.2.2.2.2.2.2.2.2.2.1 x.2.2.2.2.2.2.2.2.2.2.2.2.2.1 x.2.2.2.2.2.2.2.2.2.2.2.2.2.2.1 A0 c0 x.2.2.2.2.2.2.2.2.2.2.2.2.2.2.2 y.1 y.2.1 y.2.2.1 y.2.2.2.1 y.2.2.2.2.1 y.2.2.2.2.2.1 y.2.2.2.2.2.2.1 y.2.2.2.2.2.2.2.1 y.2.2.2.2.2.2.2.2.1 y.2.2.2.2.2.2.2.2.2.1 y.2.2.2.2.2.2.2.2.2.2.1 y.2.2.2.2.2.2.2.2.2.2.2.1 y.2.2.2.2.2.2.2.2.2.2.2.2.1 y.2.2.2.2.2.2.2.2.2.2.2.2.2.1 y.2.2.2.2.2.2.2.2.2.2.2.2.2.2.1 A1 c1 y.2.2.2.2.2.2.2.2.2.2.2.2.2.2.2 r w hr0 hc0 hr1 hc1 h
/-- What holds all through the law: the two boxes lie. -/
structure St (w W : World) (b2 b3 : Nat) (c0 c1 : Array Value) : Prop where
  hb : Below w.heap.size w W
  k2 : W.heap[b2]? = some (.cells c0 26 (0, 0))
  k3 : W.heap[b3]? = some (.cells c1 26 (0, 0))
theorem St.step {w W W' : World} {b2 b3 : Nat} {c0 c1 : Array Value} (h : St w W b2 b3 c0 c1) (hb : Below W.heap.size W W') : St w W' b2 b3 c0 c1 := ⟨below_step h.hb hb, blk_below h.k2 hb, blk_below h.k3 hb⟩
theorem St.drew {w W : World} {b2 b3 : Nat} {c0 c1 : Array Value} (h : St w W b2 b3 c0 c1) : St w W.drew b2 b3 c0 c1 := ⟨below_drew1 h.hb, h.k2, h.k3⟩
theorem store_new {W w1 : World} {g t : Nat} {old ds : Array Value} (hg : g = W.heap.size) (hbox : w1.heap[g]? = some (.cells old t (0, 0))) (hb : Below W.heap.size W w1) :
    Below W.heap.size W (w1.setRow g ds) ∧ (w1.setRow g ds).heap[g]? = some (.cells ds t (0, 0)) :=
  ⟨hb.trans ⟨rfl, rfl, rfl, by simp, fun k hk => setRow_other _ _ _ _ (by omega)⟩, setRow_heap w1 g old ds t (0, 0) hbox⟩

set_option maxHeartbeats 8000000 in
set_option maxRecDepth 100000 in
theorem law_o (k : Nat) (x0 x1 : X26) (c0 c1 : Array Value) (r : Bool) (w : World) (hx0 : M26 w x0 c0) (hx1 : M26 w x1 c1) (h : lawF k x0 x1 = some r) :
    Calls Try.prog 3 #[.agg c0, .agg c1] w fun e w' => e = .returned (.bool r) ∧ Below w.heap.size w w' := by
  have X0 := Aside0.mk hx0
  have X1 := Aside0.mk hx1
  have Z0 := Aside0.mk hx0.sz
  have Z1 := Aside0.mk hx1.sz
  clear hx0 hx1
  unfold lawF at h
  obtain ⟨t, A1_, H⟩ := Option.bind_eq_some_iff.mp h
  have A1 := Aside0.mk A1_
  clear A1_ h
  go_enter Try.func3, Try.ntmps3
  go_upto_if 14 with (first
    | ((with_reducible refine gate_dst (N := 2) rfl ?_); refine box_event ?hg (N := 2) ?hd (cs := c0) (t := 26) ?hr ?_; (case hd => rfl); (case hg => rfl); (case hr => first | (go_simp; done) | (go_simp; rfl)); intro b2 hg w1 hbox hb; have B2 := Aside0.mk (And.intro hbox hb); clear hg hbox hb)
    | ((with_reducible refine gate_dst (N := 3) rfl ?_); refine box_event ?hg (N := 3) ?hd (cs := c1) (t := 26) ?hr ?_; (case hd => rfl); (case hg => rfl); (case hr => first | (go_simp; done) | (go_simp; rfl)); intro b3 hg w2 hbox hb; have I := Aside0.mk (St.mk (below_step B2.out.2 hb) (blk_below B2.out.1 hb) hbox); clear B2 hg hbox hb)
    | (refine wpList_load_row rfl 26 (.tmp 2) rfl b2 rfl 26 c0 (0, 0) _ I.out.k2 Try.underlying26 rfl Z0.out ?_)
    | ((with_reducible refine gate_callee (f := 5) rfl ?_); refine goesL_ (some 12) rfl rfl Try.func5 (by kernel_rfl) rfl #[.agg c0, .int .i64 1048576] rfl (by (try simp only [List.map_toArray, List.map_cons, List.map_nil]); first | done | rfl) ?_; refine (sz_o k x0 1048576 t c0 _ (X0.out.below I.out.hb) A1.out).mono ?_; rintro e w3 ⟨rfl, hb⟩; refine ⟨_, rfl, ?_⟩; have I3 := Aside0.mk (I.out.step hb); clear I hb; have I := I3; clear I3))
  by_cases q1 : t < 0
  · rw [if_pos q1] at H
    have qb : decide (t < 0) = true := decide_eq_true q1
    clear q1
    (first | rw [qb] | (simp only [i64_w, i32_w]; rw [qb]) | skip)
    obtain rfl := Option.some.inj H
    go_wp2
    go_ret
    exact ⟨rfl, I.out.hb⟩
  rw [if_neg q1] at H
  have qb : decide (t < 0) = false := decide_eq_false q1
  clear q1
  (first | rw [qb] | (simp only [i64_w, i32_w]; rw [qb]) | skip)
  replace H := Option.bind_eq_some_iff.mp H
  obtain ⟨t2, A2_, H⟩ := H
  have A2 := Aside0.mk A2_
  clear A2_
  go_upto_if 19 with (first
    | (refine wpList_load_row rfl 26 (.tmp 3) rfl b3 rfl 26 c1 (0, 0) _ I.out.k3 Try.underlying26 rfl Z1.out ?_)
    | ((with_reducible refine gate_callee (f := 5) rfl ?_); refine goesL_ (some 17) rfl rfl Try.func5 (by kernel_rfl) rfl #[.agg c1, .int .i64 t] rfl (by (try simp only [List.map_toArray, List.map_cons, List.map_nil]); first | done | rfl) ?_; refine (sz_o k x1 t t2 c1 _ (X1.out.below I.out.hb) A2.out).mono ?_; rintro e w4 ⟨rfl, hb⟩; refine ⟨_, rfl, ?_⟩; have I3 := Aside0.mk (I.out.step hb); clear I hb; have I := I3; clear I3))
  clear qb
  by_cases q1 : t2 < 0
  · rw [if_pos q1] at H
    have qb : decide (t2 < 0) = true := decide_eq_true q1
    clear q1
    (first | rw [qb] | (simp only [i64_w, i32_w]; rw [qb]) | skip)
    obtain rfl := Option.some.inj H
    go_wp2
    go_ret
    exact ⟨rfl, I.out.hb⟩
  rw [if_neg q1] at H
  have qb : decide (t2 < 0) = false := decide_eq_false q1
  clear q1
  (first | rw [qb] | (simp only [i64_w, i32_w]; rw [qb]) | skip)
  replace H := Option.bind_eq_some_iff.mp H
  obtain ⟨y0, A3_, H⟩ := H
  have A3 := Aside0.mk A3_
  clear A3_
  replace H := Option.bind_eq_some_iff.mp H
  obtain ⟨y1, A4_, H⟩ := H
  have A4 := Aside0.mk A4_
  clear A4_
  replace H := Option.bind_eq_some_iff.mp H
  obtain ⟨b0, A5_, H⟩ := H
  have A5 := Aside0.mk A5_
  clear A5_
  replace H := Option.bind_eq_some_iff.mp H
  obtain ⟨z0, A6_, H⟩ := H
  have A6 := Aside0.mk A6_
  clear A6_
  replace H := Option.bind_eq_some_iff.mp H
  obtain ⟨z1, A7_, H⟩ := H
  have A7 := Aside0.mk A7_
  clear A7_
  replace H := Option.bind_eq_some_iff.mp H
  obtain ⟨b1, A8_, H⟩ := H
  have A8 := Aside0.mk A8_
  clear A8_
  have HH := Aside0.mk H
  clear H
  go_upto_region 8 with (fail)
  clear qb
  have I2 := Aside0.mk I.out.drew
  clear I
  have I := I2
  clear I2
  refine start_ (n := 6) (S := fun w' => w'.heap[b2]? = some (.cells c0 26 (0, 0)) ∧ w'.heap[b3]? = some (.cells c1 26 (0, 0))) (ds := []) #[false, false, false, false, false, false] (by kernel_rfl) rfl rfl ⟨I.out.k2, I.out.k3⟩ ?_
  intro hS
  refine take_ (i := 0) (N := some 20) (v := .agg c0) #[true, false, false, false, false, false] rfl rfl (by kernel_rfl) (fun _ _ _ h => h) (Or.inl ⟨by rfl, fun w' hs => load_run 26 (.tmp 2) rfl b2 rfl 26 c0 (0, 0) _ hs.1 Try.underlying26 rfl Z0.out⟩) hS rfl ?_
  refine norm_ (a' := ?_) ?_ ?_
  rotate_left
  · show Act.put _ (some 20) _ = _
    simp only [Act.put, List.setIfInBounds_toArray, List.set_cons_zero, List.set_cons_succ, i64_w, i32_w]
    rfl
  refine take_ (i := 2) (N := some 22) (v := .agg c1) #[true, false, true, false, false, false] rfl rfl (by kernel_rfl) (fun _ _ _ h => h) (Or.inl ⟨by rfl, fun w' hs => load_run 26 (.tmp 3) rfl b3 rfl 26 c1 (0, 0) _ hs.2 Try.underlying26 rfl Z1.out⟩) hS rfl ?_
  refine norm_ (a' := ?_) ?_ ?_
  rotate_left
  · show Act.put _ (some 22) _ = _
    simp only [Act.put, List.setIfInBounds_toArray, List.set_cons_zero, List.set_cons_succ, i64_w, i32_w]
    rfl
  clear hS
  refine one_ (i := 1) (N := some 21) #[true, true, true, false, false, false] rfl rfl (by kernel_rfl) (by decide) (fun K hK => ?_)
  refine goes_ Try.func7 (by kernel_rfl) rfl #[.agg c0] (by first | rfl | (go_simp; done)) rfl rfl (by (try simp only [List.map_toArray, List.map_cons, List.map_nil]); first | done | rfl) ?_
  refine (to_o k x0 y0 c0 _ (X0.out.below I.out.hb) A3.out).mono ?_
  rintro e w5 ⟨ds0, rfl, hm, hb⟩
  refine ⟨_, rfl, ?_⟩
  have I3 := Aside0.mk (I.out.step hb)
  have Y0 := Aside0.mk hm
  clear I hb hm
  have I := I3
  clear I3
  refine hK.out _ _ ⟨I.out.k2, I.out.k3⟩ (fun hS => ?_)
  clear hK K
  refine norm_ (a' := ?_) ?_ ?_
  rotate_left
  · show Act.put _ (some 21) _ = _
    simp only [Act.put, List.setIfInBounds_toArray, List.set_cons_zero, List.set_cons_succ, i64_w, i32_w]
    rfl
  clear hS
  refine one_ (i := 3) (N := some 23) #[true, true, true, true, false, false] rfl rfl (by kernel_rfl) (by decide) (fun K hK => ?_)
  refine goes_ Try.func7 (by kernel_rfl) rfl #[.agg c1] (by first | rfl | (go_simp; done)) rfl rfl (by (try simp only [List.map_toArray, List.map_cons, List.map_nil]); first | done | rfl) ?_
  refine (to_o k x1 y1 c1 _ (X1.out.below I.out.hb) A4.out).mono ?_
  rintro e w6 ⟨ds1, rfl, hm, hb⟩
  refine ⟨_, rfl, ?_⟩
  have I3 := Aside0.mk (I.out.step hb)
  have Y3 := Aside0.mk (Y0.out.below hb)
  have Y1 := Aside0.mk hm
  clear I hb hm Y0
  have I := I3
  have Y0 := Y3
  clear I3 Y3
  refine hK.out _ _ ⟨I.out.k2, I.out.k3⟩ (fun hS => ?_)
  clear hK K
  refine norm_ (a' := ?_) ?_ ?_
  rotate_left
  · show Act.put _ (some 23) _ = _
    simp only [Act.put, List.setIfInBounds_toArray, List.set_cons_zero, List.set_cons_succ, i64_w, i32_w]
    rfl
  clear hS
  refine one_ (i := 4) (N := some 24) #[true, true, true, true, true, false] rfl rfl (by kernel_rfl) (by decide) (fun K hK => ?_)
  refine goes_ Try.func6 (by kernel_rfl) rfl #[.agg ds0, .agg ds1] (by first | rfl | (go_simp; done)) rfl rfl (by (try simp only [List.map_toArray, List.map_cons, List.map_nil]); first | done | rfl) ?_
  refine (sp_o k y0 y1 b0 ds0 ds1 _ Y0.out Y1.out A5.out).mono ?_
  rintro e w7 ⟨rfl, hb⟩
  refine ⟨_, rfl, ?_⟩
  have I3 := Aside0.mk (I.out.step hb)
  clear I hb Y0 Y1 A3 A4 A5
  have I := I3
  clear I3
  refine hK.out _ _ ⟨I.out.k2, I.out.k3⟩ (fun hS => ?_)
  clear hK K
  refine norm_ (a' := ?_) ?_ ?_
  rotate_left
  · show Act.put _ (some 24) _ = _
    simp only [Act.put, List.setIfInBounds_toArray, List.set_cons_zero, List.set_cons_succ, i64_w, i32_w]
    rfl
  clear hS
  refine pure_ (i := 5) (N := some 6) (v := .bool b0) #[true, true, true, true, true, true] rfl rfl (by kernel_rfl) (fun _ _ _ h => h) (Or.inl ⟨by rfl, fun w' => by go_simp⟩) rfl ?_
  refine norm_ (a' := ?_) ?_ ?_
  rotate_left
  · show Act.put _ (some 6) _ = _
    simp only [Act.put, List.setIfInBounds_toArray, List.set_cons_zero, List.set_cons_succ, i64_w, i32_w]
    rfl
  refine done_ (by kernel_rfl) ?_
  go_upto_if 34 with (first
    | (refine wpList_load_row rfl 26 (.tmp 2) rfl b2 rfl 26 c0 (0, 0) _ I.out.k2 Try.underlying26 rfl Z0.out ?_; (try simp only [Act.put, List.setIfInBounds_toArray, List.set_cons_zero, List.set_cons_succ]))
    | ((with_reducible refine gate_dst (N := 26) rfl ?_); (with_reducible refine gate_callee (f := 7) rfl ?_); refine goesL_ (some 26) rfl rfl Try.func7 (by kernel_rfl) rfl #[.agg c0] rfl (by (try simp only [List.map_toArray, List.map_cons, List.map_nil]); first | done | rfl) ?_; refine (to_o k x0 z0 c0 _ (X0.out.below I.out.hb) A6.out).mono ?_; rintro e wq ⟨ds2, rfl, hm, hb⟩; refine ⟨_, rfl, ?_⟩; have V0 := Aside0.mk hm; clear hm; have I_ := Aside0.mk (I.out.step hb); clear I; have I := I_; clear I_; clear hb; (try simp only [Act.put, List.setIfInBounds_toArray, List.set_cons_zero, List.set_cons_succ]))
    | ((with_reducible refine gate_dst (N := 7) rfl ?_); refine box_event ?hg (N := 7) ?hd (cs := #[.int .i64 0, .int .i64 0, .int .i64 0, .int .i64 0, .int .i64 0, .int .i64 0, .bool false, .int .i64 0, .int .i64 0, .string ⟨#[]⟩, .int .i64 0, .int .i64 0, .int .i64 0, .int .i64 0, .string ⟨#[]⟩, .slice none 0 0]) (t := 32) ?hr ?_; (case hd => rfl); (case hg => rfl); (case hr => first | (go_simp; done) | (go_simp; rfl)); intro g7 hg wq hbox hb; have P7 := Aside0.mk (And.intro hg (And.intro hbox hb)); clear hg hbox hb; (try simp only [Act.put, List.setIfInBounds_toArray, List.set_cons_zero, List.set_cons_succ]))
    | (refine wpList_store_row rfl 32 (.tmp 7) (.tmp 26) rfl g7 ds2 rfl rfl 32 _ P7.out.2.1 V0.out.sz V0.out.size.symm V0.out.one ?_; have sn := store_new (ds := ds2) P7.out.1 P7.out.2.1 P7.out.2.2; have K7 := Aside0.mk sn.2; have I_ := Aside0.mk (I.out.step sn.1); have V0_ := Aside0.mk (V0.out.below sn.1); clear I V0; have I := I_; have V0 := V0_; clear I_ V0_; clear sn P7; generalize World.setRow _ g7 ds2 = wz at I K7 V0 ⊢; (try simp only [Act.put, List.setIfInBounds_toArray, List.set_cons_zero, List.set_cons_succ]))
    | (refine wpList_load_row rfl 26 (.tmp 3) rfl b3 rfl 26 c1 (0, 0) _ I.out.k3 Try.underlying26 rfl Z1.out ?_; (try simp only [Act.put, List.setIfInBounds_toArray, List.set_cons_zero, List.set_cons_succ]))
    | ((with_reducible refine gate_dst (N := 28) rfl ?_); (with_reducible refine gate_callee (f := 7) rfl ?_); refine goesL_ (some 28) rfl rfl Try.func7 (by kernel_rfl) rfl #[.agg c1] rfl (by (try simp only [List.map_toArray, List.map_cons, List.map_nil]); first | done | rfl) ?_; refine (to_o k x1 z1 c1 _ (X1.out.below I.out.hb) A7.out).mono ?_; rintro e wq ⟨ds3, rfl, hm, hb⟩; refine ⟨_, rfl, ?_⟩; have V1 := Aside0.mk hm; clear hm; have I_ := Aside0.mk (I.out.step hb); have K7_ := Aside0.mk (blk_below K7.out hb); have V0_ := Aside0.mk (V0.out.below hb); clear I K7 V0; have I := I_; have K7 := K7_; have V0 := V0_; clear I_ K7_ V0_; clear hb; (try simp only [Act.put, List.setIfInBounds_toArray, List.set_cons_zero, List.set_cons_succ]))
    | ((with_reducible refine gate_dst (N := 8) rfl ?_); refine box_event ?hg (N := 8) ?hd (cs := #[.int .i64 0, .int .i64 0, .int .i64 0, .int .i64 0, .int .i64 0, .int .i64 0, .bool false, .int .i64 0, .int .i64 0, .string ⟨#[]⟩, .int .i64 0, .int .i64 0, .int .i64 0, .int .i64 0, .string ⟨#[]⟩, .slice none 0 0]) (t := 32) ?hr ?_; (case hd => rfl); (case hg => rfl); (case hr => first | (go_simp; done) | (go_simp; rfl)); intro g8 hg wq hbox hb; have P8 := Aside0.mk (And.intro hg (And.intro hbox hb)); clear hg hbox hb; (try simp only [Act.put, List.setIfInBounds_toArray, List.set_cons_zero, List.set_cons_succ]))
    | (refine wpList_store_row rfl 32 (.tmp 8) (.tmp 28) rfl g8 ds3 rfl rfl 32 _ P8.out.2.1 V1.out.sz V1.out.size.symm V1.out.one ?_; have sn := store_new (ds := ds3) P8.out.1 P8.out.2.1 P8.out.2.2; have K8 := Aside0.mk sn.2; have I_ := Aside0.mk (I.out.step sn.1); have K7_ := Aside0.mk (blk_below K7.out sn.1); have V0_ := Aside0.mk (V0.out.below sn.1); have V1_ := Aside0.mk (V1.out.below sn.1); clear I K7 V0 V1; have I := I_; have K7 := K7_; have V0 := V0_; have V1 := V1_; clear I_ K7_ V0_ V1_; clear sn P8; generalize World.setRow _ g8 ds3 = wz at I K8 K7 V0 V1 ⊢; (try simp only [Act.put, List.setIfInBounds_toArray, List.set_cons_zero, List.set_cons_succ]))
    | (refine wpList_load_row rfl 32 (.tmp 7) rfl g7 rfl 32 ds2 (0, 0) _ K7.out Try.underlying32 rfl V0.out.sz ?_; (try simp only [Act.put, List.setIfInBounds_toArray, List.set_cons_zero, List.set_cons_succ]))
    | (refine wpList_load_row rfl 32 (.tmp 8) rfl g8 rfl 32 ds3 (0, 0) _ K8.out Try.underlying32 rfl V1.out.sz ?_; (try simp only [Act.put, List.setIfInBounds_toArray, List.set_cons_zero, List.set_cons_succ]))
    | ((with_reducible refine gate_callee (f := 8) rfl ?_); refine goesL_ (some 31) rfl rfl Try.func8 (by kernel_rfl) rfl #[.agg ds2, .agg ds3] rfl (by (try simp only [List.map_toArray, List.map_cons, List.map_nil]); first | done | rfl) ?_; refine (im_o k z0 z1 b1 ds2 ds3 _ V0.out V1.out A8.out).mono ?_; rintro e wq ⟨rfl, hb⟩; refine ⟨_, rfl, ?_⟩; have I_ := Aside0.mk (I.out.step hb); have K7_ := Aside0.mk (blk_below K7.out hb); have K8_ := Aside0.mk (blk_below K8.out hb); have V0_ := Aside0.mk (V0.out.below hb); have V1_ := Aside0.mk (V1.out.below hb); clear I K7 K8 V0 V1; have I := I_; have K7 := K7_; have K8 := K8_; have V0 := V0_; have V1 := V1_; clear I_ K7_ K8_ V0_ V1_; clear hb; (try simp only [Act.put, List.setIfInBounds_toArray, List.set_cons_zero, List.set_cons_succ])))
  have H := HH.out
  clear HH
  by_cases qq : (b1 != b0) = true
  · rw [if_pos qq] at H
    have qe : (!(b1 == b0)) = true := qq
    clear qq
    (first | rw [qe] | (simp only [i64_w, i32_w]; rw [qe]) | skip)
    obtain rfl := Option.some.inj H
    go_wp2
    go_ret
    exact ⟨rfl, I.out.hb⟩
  rw [if_neg qq] at H
  have qf : (!(b1 == b0)) = false := by cases h : (b1 == b0) <;> simp_all [bne]
  clear qq
  (first | rw [qf] | (simp only [i64_w, i32_w]; rw [qf]) | skip)
  replace H := Option.bind_eq_some_iff.mp H
  obtain ⟨u0, A9_, H⟩ := H
  have A9 := Aside0.mk A9_
  clear A9_
  replace H := Option.bind_eq_some_iff.mp H
  obtain ⟨p0, B1_, H⟩ := H
  have B1 := Aside0.mk B1_
  clear B1_
  have HH := Aside0.mk H
  clear H
  go_upto_region 14 with (fail)
  have I_ := Aside0.mk I.out.drew
  clear I
  have I := I_
  clear I_
  have K7_ := Aside0.mk (blk_drew K7.out)
  clear K7
  have K7 := K7_
  clear K7_
  have K8_ := Aside0.mk (blk_drew K8.out)
  clear K8
  have K8 := K8_
  clear K8_
  have V0_ := Aside0.mk (V0.out.below (below_drew1 (Below.refl _ _)))
  clear V0
  have V0 := V0_
  clear V0_
  have V1_ := Aside0.mk (V1.out.below (below_drew1 (Below.refl _ _)))
  clear V1
  have V1 := V1_
  clear V1_
  refine start_ (n := 5) (S := (fun w' => w'.heap[g7]? = some (.cells ds2 32 (0, 0)) ∧ w'.heap[b2]? = some (.cells c0 26 (0, 0)))) (ds := []) #[false, false, false, false, false] (by kernel_rfl) rfl rfl ⟨K7.out, I.out.k2⟩ ?_
  intro hS
  refine take_ (i := 0) (N := some 35) (v := .agg ds2) #[true, false, false, false, false] rfl rfl (by kernel_rfl) (fun _ _ _ h => h) (Or.inl ⟨by rfl, fun w' hs => load_run 32 (.tmp 7) rfl g7 rfl 32 ds2 (0, 0) _ hs.1 Try.underlying32 rfl V0.out.sz⟩) hS rfl ?_
  refine norm_ (a' := ?_) ?_ ?_
  rotate_left
  · show Act.put _ (some 35) _ = _
    simp only [Act.put, List.setIfInBounds_toArray, List.set_cons_zero, List.set_cons_succ, i64_w, i32_w]
    rfl
  refine take_ (i := 1) (N := some 36) (v := .agg c0) #[true, true, false, false, false] rfl rfl (by kernel_rfl) (fun _ _ _ h => h) (Or.inl ⟨by rfl, fun w' hs => load_run 26 (.tmp 2) rfl b2 rfl 26 c0 (0, 0) _ hs.2 Try.underlying26 rfl Z0.out⟩) hS rfl ?_
  refine norm_ (a' := ?_) ?_ ?_
  rotate_left
  · show Act.put _ (some 36) _ = _
    simp only [Act.put, List.setIfInBounds_toArray, List.set_cons_zero, List.set_cons_succ, i64_w, i32_w]
    rfl
  clear hS
  refine one_ (i := 2) (N := some 37) #[true, true, true, false, false] rfl rfl (by kernel_rfl) (by decide) (fun K hK => ?_)
  refine goes_ Try.func7 (by kernel_rfl) rfl #[.agg c0] (by first | rfl | (go_simp; done)) rfl rfl (by (try simp only [List.map_toArray, List.map_cons, List.map_nil]); first | done | rfl) ?_
  refine (to_o k x0 u0 c0 _ (X0.out.below I.out.hb) A9.out).mono ?_
  rintro e wq ⟨du, rfl, hm, hb⟩
  refine ⟨_, rfl, ?_⟩
  have U := Aside0.mk hm
  clear hm
  have I_ := Aside0.mk (I.out.step hb)
  have K7_ := Aside0.mk (blk_below K7.out hb)
  have K8_ := Aside0.mk (blk_below K8.out hb)
  have V0_ := Aside0.mk (V0.out.below hb)
  have V1_ := Aside0.mk (V1.out.below hb)
  clear hb I K7 K8 V0 V1
  have I := I_
  have K7 := K7_
  have K8 := K8_
  have V0 := V0_
  have V1 := V1_
  clear I_ K7_ K8_ V0_ V1_
  refine hK.out _ _ ⟨K7.out, I.out.k2⟩ (fun hS => ?_)
  clear hK K
  refine norm_ (a' := ?_) ?_ ?_
  rotate_left
  · show Act.put _ (some 37) _ = _
    simp only [Act.put, List.setIfInBounds_toArray, List.set_cons_zero, List.set_cons_succ, i64_w, i32_w]
    rfl
  clear hS
  refine one_ (i := 3) (N := some 38) #[true, true, true, true, false] rfl rfl (by kernel_rfl) (by decide) (fun K hK => ?_)
  refine goes_ Try.func9 (by kernel_rfl) rfl #[.agg ds2, .agg du] (by first | rfl | (go_simp; done)) rfl rfl (by (try simp only [List.map_toArray, List.map_cons, List.map_nil]); first | done | rfl) ?_
  refine (eq_o k z0 u0 p0 ds2 du _ V0.out U.out B1.out).mono ?_
  rintro e wq ⟨rfl, hb⟩
  refine ⟨_, rfl, ?_⟩
  clear U
  have I_ := Aside0.mk (I.out.step hb)
  have K7_ := Aside0.mk (blk_below K7.out hb)
  have K8_ := Aside0.mk (blk_below K8.out hb)
  have V0_ := Aside0.mk (V0.out.below hb)
  have V1_ := Aside0.mk (V1.out.below hb)
  clear hb I K7 K8 V0 V1
  have I := I_
  have K7 := K7_
  have K8 := K8_
  have V0 := V0_
  have V1 := V1_
  clear I_ K7_ K8_ V0_ V1_
  refine hK.out _ _ ⟨K7.out, I.out.k2⟩ (fun hS => ?_)
  clear hK K
  refine norm_ (a' := ?_) ?_ ?_
  rotate_left
  · show Act.put _ (some 38) _ = _
    simp only [Act.put, List.setIfInBounds_toArray, List.set_cons_zero, List.set_cons_succ, i64_w, i32_w]
    rfl
  clear hS
  refine pure_ (i := 4) (N := some 39) (v := .bool (!p0)) #[true, true, true, true, true] rfl rfl (by kernel_rfl) (fun _ _ _ h => h) (Or.inl ⟨by rfl, fun w' => by go_simp⟩) rfl ?_
  refine norm_ (a' := ?_) ?_ ?_
  rotate_left
  · show Act.put _ (some 39) _ = _
    simp only [Act.put, List.setIfInBounds_toArray, List.set_cons_zero, List.set_cons_succ, i64_w, i32_w]
    rfl
  refine done_ (by kernel_rfl) ?_
  clear qf
  have H := HH.out
  clear HH
  go_upto_if 39 with (fail)
  cases p0 with
  | false =>
    obtain rfl := Option.some.inj ((if_neg (by decide)).symm.trans H)
    go_wp2
    go_ret
    exact ⟨rfl, I.out.hb⟩
  | true =>
  replace H := (if_pos rfl).symm.trans H
  replace H := Option.bind_eq_some_iff.mp H
  obtain ⟨u1, B2_, H⟩ := H
  have B2 := Aside0.mk B2_
  clear B2_
  replace H := Option.bind_eq_some_iff.mp H
  obtain ⟨p1, B3_, H⟩ := H
  have B3 := Aside0.mk B3_
  clear B3_
  have HH := Aside0.mk H
  clear H
  go_upto_region 16 with (fail)
  have I_ := Aside0.mk I.out.drew
  clear I
  have I := I_
  clear I_
  have K8_ := Aside0.mk (blk_drew K8.out)
  clear K8
  have K8 := K8_
  clear K8_
  have V1_ := Aside0.mk (V1.out.below (below_drew1 (Below.refl _ _)))
  clear V1
  have V1 := V1_
  clear V1_
  refine start_ (n := 5) (S := (fun w' => w'.heap[g8]? = some (.cells ds3 32 (0, 0)) ∧ w'.heap[b3]? = some (.cells c1 26 (0, 0)))) (ds := []) #[false, false, false, false, false] (by kernel_rfl) rfl rfl ⟨K8.out, I.out.k3⟩ ?_
  intro hS
  refine take_ (i := 0) (N := some 40) (v := .agg ds3) #[true, false, false, false, false] rfl rfl (by kernel_rfl) (fun _ _ _ h => h) (Or.inl ⟨by rfl, fun w' hs => load_run 32 (.tmp 8) rfl g8 rfl 32 ds3 (0, 0) _ hs.1 Try.underlying32 rfl V1.out.sz⟩) hS rfl ?_
  refine norm_ (a' := ?_) ?_ ?_
  rotate_left
  · show Act.put _ (some 40) _ = _
    simp only [Act.put, List.setIfInBounds_toArray, List.set_cons_zero, List.set_cons_succ, i64_w, i32_w]
    rfl
  refine take_ (i := 1) (N := some 41) (v := .agg c1) #[true, true, false, false, false] rfl rfl (by kernel_rfl) (fun _ _ _ h => h) (Or.inl ⟨by rfl, fun w' hs => load_run 26 (.tmp 3) rfl b3 rfl 26 c1 (0, 0) _ hs.2 Try.underlying26 rfl Z1.out⟩) hS rfl ?_
  refine norm_ (a' := ?_) ?_ ?_
  rotate_left
  · show Act.put _ (some 41) _ = _
    simp only [Act.put, List.setIfInBounds_toArray, List.set_cons_zero, List.set_cons_succ, i64_w, i32_w]
    rfl
  clear hS
  refine one_ (i := 2) (N := some 42) #[true, true, true, false, false] rfl rfl (by kernel_rfl) (by decide) (fun K hK => ?_)
  refine goes_ Try.func7 (by kernel_rfl) rfl #[.agg c1] (by first | rfl | (go_simp; done)) rfl rfl (by (try simp only [List.map_toArray, List.map_cons, List.map_nil]); first | done | rfl) ?_
  refine (to_o k x1 u1 c1 _ (X1.out.below I.out.hb) B2.out).mono ?_
  rintro e wq ⟨du, rfl, hm, hb⟩
  refine ⟨_, rfl, ?_⟩
  have U := Aside0.mk hm
  clear hm
  have I_ := Aside0.mk (I.out.step hb)
  have K8_ := Aside0.mk (blk_below K8.out hb)
  have V1_ := Aside0.mk (V1.out.below hb)
  clear hb I K8 V1
  have I := I_
  have K8 := K8_
  have V1 := V1_
  clear I_ K8_ V1_
  refine hK.out _ _ ⟨K8.out, I.out.k3⟩ (fun hS => ?_)
  clear hK K
  refine norm_ (a' := ?_) ?_ ?_
  rotate_left
  · show Act.put _ (some 42) _ = _
    simp only [Act.put, List.setIfInBounds_toArray, List.set_cons_zero, List.set_cons_succ, i64_w, i32_w]
    rfl
  clear hS
  refine one_ (i := 3) (N := some 43) #[true, true, true, true, false] rfl rfl (by kernel_rfl) (by decide) (fun K hK => ?_)
  refine goes_ Try.func9 (by kernel_rfl) rfl #[.agg ds3, .agg du] (by first | rfl | (go_simp; done)) rfl rfl (by (try simp only [List.map_toArray, List.map_cons, List.map_nil]); first | done | rfl) ?_
  refine (eq_o k z1 u1 p1 ds3 du _ V1.out U.out B3.out).mono ?_
  rintro e wq ⟨rfl, hb⟩
  refine ⟨_, rfl, ?_⟩
  clear U
  have I_ := Aside0.mk (I.out.step hb)
  have K8_ := Aside0.mk (blk_below K8.out hb)
  have V1_ := Aside0.mk (V1.out.below hb)
  clear hb I K8 V1
  have I := I_
  have K8 := K8_
  have V1 := V1_
  clear I_ K8_ V1_
  refine hK.out _ _ ⟨K8.out, I.out.k3⟩ (fun hS => ?_)
  clear hK K
  refine norm_ (a' := ?_) ?_ ?_
  rotate_left
  · show Act.put _ (some 43) _ = _
    simp only [Act.put, List.setIfInBounds_toArray, List.set_cons_zero, List.set_cons_succ, i64_w, i32_w]
    rfl
  clear hS
  refine pure_ (i := 4) (N := some 44) (v := .bool (!p1)) #[true, true, true, true, true] rfl rfl (by kernel_rfl) (fun _ _ _ h => h) (Or.inl ⟨by rfl, fun w' => by go_simp⟩) rfl ?_
  refine norm_ (a' := ?_) ?_ ?_
  rotate_left
  · show Act.put _ (some 44) _ = _
    simp only [Act.put, List.setIfInBounds_toArray, List.set_cons_zero, List.set_cons_succ, i64_w, i32_w]
    rfl
  refine done_ (by kernel_rfl) ?_
  have H := HH.out
  clear HH
  go_upto_if 44 with (fail)
  cases p1 with
  | false =>
    obtain rfl := Option.some.inj ((if_neg (by decide)).symm.trans H)
    go_wp2
    go_ret
    exact ⟨rfl, I.out.hb⟩
  | true =>
    obtain rfl := Option.some.inj ((if_pos rfl).symm.trans H)
    go_wp2
    go_ret
    exact ⟨rfl, I.out.hb⟩
theorem laws_FnExactMsgSame.calls (k : Nat) (a0_0 : Int) (a0_1 : Int) (a0_2 : Int) (a0_3 : Int) (a0_4 : Int) (a0_5 : Int) (a0_6 : Bool) (a0_7 : Int) (a0_8 : Int) (a0_9 : ByteArray) (a0_10 : Int) (a0_11 : Int) (a0_12 : Int) (a0_13 : Int) (a0_14 : ByteArray) (A0_15 : Option Addr) (c0_15 : Nat) (l0_15 : List (S53)) (a1_0 : Int) (a1_1 : Int) (a1_2 : Int) (a1_3 : Int) (a1_4 : Int) (a1_5 : Int) (a1_6 : Bool) (a1_7 : Int) (a1_8 : Int) (a1_9 : ByteArray) (a1_10 : Int) (a1_11 : Int) (a1_12 : Int) (a1_13 : Int) (a1_14 : ByteArray) (A1_15 : Option Addr) (c1_15 : Nat) (l1_15 : List (S53)) (r : Bool) (w : World) (hr0_15 : Kd.C k53 w A0_15 l0_15.length l0_15) (hc0_15 : l0_15.length ≤ c0_15) (hr1_15 : Kd.C k53 w A1_15 l1_15.length l1_15) (hc1_15 : l1_15.length ≤ c1_15) (h : laws_FnExactMsgSame.f k a0_0 a0_1 a0_2 a0_3 a0_4 a0_5 a0_6 a0_7 a0_8 a0_9 a0_10 a0_11 a0_12 a0_13 a0_14 l0_15 a1_0 a1_1 a1_2 a1_3 a1_4 a1_5 a1_6 a1_7 a1_8 a1_9 a1_10 a1_11 a1_12 a1_13 a1_14 l1_15 = some r) :
  Calls Try.prog 3 #[.agg #[.int .i64 a0_0, .int .i64 a0_1, .int .i64 a0_2, .int .i64 a0_3, .int .i64 a0_4, .int .i64 a0_5, .bool a0_6, .int .i64 a0_7, .int .i64 a0_8, .string a0_9, .int .i64 a0_10, .int .i64 a0_11, .int .i64 a0_12, .int .i64 a0_13, .string a0_14, .slice A0_15 l0_15.length c0_15], .agg #[.int .i64 a1_0, .int .i64 a1_1, .int .i64 a1_2, .int .i64 a1_3, .int .i64 a1_4, .int .i64 a1_5, .bool a1_6, .int .i64 a1_7, .int .i64 a1_8, .string a1_9, .int .i64 a1_10, .int .i64 a1_11, .int .i64 a1_12, .int .i64 a1_13, .string a1_14, .slice A1_15 l1_15.length c1_15]] w fun e w' => e = .returned (.bool r) ∧ Below w.heap.size w w' := by
  exact law_o k (a0_0, a0_1, a0_2, a0_3, a0_4, a0_5, a0_6, a0_7, a0_8, a0_9, a0_10, a0_11, a0_12, a0_13, a0_14, l0_15) (a1_0, a1_1, a1_2, a1_3, a1_4, a1_5, a1_6, a1_7, a1_8, a1_9, a1_10, a1_11, a1_12, a1_13, a1_14, l1_15) _ _ r w ⟨A0_15, c0_15, rfl, hc0_15, hr0_15⟩ ⟨A1_15, c1_15, rfl, hc1_15, hr1_15⟩ h

end Go.Proofs.Ytngilepbpfdigaa.QFnExactMsgSame
