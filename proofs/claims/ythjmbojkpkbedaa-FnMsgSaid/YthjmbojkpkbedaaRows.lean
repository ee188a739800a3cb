/-
  No cell of these rows narrows 'for every input' (looked for: loops, veiled, ifaces, maps, wideKeys, modest, calm, conditions, laid).
  DERIVED. THE GIVEN ROWS OF THIS SEAT. 3 by the template 'for every input the law returns true; each argument reads behind the call as it read before'; 0 by the template 'total and deterministic' (their statements: YthjmbojkpkbedaaTotals.lean).
  GIVEN WITH THE SEED: the statements are not yours to turn. If you find one false, say at which input.
  Laid BY PROGRAM, IN A SANDBOX (cutbox-rows.mjs): the forced cells as the released guide's own fill.sh prints them over the translation 109edbc5cbf4d75e… (all of the seat's roots in one cut). By AI agents, Wed Nov 11 2026. No macro, syntax, notation, axiom, sorry.
-/
import Derived.Test.YthjmbojkpkbedaaChecked
import GoSem.Claim
import GoSem.ClaimJoined
import GoSem.ClaimMapViews
import Derived.JoinedTies
import Derived.KernelRfl
namespace Go.Proofs.Ythjmbojkpkbedaa
/- THE CELL 'sum', in the pinned program and in every row, IS THE sha256 OF THE DUMP (.gsa) THAT YthjmbojkpkbedaaProg.lean LOADS. Nothing in Lean hashes anything: it is a label: what it is worth is what the hold of that sum in a sandbox is worth. -/
noncomputable def Try.pinned : Pinned := { name := "ythjmbojkpkbedaa", sum := "109edbc5cbf4d75ed8db88bddccfb267ec5e7f53976eef61d1d17e55e8c9a363", checked := Try.checked }
namespace Rows
def none {H : Type} : Left H := { results := [], args := [] }

/-- 'laws.FnExactMsgPack': WHATEVER THE INPUT: true; the input reads as it did. -/
def fnExactMsgPackSpec : ChangeSpec := { name := "fnExactMsgPack", fn := fun _ => fun
  | [d] => { results := [.lit (.bool true)], args := [d] }
  | _ => none }
def fnExactMsgPackRow : OpenClaim := { program := "ythjmbojkpkbedaa", sum := "109edbc5cbf4d75ed8db88bddccfb267ec5e7f53976eef61d1d17e55e8c9a363", func := "loop.example/g00106/laws.FnExactMsgPack", spec := "fnExactMsgPack", apart := false }
def FnExactMsgPackSaid : Prop := fnExactMsgPackRow.holds Try.pinned (OpenSpec.ofChange fnExactMsgPackSpec)

/-- ITS FALSE NEIGHBOUR: 'it returns false'. Refute it at one input. -/
def fnExactMsgPackWrong : ChangeSpec := { name := "fnExactMsgPack", fn := fun _ => fun
  | [d] => { results := [.lit (.bool false)], args := [d] }
  | _ => none }
def FnExactMsgPackWrongFalsely : Prop := fnExactMsgPackRow.holds Try.pinned (OpenSpec.ofChange fnExactMsgPackWrong)

/-- 'laws.FnExactMsgRead': WHATEVER THE INPUT: true; the input reads as it did. -/
def fnExactMsgReadSpec : ChangeSpec := { name := "fnExactMsgRead", fn := fun _ => fun
  | [d] => { results := [.lit (.bool true)], args := [d] }
  | _ => none }
def fnExactMsgReadRow : OpenClaim := { program := "ythjmbojkpkbedaa", sum := "109edbc5cbf4d75ed8db88bddccfb267ec5e7f53976eef61d1d17e55e8c9a363", func := "loop.example/g00106/laws.FnExactMsgRead", spec := "fnExactMsgRead", apart := false }
def FnExactMsgReadSaid : Prop := fnExactMsgReadRow.holds Try.pinned (OpenSpec.ofChange fnExactMsgReadSpec)

/-- ITS FALSE NEIGHBOUR: 'it returns false'. Refute it at one input. -/
def fnExactMsgReadWrong : ChangeSpec := { name := "fnExactMsgRead", fn := fun _ => fun
  | [d] => { results := [.lit (.bool false)], args := [d] }
  | _ => none }
def FnExactMsgReadWrongFalsely : Prop := fnExactMsgReadRow.holds Try.pinned (OpenSpec.ofChange fnExactMsgReadWrong)

/-- 'laws.FnMsg': WHATEVER THE INPUT: true; the input reads as it did. -/
def fnMsgSpec : ChangeSpec := { name := "fnMsg", fn := fun _ => fun
  | [d] => { results := [.lit (.bool true)], args := [d] }
  | _ => none }
def fnMsgRow : OpenClaim := { program := "ythjmbojkpkbedaa", sum := "109edbc5cbf4d75ed8db88bddccfb267ec5e7f53976eef61d1d17e55e8c9a363", func := "loop.example/g00106/laws.FnMsg", spec := "fnMsg", apart := false }
def FnMsgSaid : Prop := fnMsgRow.holds Try.pinned (OpenSpec.ofChange fnMsgSpec)

/-- ITS FALSE NEIGHBOUR: 'it returns false'. Refute it at one input. -/
def fnMsgWrong : ChangeSpec := { name := "fnMsg", fn := fun _ => fun
  | [d] => { results := [.lit (.bool false)], args := [d] }
  | _ => none }
def FnMsgWrongFalsely : Prop := fnMsgRow.holds Try.pinned (OpenSpec.ofChange fnMsgWrong)

/- THE SECOND FORM. 'bulk': how many values and letters a reading holds, each counted each time it is reached (what is shared counts as often as it is met; a slice's spare places count too). A statement '..UptoSaid' is the law's where the arguments, and the package variables that the reading takes, are together of bulk at most 1048576: NARROWER than '..Said'. Prove '..Said' where nothing that the law and all that it calls make is longer than what came in: it says more and counts as full. Else prove '..UptoSaid'. A law counts once. -/
mutual
def uptoBulk {H : Type} : DataW H → Nat
  | .lit (.string bytes) => bytes.length + 1
  | .lit _ => 1
  | .nil => 1
  | .ptr d => uptoBulk d + 1
  | .slice elems spare => uptoBulkAll elems + uptoBulkAll spare + 1
  | .agg parts => uptoBulkAll parts + 1
  | .iface _ d => uptoBulk d + 1
  | .map entries => uptoBulkEntries entries + 1
  | .held _ => 1
def uptoBulkAll {H : Type} : List (DataW H) → Nat
  | [] => 0
  | d :: r => uptoBulk d + uptoBulkAll r
def uptoBulkEntries {H : Type} : List (Lit × DataW H) → Nat
  | [] => 0
  | x :: r => uptoBulkEntry x + uptoBulkEntries r
def uptoBulkEntry {H : Type} : Lit × DataW H → Nat
  | (.string bytes, d) => bytes.length + uptoBulk d + 1
  | (_, d) => uptoBulk d + 1
 end
def uptoSmall : (H : Type) → List (DataW H) → Bool := fun _ ds => decide (uptoBulkAll ds ≤ 1048576)
def OpenSpec.upto (s : _root_.Go.ChangeSpec) : _root_.Go.OpenSpec := { _root_.Go.OpenSpec.ofChange s with cond := some uptoSmall }

/-- 'laws.FnExactMsgPack', WHERE WHAT IT READS IS OF BULK AT MOST 1048576: true; the input reads as it did. -/
def fnExactMsgPackUptoRow : OpenClaim := { program := "ythjmbojkpkbedaa", sum := "109edbc5cbf4d75ed8db88bddccfb267ec5e7f53976eef61d1d17e55e8c9a363", func := "loop.example/g00106/laws.FnExactMsgPack", spec := "fnExactMsgPack", apart := false, narrowed := true }
def FnExactMsgPackUptoSaid : Prop := fnExactMsgPackUptoRow.holds Try.pinned (OpenSpec.upto fnExactMsgPackSpec)

/-- 'laws.FnExactMsgRead', WHERE WHAT IT READS IS OF BULK AT MOST 1048576: true; the input reads as it did. -/
def fnExactMsgReadUptoRow : OpenClaim := { program := "ythjmbojkpkbedaa", sum := "109edbc5cbf4d75ed8db88bddccfb267ec5e7f53976eef61d1d17e55e8c9a363", func := "loop.example/g00106/laws.FnExactMsgRead", spec := "fnExactMsgRead", apart := false, narrowed := true }
def FnExactMsgReadUptoSaid : Prop := fnExactMsgReadUptoRow.holds Try.pinned (OpenSpec.upto fnExactMsgReadSpec)

/-- 'laws.FnMsg', WHERE WHAT IT READS IS OF BULK AT MOST 1048576: true; the input reads as it did. -/
def fnMsgUptoRow : OpenClaim := { program := "ythjmbojkpkbedaa", sum := "109edbc5cbf4d75ed8db88bddccfb267ec5e7f53976eef61d1d17e55e8c9a363", func := "loop.example/g00106/laws.FnMsg", spec := "fnMsg", apart := false, narrowed := true }
def FnMsgUptoSaid : Prop := fnMsgUptoRow.holds Try.pinned (OpenSpec.upto fnMsgSpec)

end Rows
end Go.Proofs.Ythjmbojkpkbedaa
