/-
  No cell of these rows narrows 'for every input' (looked for: loops, veiled, ifaces, maps, wideKeys, modest, calm, conditions, laid).
  DERIVED. THE GIVEN ROWS OF THIS SEAT. 8 by the template 'for every input the law returns true; each argument reads behind the call as it read before'; 0 by the template 'total and deterministic' (their statements: YtlmadhahghiedaaGreatTotals.lean).
  GIVEN WITH THE SEED: the statements are not yours to turn. If you find one false, say at which input.
  Laid BY PROGRAM, IN A SANDBOX (cutbox-rows.mjs): the forced cells as the released guide's own fill.sh prints them over the translation be08843bbc815e24… (all of the seat's roots in one cut). By AI agents, Wed Nov 11 2026. No macro, syntax, notation, axiom, sorry.
-/
import Derived.Test.YtlmadhahghiedaaGreatChecked
import GoSem.Claim
import GoSem.ClaimJoined
import GoSem.ClaimMapViews
import Derived.JoinedTies
import Derived.KernelRfl
namespace Go.Proofs.YtlmadhahghiedaaGreat
/- THE CELL 'sum', in the pinned program and in every row, IS THE sha256 OF THE DUMP (.gsa) THAT YtlmadhahghiedaaGreatProg.lean LOADS. Nothing in Lean hashes anything: it is a label: what it is worth is what the hold of that sum in a sandbox is worth. -/
noncomputable def Tryz.pinned : Pinned := { name := "ytlmadhahghiedaagreat", sum := "be08843bbc815e24f6bc7a0220dab0d886e4a5dbf13473b9313739c52a8a1d05", checked := Tryz.checked }
namespace Rows
def none {H : Type} : Left H := { results := [], args := [] }

/-- 'laws.FnRecsTell': WHATEVER THE INPUT: true; the input reads as it did. -/
def fnRecsTellSpec : ChangeSpec := { name := "fnRecsTell", fn := fun _ => fun
  | [d] => { results := [.lit (.bool true)], args := [d] }
  | _ => none }
def fnRecsTellRow : OpenClaim := { program := "ytlmadhahghiedaagreat", sum := "be08843bbc815e24f6bc7a0220dab0d886e4a5dbf13473b9313739c52a8a1d05", func := "loop.example/g00106/laws.FnRecsTell", spec := "fnRecsTell", recurses := true, apart := false }
def FnRecsTellSaid : Prop := fnRecsTellRow.holds Tryz.pinned (OpenSpec.ofChange fnRecsTellSpec)

/-- ITS FALSE NEIGHBOUR: 'it returns false'. Refute it at one input. -/
def fnRecsTellWrong : ChangeSpec := { name := "fnRecsTell", fn := fun _ => fun
  | [d] => { results := [.lit (.bool false)], args := [d] }
  | _ => none }
def FnRecsTellWrongFalsely : Prop := fnRecsTellRow.holds Tryz.pinned (OpenSpec.ofChange fnRecsTellWrong)

/-- 'laws.FnSent': WHATEVER THE INPUT: true; the input reads as it did. -/
def fnSentSpec : ChangeSpec := { name := "fnSent", fn := fun _ => fun
  | [d] => { results := [.lit (.bool true)], args := [d] }
  | _ => none }
def fnSentRow : OpenClaim := { program := "ytlmadhahghiedaagreat", sum := "be08843bbc815e24f6bc7a0220dab0d886e4a5dbf13473b9313739c52a8a1d05", func := "loop.example/g00106/laws.FnSent", spec := "fnSent", apart := false }
def FnSentSaid : Prop := fnSentRow.holds Tryz.pinned (OpenSpec.ofChange fnSentSpec)

/-- ITS FALSE NEIGHBOUR: 'it returns false'. Refute it at one input. -/
def fnSentWrong : ChangeSpec := { name := "fnSent", fn := fun _ => fun
  | [d] => { results := [.lit (.bool false)], args := [d] }
  | _ => none }
def FnSentWrongFalsely : Prop := fnSentRow.holds Tryz.pinned (OpenSpec.ofChange fnSentWrong)

/-- 'laws.FnStands': WHATEVER THE INPUT: true; the input reads as it did. -/
def fnStandsSpec : ChangeSpec := { name := "fnStands", fn := fun _ => fun
  | [d] => { results := [.lit (.bool true)], args := [d] }
  | _ => none }
def fnStandsRow : OpenClaim := { program := "ytlmadhahghiedaagreat", sum := "be08843bbc815e24f6bc7a0220dab0d886e4a5dbf13473b9313739c52a8a1d05", func := "loop.example/g00106/laws.FnStands", spec := "fnStands", apart := false }
def FnStandsSaid : Prop := fnStandsRow.holds Tryz.pinned (OpenSpec.ofChange fnStandsSpec)

/-- ITS FALSE NEIGHBOUR: 'it returns false'. Refute it at one input. -/
def fnStandsWrong : ChangeSpec := { name := "fnStands", fn := fun _ => fun
  | [d] => { results := [.lit (.bool false)], args := [d] }
  | _ => none }
def FnStandsWrongFalsely : Prop := fnStandsRow.holds Tryz.pinned (OpenSpec.ofChange fnStandsWrong)

/-- 'laws.FnGot': WHATEVER THE INPUT: true; the input reads as it did. -/
def fnGotSpec : ChangeSpec := { name := "fnGot", fn := fun _ => fun
  | [d] => { results := [.lit (.bool true)], args := [d] }
  | _ => none }
def fnGotRow : OpenClaim := { program := "ytlmadhahghiedaagreat", sum := "be08843bbc815e24f6bc7a0220dab0d886e4a5dbf13473b9313739c52a8a1d05", func := "loop.example/g00106/laws.FnGot", spec := "fnGot", apart := false }
def FnGotSaid : Prop := fnGotRow.holds Tryz.pinned (OpenSpec.ofChange fnGotSpec)

/-- ITS FALSE NEIGHBOUR: 'it returns false'. Refute it at one input. -/
def fnGotWrong : ChangeSpec := { name := "fnGot", fn := fun _ => fun
  | [d] => { results := [.lit (.bool false)], args := [d] }
  | _ => none }
def FnGotWrongFalsely : Prop := fnGotRow.holds Tryz.pinned (OpenSpec.ofChange fnGotWrong)

/-- 'laws.FnOneVote': WHATEVER THE INPUT: true; the input reads as it did. -/
def fnOneVoteSpec : ChangeSpec := { name := "fnOneVote", fn := fun _ => fun
  | [d] => { results := [.lit (.bool true)], args := [d] }
  | _ => none }
def fnOneVoteRow : OpenClaim := { program := "ytlmadhahghiedaagreat", sum := "be08843bbc815e24f6bc7a0220dab0d886e4a5dbf13473b9313739c52a8a1d05", func := "loop.example/g00106/laws.FnOneVote", spec := "fnOneVote", apart := false }
def FnOneVoteSaid : Prop := fnOneVoteRow.holds Tryz.pinned (OpenSpec.ofChange fnOneVoteSpec)

/-- ITS FALSE NEIGHBOUR: 'it returns false'. Refute it at one input. -/
def fnOneVoteWrong : ChangeSpec := { name := "fnOneVote", fn := fun _ => fun
  | [d] => { results := [.lit (.bool false)], args := [d] }
  | _ => none }
def FnOneVoteWrongFalsely : Prop := fnOneVoteRow.holds Tryz.pinned (OpenSpec.ofChange fnOneVoteWrong)

/-- 'laws.FnExactOnGot': WHATEVER THE INPUT: true; the input reads as it did. -/
def fnExactOnGotSpec : ChangeSpec := { name := "fnExactOnGot", fn := fun _ => fun
  | [d1, d2] => { results := [.lit (.bool true)], args := [d1, d2] }
  | _ => none }
def fnExactOnGotRow : OpenClaim := { program := "ytlmadhahghiedaagreat", sum := "be08843bbc815e24f6bc7a0220dab0d886e4a5dbf13473b9313739c52a8a1d05", func := "loop.example/g00106/laws.FnExactOnGot", spec := "fnExactOnGot", apart := false }
def FnExactOnGotSaid : Prop := fnExactOnGotRow.holds Tryz.pinned (OpenSpec.ofChange fnExactOnGotSpec)

/-- ITS FALSE NEIGHBOUR: 'it returns false'. Refute it at one input. -/
def fnExactOnGotWrong : ChangeSpec := { name := "fnExactOnGot", fn := fun _ => fun
  | [d1, d2] => { results := [.lit (.bool false)], args := [d1, d2] }
  | _ => none }
def FnExactOnGotWrongFalsely : Prop := fnExactOnGotRow.holds Tryz.pinned (OpenSpec.ofChange fnExactOnGotWrong)

/-- 'laws.FnExactOnSend': WHATEVER THE INPUT: true; the input reads as it did. -/
def fnExactOnSendSpec : ChangeSpec := { name := "fnExactOnSend", fn := fun _ => fun
  | [d1, d2] => { results := [.lit (.bool true)], args := [d1, d2] }
  | _ => none }
def fnExactOnSendRow : OpenClaim := { program := "ytlmadhahghiedaagreat", sum := "be08843bbc815e24f6bc7a0220dab0d886e4a5dbf13473b9313739c52a8a1d05", func := "loop.example/g00106/laws.FnExactOnSend", spec := "fnExactOnSend", apart := false }
def FnExactOnSendSaid : Prop := fnExactOnSendRow.holds Tryz.pinned (OpenSpec.ofChange fnExactOnSendSpec)

/-- ITS FALSE NEIGHBOUR: 'it returns false'. Refute it at one input. -/
def fnExactOnSendWrong : ChangeSpec := { name := "fnExactOnSend", fn := fun _ => fun
  | [d1, d2] => { results := [.lit (.bool false)], args := [d1, d2] }
  | _ => none }
def FnExactOnSendWrongFalsely : Prop := fnExactOnSendRow.holds Tryz.pinned (OpenSpec.ofChange fnExactOnSendWrong)

/-- 'laws.FnExactOnYes': WHATEVER THE INPUT: true; the input reads as it did. -/
def fnExactOnYesSpec : ChangeSpec := { name := "fnExactOnYes", fn := fun _ => fun
  | [d1, d2] => { results := [.lit (.bool true)], args := [d1, d2] }
  | _ => none }
def fnExactOnYesRow : OpenClaim := { program := "ytlmadhahghiedaagreat", sum := "be08843bbc815e24f6bc7a0220dab0d886e4a5dbf13473b9313739c52a8a1d05", func := "loop.example/g00106/laws.FnExactOnYes", spec := "fnExactOnYes", recurses := true, apart := false }
def FnExactOnYesSaid : Prop := fnExactOnYesRow.holds Tryz.pinned (OpenSpec.ofChange fnExactOnYesSpec)

/-- ITS FALSE NEIGHBOUR: 'it returns false'. Refute it at one input. -/
def fnExactOnYesWrong : ChangeSpec := { name := "fnExactOnYes", fn := fun _ => fun
  | [d1, d2] => { results := [.lit (.bool false)], args := [d1, d2] }
  | _ => none }
def FnExactOnYesWrongFalsely : Prop := fnExactOnYesRow.holds Tryz.pinned (OpenSpec.ofChange fnExactOnYesWrong)

/- THE SECOND FORM. 'bulk': how many values and letters a reading holds, each counted each time it is reached (what is shared counts as often as it is met; a slice's spare places count too). A statement '..UptoSaid' is the law's where the arguments, and the package variables that the reading takes, are together of bulk at most 1048576: NARROWER than '..Said'. Prove '..Said' where nothing that the law and all that it calls make is longer than what came in: it says more and counts as full. Else prove '..UptoSaid'. A law counts once. -/
mutual
def uptoBulk {H : Type} : DataW H → Nat
  | .lit (.string bytes) => bytes.length + 1
  | .lit _ => 1
  | .nil => 1
  | .ptr d => uptoBulk d + 1
  | .slice elems spare => uptoBulkAll elems + uptoBulkAll spare + 1
  | .agg parts => uptoBulkAll parts + 1
  | .iface _ d => uptoBulk d + 1
  | .map entries => uptoBulkEntries entries + 1
  | .held _ => 1
def uptoBulkAll {H : Type} : List (DataW H) → Nat
  | [] => 0
  | d :: r => uptoBulk d + uptoBulkAll r
def uptoBulkEntries {H : Type} : List (Lit × DataW H) → Nat
  | [] => 0
  | x :: r => uptoBulkEntry x + uptoBulkEntries r
def uptoBulkEntry {H : Type} : Lit × DataW H → Nat
  | (.string bytes, d) => bytes.length + uptoBulk d + 1
  | (_, d) => uptoBulk d + 1
 end
def uptoSmall : (H : Type) → List (DataW H) → Bool := fun _ ds => decide (uptoBulkAll ds ≤ 1048576)
def OpenSpec.upto (s : _root_.Go.ChangeSpec) : _root_.Go.OpenSpec := { _root_.Go.OpenSpec.ofChange s with cond := some uptoSmall }

/-- 'laws.FnRecsTell', WHERE WHAT IT READS IS OF BULK AT MOST 1048576: true; the input reads as it did. -/
def fnRecsTellUptoRow : OpenClaim := { program := "ytlmadhahghiedaagreat", sum := "be08843bbc815e24f6bc7a0220dab0d886e4a5dbf13473b9313739c52a8a1d05", func := "loop.example/g00106/laws.FnRecsTell", spec := "fnRecsTell", recurses := true, apart := false, narrowed := true }
def FnRecsTellUptoSaid : Prop := fnRecsTellUptoRow.holds Tryz.pinned (OpenSpec.upto fnRecsTellSpec)

/-- 'laws.FnSent', WHERE WHAT IT READS IS OF BULK AT MOST 1048576: true; the input reads as it did. -/
def fnSentUptoRow : OpenClaim := { program := "ytlmadhahghiedaagreat", sum := "be08843bbc815e24f6bc7a0220dab0d886e4a5dbf13473b9313739c52a8a1d05", func := "loop.example/g00106/laws.FnSent", spec := "fnSent", apart := false, narrowed := true }
def FnSentUptoSaid : Prop := fnSentUptoRow.holds Tryz.pinned (OpenSpec.upto fnSentSpec)

/-- 'laws.FnStands', WHERE WHAT IT READS IS OF BULK AT MOST 1048576: true; the input reads as it did. -/
def fnStandsUptoRow : OpenClaim := { program := "ytlmadhahghiedaagreat", sum := "be08843bbc815e24f6bc7a0220dab0d886e4a5dbf13473b9313739c52a8a1d05", func := "loop.example/g00106/laws.FnStands", spec := "fnStands", apart := false, narrowed := true }
def FnStandsUptoSaid : Prop := fnStandsUptoRow.holds Tryz.pinned (OpenSpec.upto fnStandsSpec)

/-- 'laws.FnGot', WHERE WHAT IT READS IS OF BULK AT MOST 1048576: true; the input reads as it did. -/
def fnGotUptoRow : OpenClaim := { program := "ytlmadhahghiedaagreat", sum := "be08843bbc815e24f6bc7a0220dab0d886e4a5dbf13473b9313739c52a8a1d05", func := "loop.example/g00106/laws.FnGot", spec := "fnGot", apart := false, narrowed := true }
def FnGotUptoSaid : Prop := fnGotUptoRow.holds Tryz.pinned (OpenSpec.upto fnGotSpec)

/-- 'laws.FnOneVote', WHERE WHAT IT READS IS OF BULK AT MOST 1048576: true; the input reads as it did. -/
def fnOneVoteUptoRow : OpenClaim := { program := "ytlmadhahghiedaagreat", sum := "be08843bbc815e24f6bc7a0220dab0d886e4a5dbf13473b9313739c52a8a1d05", func := "loop.example/g00106/laws.FnOneVote", spec := "fnOneVote", apart := false, narrowed := true }
def FnOneVoteUptoSaid : Prop := fnOneVoteUptoRow.holds Tryz.pinned (OpenSpec.upto fnOneVoteSpec)

/-- 'laws.FnExactOnGot', WHERE WHAT IT READS IS OF BULK AT MOST 1048576: true; the input reads as it did. -/
def fnExactOnGotUptoRow : OpenClaim := { program := "ytlmadhahghiedaagreat", sum := "be08843bbc815e24f6bc7a0220dab0d886e4a5dbf13473b9313739c52a8a1d05", func := "loop.example/g00106/laws.FnExactOnGot", spec := "fnExactOnGot", apart := false, narrowed := true }
def FnExactOnGotUptoSaid : Prop := fnExactOnGotUptoRow.holds Tryz.pinned (OpenSpec.upto fnExactOnGotSpec)

/-- 'laws.FnExactOnSend', WHERE WHAT IT READS IS OF BULK AT MOST 1048576: true; the input reads as it did. -/
def fnExactOnSendUptoRow : OpenClaim := { program := "ytlmadhahghiedaagreat", sum := "be08843bbc815e24f6bc7a0220dab0d886e4a5dbf13473b9313739c52a8a1d05", func := "loop.example/g00106/laws.FnExactOnSend", spec := "fnExactOnSend", apart := false, narrowed := true }
def FnExactOnSendUptoSaid : Prop := fnExactOnSendUptoRow.holds Tryz.pinned (OpenSpec.upto fnExactOnSendSpec)

/-- 'laws.FnExactOnYes', WHERE WHAT IT READS IS OF BULK AT MOST 1048576: true; the input reads as it did. -/
def fnExactOnYesUptoRow : OpenClaim := { program := "ytlmadhahghiedaagreat", sum := "be08843bbc815e24f6bc7a0220dab0d886e4a5dbf13473b9313739c52a8a1d05", func := "loop.example/g00106/laws.FnExactOnYes", spec := "fnExactOnYes", recurses := true, apart := false, narrowed := true }
def FnExactOnYesUptoSaid : Prop := fnExactOnYesUptoRow.holds Tryz.pinned (OpenSpec.upto fnExactOnYesSpec)

end Rows
end Go.Proofs.YtlmadhahghiedaaGreat
