/-
  No cell of these rows narrows 'for every input' (looked for: loops, veiled, ifaces, maps, wideKeys, modest, calm, conditions, laid).
  DERIVED. THE GIVEN ROWS OF THIS SEAT. 2 by the template 'for every input the law returns true; each argument reads behind the call as it read before'; 0 by the template 'total and deterministic' (their statements: YtdpcdcogbmkffaaTotals.lean).
  GIVEN WITH THE SEED: the statements are not yours to turn. If you find one false, say at which input.
  Laid BY PROGRAM, IN A SANDBOX (cutbox-rows.mjs): the forced cells as the released guide's own fill.sh prints them over the translation 2a8230c6bad1fb4d… (all of the seat's roots in one cut). By AI agents, Wed Nov 11 2026. No macro, syntax, notation, axiom, sorry.
-/
import Derived.Test.YtdpcdcogbmkffaaChecked
import GoSem.Claim
import GoSem.ClaimJoined
import GoSem.ClaimMapViews
import Derived.JoinedTies
import Derived.KernelRfl
namespace Go.Proofs.Ytdpcdcogbmkffaa
/- THE CELL 'sum', in the pinned program and in every row, IS THE sha256 OF THE DUMP (.gsa) THAT YtdpcdcogbmkffaaProg.lean LOADS. Nothing in Lean hashes anything: it is a label: what it is worth is what the hold of that sum in a sandbox is worth. -/
noncomputable def Try.pinned : Pinned := { name := "ytdpcdcogbmkffaa", sum := "2a8230c6bad1fb4d93e73173b002046d193769256c6606523ab7e9ac26ddc86a", checked := Try.checked }
namespace Rows
def none {H : Type} : Left H := { results := [], args := [] }

/-- 'laws.FnExactParcelWhole': WHATEVER THE INPUT: true; the input reads as it did. -/
def fnExactParcelWholeSpec : ChangeSpec := { name := "fnExactParcelWhole", fn := fun _ => fun
  | [d] => { results := [.lit (.bool true)], args := [d] }
  | _ => none }
def fnExactParcelWholeRow : OpenClaim := { program := "ytdpcdcogbmkffaa", sum := "2a8230c6bad1fb4d93e73173b002046d193769256c6606523ab7e9ac26ddc86a", func := "loop.example/g00106/laws.FnExactParcelWhole", spec := "fnExactParcelWhole", inPlace := ["internal/abi.NoEscape", "internal/bytealg.MakeNoZero"], apart := false }
def FnExactParcelWholeSaid : Prop := fnExactParcelWholeRow.holds Try.pinned (OpenSpec.ofChange fnExactParcelWholeSpec)

/-- ITS FALSE NEIGHBOUR: 'it returns false'. Refute it at one input. -/
def fnExactParcelWholeWrong : ChangeSpec := { name := "fnExactParcelWhole", fn := fun _ => fun
  | [d] => { results := [.lit (.bool false)], args := [d] }
  | _ => none }
def FnExactParcelWholeWrongFalsely : Prop := fnExactParcelWholeRow.holds Try.pinned (OpenSpec.ofChange fnExactParcelWholeWrong)

/-- 'laws.FnParcel': WHATEVER THE INPUT: true; the input reads as it did. -/
def fnParcelSpec : ChangeSpec := { name := "fnParcel", fn := fun _ => fun
  | [d] => { results := [.lit (.bool true)], args := [d] }
  | _ => none }
def fnParcelRow : OpenClaim := { program := "ytdpcdcogbmkffaa", sum := "2a8230c6bad1fb4d93e73173b002046d193769256c6606523ab7e9ac26ddc86a", func := "loop.example/g00106/laws.FnParcel", spec := "fnParcel", inPlace := ["internal/abi.NoEscape", "internal/bytealg.MakeNoZero"], recurses := true, apart := false }
def FnParcelSaid : Prop := fnParcelRow.holds Try.pinned (OpenSpec.ofChange fnParcelSpec)

/-- ITS FALSE NEIGHBOUR: 'it returns false'. Refute it at one input. -/
def fnParcelWrong : ChangeSpec := { name := "fnParcel", fn := fun _ => fun
  | [d] => { results := [.lit (.bool false)], args := [d] }
  | _ => none }
def FnParcelWrongFalsely : Prop := fnParcelRow.holds Try.pinned (OpenSpec.ofChange fnParcelWrong)

/- THE SECOND FORM. 'bulk': how many values and letters a reading holds, each counted each time it is reached (what is shared counts as often as it is met; a slice's spare places count too). A statement '..UptoSaid' is the law's where the arguments, and the package variables that the reading takes, are together of bulk at most 1048576: NARROWER than '..Said'. Prove '..Said' where nothing that the law and all that it calls make is longer than what came in: it says more and counts as full. Else prove '..UptoSaid'. A law counts once. -/
mutual
def uptoBulk {H : Type} : DataW H → Nat
  | .lit (.string bytes) => bytes.length + 1
  | .lit _ => 1
  | .nil => 1
  | .ptr d => uptoBulk d + 1
  | .slice elems spare => uptoBulkAll elems + uptoBulkAll spare + 1
  | .agg parts => uptoBulkAll parts + 1
  | .iface _ d => uptoBulk d + 1
  | .map entries => uptoBulkEntries entries + 1
  | .held _ => 1
def uptoBulkAll {H : Type} : List (DataW H) → Nat
  | [] => 0
  | d :: r => uptoBulk d + uptoBulkAll r
def uptoBulkEntries {H : Type} : List (Lit × DataW H) → Nat
  | [] => 0
  | x :: r => uptoBulkEntry x + uptoBulkEntries r
def uptoBulkEntry {H : Type} : Lit × DataW H → Nat
  | (.string bytes, d) => bytes.length + uptoBulk d + 1
  | (_, d) => uptoBulk d + 1
 end
def uptoSmall : (H : Type) → List (DataW H) → Bool := fun _ ds => decide (uptoBulkAll ds ≤ 1048576)
def OpenSpec.upto (s : _root_.Go.ChangeSpec) : _root_.Go.OpenSpec := { _root_.Go.OpenSpec.ofChange s with cond := some uptoSmall }

/-- 'laws.FnExactParcelWhole', WHERE WHAT IT READS IS OF BULK AT MOST 1048576: true; the input reads as it did. -/
def fnExactParcelWholeUptoRow : OpenClaim := { program := "ytdpcdcogbmkffaa", sum := "2a8230c6bad1fb4d93e73173b002046d193769256c6606523ab7e9ac26ddc86a", func := "loop.example/g00106/laws.FnExactParcelWhole", spec := "fnExactParcelWhole", inPlace := ["internal/abi.NoEscape", "internal/bytealg.MakeNoZero"], apart := false, narrowed := true }
def FnExactParcelWholeUptoSaid : Prop := fnExactParcelWholeUptoRow.holds Try.pinned (OpenSpec.upto fnExactParcelWholeSpec)

/-- 'laws.FnParcel', WHERE WHAT IT READS IS OF BULK AT MOST 1048576: true; the input reads as it did. -/
def fnParcelUptoRow : OpenClaim := { program := "ytdpcdcogbmkffaa", sum := "2a8230c6bad1fb4d93e73173b002046d193769256c6606523ab7e9ac26ddc86a", func := "loop.example/g00106/laws.FnParcel", spec := "fnParcel", inPlace := ["internal/abi.NoEscape", "internal/bytealg.MakeNoZero"], recurses := true, apart := false, narrowed := true }
def FnParcelUptoSaid : Prop := fnParcelUptoRow.holds Try.pinned (OpenSpec.upto fnParcelSpec)

end Rows
end Go.Proofs.Ytdpcdcogbmkffaa
