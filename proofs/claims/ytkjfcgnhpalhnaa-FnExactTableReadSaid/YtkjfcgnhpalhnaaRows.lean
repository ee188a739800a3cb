/-
  No cell of these rows narrows 'for every input' (looked for: loops, veiled, ifaces, maps, wideKeys, modest, calm, conditions, laid).
  DERIVED. THE GIVEN ROWS OF THIS SEAT. 12 by the template 'for every input the law returns true; each argument reads behind the call as it read before'; 0 by the template 'total and deterministic' (their statements: YtkjfcgnhpalhnaaTotals.lean).
  GIVEN WITH THE SEED: the statements are not yours to turn. If you find one false, say at which input.
  Laid BY PROGRAM, IN A SANDBOX (cutbox-rows.mjs): the forced cells as the released guide's own fill.sh prints them over the translation 23b494d8a110d116… (all of the seat's roots in one cut). By AI agents, Wed Nov 11 2026. No macro, syntax, notation, axiom, sorry.
-/
import Derived.Test.YtkjfcgnhpalhnaaChecked
import GoSem.Claim
import GoSem.ClaimJoined
import GoSem.ClaimMapViews
import Derived.JoinedTies
import Derived.KernelRfl
namespace Go.Proofs.Ytkjfcgnhpalhnaa
/- THE CELL 'sum', in the pinned program and in every row, IS THE sha256 OF THE DUMP (.gsa) THAT YtkjfcgnhpalhnaaProg.lean LOADS. Nothing in Lean hashes anything: it is a label: what it is worth is what the hold of that sum in a sandbox is worth. -/
noncomputable def Try.pinned : Pinned := { name := "ytkjfcgnhpalhnaa", sum := "23b494d8a110d116d244fcc9e23e7d9ffd79f329d47050bbe5633d37002b6ea1", checked := Try.checked }
namespace Rows
def none {H : Type} : Left H := { results := [], args := [] }

/-- 'laws.FnExactPartsOf': WHATEVER THE INPUT: true; the input reads as it did. -/
def fnExactPartsOfSpec : ChangeSpec := { name := "fnExactPartsOf", fn := fun _ => fun
  | [d] => { results := [.lit (.bool true)], args := [d] }
  | _ => none }
def fnExactPartsOfRow : OpenClaim := { program := "ytkjfcgnhpalhnaa", sum := "23b494d8a110d116d244fcc9e23e7d9ffd79f329d47050bbe5633d37002b6ea1", func := "loop.example/g00106/laws.FnExactPartsOf", spec := "fnExactPartsOf", apart := false }
def FnExactPartsOfSaid : Prop := fnExactPartsOfRow.holds Try.pinned (OpenSpec.ofChange fnExactPartsOfSpec)

/-- ITS FALSE NEIGHBOUR: 'it returns false'. Refute it at one input. -/
def fnExactPartsOfWrong : ChangeSpec := { name := "fnExactPartsOf", fn := fun _ => fun
  | [d] => { results := [.lit (.bool false)], args := [d] }
  | _ => none }
def FnExactPartsOfWrongFalsely : Prop := fnExactPartsOfRow.holds Try.pinned (OpenSpec.ofChange fnExactPartsOfWrong)

/-- 'laws.FnExactPartOf': WHATEVER THE INPUT: true; the input reads as it did. -/
def fnExactPartOfSpec : ChangeSpec := { name := "fnExactPartOf", fn := fun _ => fun
  | [d1, d2] => { results := [.lit (.bool true)], args := [d1, d2] }
  | _ => none }
def fnExactPartOfRow : OpenClaim := { program := "ytkjfcgnhpalhnaa", sum := "23b494d8a110d116d244fcc9e23e7d9ffd79f329d47050bbe5633d37002b6ea1", func := "loop.example/g00106/laws.FnExactPartOf", spec := "fnExactPartOf", apart := false }
def FnExactPartOfSaid : Prop := fnExactPartOfRow.holds Try.pinned (OpenSpec.ofChange fnExactPartOfSpec)

/-- ITS FALSE NEIGHBOUR: 'it returns false'. Refute it at one input. -/
def fnExactPartOfWrong : ChangeSpec := { name := "fnExactPartOf", fn := fun _ => fun
  | [d1, d2] => { results := [.lit (.bool false)], args := [d1, d2] }
  | _ => none }
def FnExactPartOfWrongFalsely : Prop := fnExactPartOfRow.holds Try.pinned (OpenSpec.ofChange fnExactPartOfWrong)

/-- 'laws.FnSizes': WHATEVER THE INPUT: true; the input reads as it did. -/
def fnSizesSpec : ChangeSpec := { name := "fnSizes", fn := fun _ => fun
  | [d] => { results := [.lit (.bool true)], args := [d] }
  | _ => none }
def fnSizesRow : OpenClaim := { program := "ytkjfcgnhpalhnaa", sum := "23b494d8a110d116d244fcc9e23e7d9ffd79f329d47050bbe5633d37002b6ea1", func := "loop.example/g00106/laws.FnSizes", spec := "fnSizes", apart := false }
def FnSizesSaid : Prop := fnSizesRow.holds Try.pinned (OpenSpec.ofChange fnSizesSpec)

/-- ITS FALSE NEIGHBOUR: 'it returns false'. Refute it at one input. -/
def fnSizesWrong : ChangeSpec := { name := "fnSizes", fn := fun _ => fun
  | [d] => { results := [.lit (.bool false)], args := [d] }
  | _ => none }
def FnSizesWrongFalsely : Prop := fnSizesRow.holds Try.pinned (OpenSpec.ofChange fnSizesWrong)

/-- 'laws.FnExactParcelOk': WHATEVER THE INPUT: true; the input reads as it did. -/
def fnExactParcelOkSpec : ChangeSpec := { name := "fnExactParcelOk", fn := fun _ => fun
  | [d] => { results := [.lit (.bool true)], args := [d] }
  | _ => none }
def fnExactParcelOkRow : OpenClaim := { program := "ytkjfcgnhpalhnaa", sum := "23b494d8a110d116d244fcc9e23e7d9ffd79f329d47050bbe5633d37002b6ea1", func := "loop.example/g00106/laws.FnExactParcelOk", spec := "fnExactParcelOk", apart := false }
def FnExactParcelOkSaid : Prop := fnExactParcelOkRow.holds Try.pinned (OpenSpec.ofChange fnExactParcelOkSpec)

/-- ITS FALSE NEIGHBOUR: 'it returns false'. Refute it at one input. -/
def fnExactParcelOkWrong : ChangeSpec := { name := "fnExactParcelOk", fn := fun _ => fun
  | [d] => { results := [.lit (.bool false)], args := [d] }
  | _ => none }
def FnExactParcelOkWrongFalsely : Prop := fnExactParcelOkRow.holds Try.pinned (OpenSpec.ofChange fnExactParcelOkWrong)

/-- 'laws.FnExactParcelNew': WHATEVER THE INPUT: true; the input reads as it did. -/
def fnExactParcelNewSpec : ChangeSpec := { name := "fnExactParcelNew", fn := fun _ => fun
  | [d1, d2] => { results := [.lit (.bool true)], args := [d1, d2] }
  | _ => none }
def fnExactParcelNewRow : OpenClaim := { program := "ytkjfcgnhpalhnaa", sum := "23b494d8a110d116d244fcc9e23e7d9ffd79f329d47050bbe5633d37002b6ea1", func := "loop.example/g00106/laws.FnExactParcelNew", spec := "fnExactParcelNew", apart := false }
def FnExactParcelNewSaid : Prop := fnExactParcelNewRow.holds Try.pinned (OpenSpec.ofChange fnExactParcelNewSpec)

/-- ITS FALSE NEIGHBOUR: 'it returns false'. Refute it at one input. -/
def fnExactParcelNewWrong : ChangeSpec := { name := "fnExactParcelNew", fn := fun _ => fun
  | [d1, d2] => { results := [.lit (.bool false)], args := [d1, d2] }
  | _ => none }
def FnExactParcelNewWrongFalsely : Prop := fnExactParcelNewRow.holds Try.pinned (OpenSpec.ofChange fnExactParcelNewWrong)

/-- 'laws.FnExactParcelLacks': WHATEVER THE INPUT: true; the input reads as it did. -/
def fnExactParcelLacksSpec : ChangeSpec := { name := "fnExactParcelLacks", fn := fun _ => fun
  | [d] => { results := [.lit (.bool true)], args := [d] }
  | _ => none }
def fnExactParcelLacksRow : OpenClaim := { program := "ytkjfcgnhpalhnaa", sum := "23b494d8a110d116d244fcc9e23e7d9ffd79f329d47050bbe5633d37002b6ea1", func := "loop.example/g00106/laws.FnExactParcelLacks", spec := "fnExactParcelLacks", apart := false }
def FnExactParcelLacksSaid : Prop := fnExactParcelLacksRow.holds Try.pinned (OpenSpec.ofChange fnExactParcelLacksSpec)

/-- ITS FALSE NEIGHBOUR: 'it returns false'. Refute it at one input. -/
def fnExactParcelLacksWrong : ChangeSpec := { name := "fnExactParcelLacks", fn := fun _ => fun
  | [d] => { results := [.lit (.bool false)], args := [d] }
  | _ => none }
def FnExactParcelLacksWrongFalsely : Prop := fnExactParcelLacksRow.holds Try.pinned (OpenSpec.ofChange fnExactParcelLacksWrong)

/-- 'laws.FnExactParcelPut': WHATEVER THE INPUT: true; the input reads as it did. -/
def fnExactParcelPutSpec : ChangeSpec := { name := "fnExactParcelPut", fn := fun _ => fun
  | [d1, d2, d3] => { results := [.lit (.bool true)], args := [d1, d2, d3] }
  | _ => none }
def fnExactParcelPutRow : OpenClaim := { program := "ytkjfcgnhpalhnaa", sum := "23b494d8a110d116d244fcc9e23e7d9ffd79f329d47050bbe5633d37002b6ea1", func := "loop.example/g00106/laws.FnExactParcelPut", spec := "fnExactParcelPut", apart := false }
def FnExactParcelPutSaid : Prop := fnExactParcelPutRow.holds Try.pinned (OpenSpec.ofChange fnExactParcelPutSpec)

/-- ITS FALSE NEIGHBOUR: 'it returns false'. Refute it at one input. -/
def fnExactParcelPutWrong : ChangeSpec := { name := "fnExactParcelPut", fn := fun _ => fun
  | [d1, d2, d3] => { results := [.lit (.bool false)], args := [d1, d2, d3] }
  | _ => none }
def FnExactParcelPutWrongFalsely : Prop := fnExactParcelPutRow.holds Try.pinned (OpenSpec.ofChange fnExactParcelPutWrong)

/-- 'laws.FnExactTablePack': WHATEVER THE INPUT: true; the input reads as it did. -/
def fnExactTablePackSpec : ChangeSpec := { name := "fnExactTablePack", fn := fun _ => fun
  | [d] => { results := [.lit (.bool true)], args := [d] }
  | _ => none }
def fnExactTablePackRow : OpenClaim := { program := "ytkjfcgnhpalhnaa", sum := "23b494d8a110d116d244fcc9e23e7d9ffd79f329d47050bbe5633d37002b6ea1", func := "loop.example/g00106/laws.FnExactTablePack", spec := "fnExactTablePack", apart := false }
def FnExactTablePackSaid : Prop := fnExactTablePackRow.holds Try.pinned (OpenSpec.ofChange fnExactTablePackSpec)

/-- ITS FALSE NEIGHBOUR: 'it returns false'. Refute it at one input. -/
def fnExactTablePackWrong : ChangeSpec := { name := "fnExactTablePack", fn := fun _ => fun
  | [d] => { results := [.lit (.bool false)], args := [d] }
  | _ => none }
def FnExactTablePackWrongFalsely : Prop := fnExactTablePackRow.holds Try.pinned (OpenSpec.ofChange fnExactTablePackWrong)

/-- 'laws.FnExactTableRead': WHATEVER THE INPUT: true; the input reads as it did. -/
def fnExactTableReadSpec : ChangeSpec := { name := "fnExactTableRead", fn := fun _ => fun
  | [d] => { results := [.lit (.bool true)], args := [d] }
  | _ => none }
def fnExactTableReadRow : OpenClaim := { program := "ytkjfcgnhpalhnaa", sum := "23b494d8a110d116d244fcc9e23e7d9ffd79f329d47050bbe5633d37002b6ea1", func := "loop.example/g00106/laws.FnExactTableRead", spec := "fnExactTableRead", apart := false }
def FnExactTableReadSaid : Prop := fnExactTableReadRow.holds Try.pinned (OpenSpec.ofChange fnExactTableReadSpec)

/-- ITS FALSE NEIGHBOUR: 'it returns false'. Refute it at one input. -/
def fnExactTableReadWrong : ChangeSpec := { name := "fnExactTableRead", fn := fun _ => fun
  | [d] => { results := [.lit (.bool false)], args := [d] }
  | _ => none }
def FnExactTableReadWrongFalsely : Prop := fnExactTableReadRow.holds Try.pinned (OpenSpec.ofChange fnExactTableReadWrong)

/-- 'laws.FnExactTableLocal': WHATEVER THE INPUT: true; the input reads as it did. -/
def fnExactTableLocalSpec : ChangeSpec := { name := "fnExactTableLocal", fn := fun _ => fun
  | [d1, d2] => { results := [.lit (.bool true)], args := [d1, d2] }
  | _ => none }
def fnExactTableLocalRow : OpenClaim := { program := "ytkjfcgnhpalhnaa", sum := "23b494d8a110d116d244fcc9e23e7d9ffd79f329d47050bbe5633d37002b6ea1", func := "loop.example/g00106/laws.FnExactTableLocal", spec := "fnExactTableLocal", apart := false }
def FnExactTableLocalSaid : Prop := fnExactTableLocalRow.holds Try.pinned (OpenSpec.ofChange fnExactTableLocalSpec)

/-- ITS FALSE NEIGHBOUR: 'it returns false'. Refute it at one input. -/
def fnExactTableLocalWrong : ChangeSpec := { name := "fnExactTableLocal", fn := fun _ => fun
  | [d1, d2] => { results := [.lit (.bool false)], args := [d1, d2] }
  | _ => none }
def FnExactTableLocalWrongFalsely : Prop := fnExactTableLocalRow.holds Try.pinned (OpenSpec.ofChange fnExactTableLocalWrong)

/-- 'laws.FnExactParcelWhole': WHATEVER THE INPUT: true; the input reads as it did. -/
def fnExactParcelWholeSpec : ChangeSpec := { name := "fnExactParcelWhole", fn := fun _ => fun
  | [d] => { results := [.lit (.bool true)], args := [d] }
  | _ => none }
def fnExactParcelWholeRow : OpenClaim := { program := "ytkjfcgnhpalhnaa", sum := "23b494d8a110d116d244fcc9e23e7d9ffd79f329d47050bbe5633d37002b6ea1", func := "loop.example/g00106/laws.FnExactParcelWhole", spec := "fnExactParcelWhole", inPlace := ["internal/abi.NoEscape", "internal/bytealg.MakeNoZero"], apart := false }
def FnExactParcelWholeSaid : Prop := fnExactParcelWholeRow.holds Try.pinned (OpenSpec.ofChange fnExactParcelWholeSpec)

/-- ITS FALSE NEIGHBOUR: 'it returns false'. Refute it at one input. -/
def fnExactParcelWholeWrong : ChangeSpec := { name := "fnExactParcelWhole", fn := fun _ => fun
  | [d] => { results := [.lit (.bool false)], args := [d] }
  | _ => none }
def FnExactParcelWholeWrongFalsely : Prop := fnExactParcelWholeRow.holds Try.pinned (OpenSpec.ofChange fnExactParcelWholeWrong)

/-- 'laws.FnParcel': WHATEVER THE INPUT: true; the input reads as it did. -/
def fnParcelSpec : ChangeSpec := { name := "fnParcel", fn := fun _ => fun
  | [d] => { results := [.lit (.bool true)], args := [d] }
  | _ => none }
def fnParcelRow : OpenClaim := { program := "ytkjfcgnhpalhnaa", sum := "23b494d8a110d116d244fcc9e23e7d9ffd79f329d47050bbe5633d37002b6ea1", func := "loop.example/g00106/laws.FnParcel", spec := "fnParcel", inPlace := ["internal/abi.NoEscape", "internal/bytealg.MakeNoZero"], recurses := true, apart := false }
def FnParcelSaid : Prop := fnParcelRow.holds Try.pinned (OpenSpec.ofChange fnParcelSpec)

/-- ITS FALSE NEIGHBOUR: 'it returns false'. Refute it at one input. -/
def fnParcelWrong : ChangeSpec := { name := "fnParcel", fn := fun _ => fun
  | [d] => { results := [.lit (.bool false)], args := [d] }
  | _ => none }
def FnParcelWrongFalsely : Prop := fnParcelRow.holds Try.pinned (OpenSpec.ofChange fnParcelWrong)

/- THE SECOND FORM. 'bulk': how many values and letters a reading holds, each counted each time it is reached (what is shared counts as often as it is met; a slice's spare places count too). A statement '..UptoSaid' is the law's where the arguments, and the package variables that the reading takes, are together of bulk at most 1048576: NARROWER than '..Said'. Prove '..Said' where nothing that the law and all that it calls make is longer than what came in: it says more and counts as full. Else prove '..UptoSaid'. A law counts once. -/
mutual
def uptoBulk {H : Type} : DataW H → Nat
  | .lit (.string bytes) => bytes.length + 1
  | .lit _ => 1
  | .nil => 1
  | .ptr d => uptoBulk d + 1
  | .slice elems spare => uptoBulkAll elems + uptoBulkAll spare + 1
  | .agg parts => uptoBulkAll parts + 1
  | .iface _ d => uptoBulk d + 1
  | .map entries => uptoBulkEntries entries + 1
  | .held _ => 1
def uptoBulkAll {H : Type} : List (DataW H) → Nat
  | [] => 0
  | d :: r => uptoBulk d + uptoBulkAll r
def uptoBulkEntries {H : Type} : List (Lit × DataW H) → Nat
  | [] => 0
  | x :: r => uptoBulkEntry x + uptoBulkEntries r
def uptoBulkEntry {H : Type} : Lit × DataW H → Nat
  | (.string bytes, d) => bytes.length + uptoBulk d + 1
  | (_, d) => uptoBulk d + 1
 end
def uptoSmall : (H : Type) → List (DataW H) → Bool := fun _ ds => decide (uptoBulkAll ds ≤ 1048576)
def OpenSpec.upto (s : _root_.Go.ChangeSpec) : _root_.Go.OpenSpec := { _root_.Go.OpenSpec.ofChange s with cond := some uptoSmall }

/-- 'laws.FnExactPartsOf', WHERE WHAT IT READS IS OF BULK AT MOST 1048576: true; the input reads as it did. -/
def fnExactPartsOfUptoRow : OpenClaim := { program := "ytkjfcgnhpalhnaa", sum := "23b494d8a110d116d244fcc9e23e7d9ffd79f329d47050bbe5633d37002b6ea1", func := "loop.example/g00106/laws.FnExactPartsOf", spec := "fnExactPartsOf", apart := false, narrowed := true }
def FnExactPartsOfUptoSaid : Prop := fnExactPartsOfUptoRow.holds Try.pinned (OpenSpec.upto fnExactPartsOfSpec)

/-- 'laws.FnExactPartOf', WHERE WHAT IT READS IS OF BULK AT MOST 1048576: true; the input reads as it did. -/
def fnExactPartOfUptoRow : OpenClaim := { program := "ytkjfcgnhpalhnaa", sum := "23b494d8a110d116d244fcc9e23e7d9ffd79f329d47050bbe5633d37002b6ea1", func := "loop.example/g00106/laws.FnExactPartOf", spec := "fnExactPartOf", apart := false, narrowed := true }
def FnExactPartOfUptoSaid : Prop := fnExactPartOfUptoRow.holds Try.pinned (OpenSpec.upto fnExactPartOfSpec)

/-- 'laws.FnSizes', WHERE WHAT IT READS IS OF BULK AT MOST 1048576: true; the input reads as it did. -/
def fnSizesUptoRow : OpenClaim := { program := "ytkjfcgnhpalhnaa", sum := "23b494d8a110d116d244fcc9e23e7d9ffd79f329d47050bbe5633d37002b6ea1", func := "loop.example/g00106/laws.FnSizes", spec := "fnSizes", apart := false, narrowed := true }
def FnSizesUptoSaid : Prop := fnSizesUptoRow.holds Try.pinned (OpenSpec.upto fnSizesSpec)

/-- 'laws.FnExactParcelOk', WHERE WHAT IT READS IS OF BULK AT MOST 1048576: true; the input reads as it did. -/
def fnExactParcelOkUptoRow : OpenClaim := { program := "ytkjfcgnhpalhnaa", sum := "23b494d8a110d116d244fcc9e23e7d9ffd79f329d47050bbe5633d37002b6ea1", func := "loop.example/g00106/laws.FnExactParcelOk", spec := "fnExactParcelOk", apart := false, narrowed := true }
def FnExactParcelOkUptoSaid : Prop := fnExactParcelOkUptoRow.holds Try.pinned (OpenSpec.upto fnExactParcelOkSpec)

/-- 'laws.FnExactParcelNew', WHERE WHAT IT READS IS OF BULK AT MOST 1048576: true; the input reads as it did. -/
def fnExactParcelNewUptoRow : OpenClaim := { program := "ytkjfcgnhpalhnaa", sum := "23b494d8a110d116d244fcc9e23e7d9ffd79f329d47050bbe5633d37002b6ea1", func := "loop.example/g00106/laws.FnExactParcelNew", spec := "fnExactParcelNew", apart := false, narrowed := true }
def FnExactParcelNewUptoSaid : Prop := fnExactParcelNewUptoRow.holds Try.pinned (OpenSpec.upto fnExactParcelNewSpec)

/-- 'laws.FnExactParcelLacks', WHERE WHAT IT READS IS OF BULK AT MOST 1048576: true; the input reads as it did. -/
def fnExactParcelLacksUptoRow : OpenClaim := { program := "ytkjfcgnhpalhnaa", sum := "23b494d8a110d116d244fcc9e23e7d9ffd79f329d47050bbe5633d37002b6ea1", func := "loop.example/g00106/laws.FnExactParcelLacks", spec := "fnExactParcelLacks", apart := false, narrowed := true }
def FnExactParcelLacksUptoSaid : Prop := fnExactParcelLacksUptoRow.holds Try.pinned (OpenSpec.upto fnExactParcelLacksSpec)

/-- 'laws.FnExactParcelPut', WHERE WHAT IT READS IS OF BULK AT MOST 1048576: true; the input reads as it did. -/
def fnExactParcelPutUptoRow : OpenClaim := { program := "ytkjfcgnhpalhnaa", sum := "23b494d8a110d116d244fcc9e23e7d9ffd79f329d47050bbe5633d37002b6ea1", func := "loop.example/g00106/laws.FnExactParcelPut", spec := "fnExactParcelPut", apart := false, narrowed := true }
def FnExactParcelPutUptoSaid : Prop := fnExactParcelPutUptoRow.holds Try.pinned (OpenSpec.upto fnExactParcelPutSpec)

/-- 'laws.FnExactTablePack', WHERE WHAT IT READS IS OF BULK AT MOST 1048576: true; the input reads as it did. -/
def fnExactTablePackUptoRow : OpenClaim := { program := "ytkjfcgnhpalhnaa", sum := "23b494d8a110d116d244fcc9e23e7d9ffd79f329d47050bbe5633d37002b6ea1", func := "loop.example/g00106/laws.FnExactTablePack", spec := "fnExactTablePack", apart := false, narrowed := true }
def FnExactTablePackUptoSaid : Prop := fnExactTablePackUptoRow.holds Try.pinned (OpenSpec.upto fnExactTablePackSpec)

/-- 'laws.FnExactTableRead', WHERE WHAT IT READS IS OF BULK AT MOST 1048576: true; the input reads as it did. -/
def fnExactTableReadUptoRow : OpenClaim := { program := "ytkjfcgnhpalhnaa", sum := "23b494d8a110d116d244fcc9e23e7d9ffd79f329d47050bbe5633d37002b6ea1", func := "loop.example/g00106/laws.FnExactTableRead", spec := "fnExactTableRead", apart := false, narrowed := true }
def FnExactTableReadUptoSaid : Prop := fnExactTableReadUptoRow.holds Try.pinned (OpenSpec.upto fnExactTableReadSpec)

/-- 'laws.FnExactTableLocal', WHERE WHAT IT READS IS OF BULK AT MOST 1048576: true; the input reads as it did. -/
def fnExactTableLocalUptoRow : OpenClaim := { program := "ytkjfcgnhpalhnaa", sum := "23b494d8a110d116d244fcc9e23e7d9ffd79f329d47050bbe5633d37002b6ea1", func := "loop.example/g00106/laws.FnExactTableLocal", spec := "fnExactTableLocal", apart := false, narrowed := true }
def FnExactTableLocalUptoSaid : Prop := fnExactTableLocalUptoRow.holds Try.pinned (OpenSpec.upto fnExactTableLocalSpec)

/-- 'laws.FnExactParcelWhole', WHERE WHAT IT READS IS OF BULK AT MOST 1048576: true; the input reads as it did. -/
def fnExactParcelWholeUptoRow : OpenClaim := { program := "ytkjfcgnhpalhnaa", sum := "23b494d8a110d116d244fcc9e23e7d9ffd79f329d47050bbe5633d37002b6ea1", func := "loop.example/g00106/laws.FnExactParcelWhole", spec := "fnExactParcelWhole", inPlace := ["internal/abi.NoEscape", "internal/bytealg.MakeNoZero"], apart := false, narrowed := true }
def FnExactParcelWholeUptoSaid : Prop := fnExactParcelWholeUptoRow.holds Try.pinned (OpenSpec.upto fnExactParcelWholeSpec)

/-- 'laws.FnParcel', WHERE WHAT IT READS IS OF BULK AT MOST 1048576: true; the input reads as it did. -/
def fnParcelUptoRow : OpenClaim := { program := "ytkjfcgnhpalhnaa", sum := "23b494d8a110d116d244fcc9e23e7d9ffd79f329d47050bbe5633d37002b6ea1", func := "loop.example/g00106/laws.FnParcel", spec := "fnParcel", inPlace := ["internal/abi.NoEscape", "internal/bytealg.MakeNoZero"], recurses := true, apart := false, narrowed := true }
def FnParcelUptoSaid : Prop := fnParcelUptoRow.holds Try.pinned (OpenSpec.upto fnParcelSpec)

end Rows
end Go.Proofs.Ytkjfcgnhpalhnaa
