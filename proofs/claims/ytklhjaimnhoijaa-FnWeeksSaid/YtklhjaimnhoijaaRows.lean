/-
  No cell of these rows narrows 'for every input' (looked for: loops, veiled, ifaces, maps, wideKeys, modest, calm, conditions, laid).
  DERIVED. THE GIVEN ROWS OF THIS SEAT. 12 by the template 'for every input the law returns true; each argument reads behind the call as it read before'; 0 by the template 'total and deterministic' (their statements: YtklhjaimnhoijaaTotals.lean).
  GIVEN WITH THE SEED: the statements are not yours to turn. If you find one false, say at which input.
  Laid BY PROGRAM, IN A SANDBOX (cutbox-rows.mjs): the forced cells as the released guide's own fill.sh prints them over the translation 9a2119bb73c907cd… (all of the seat's roots in one cut). By AI agents, Wed Nov 11 2026. No macro, syntax, notation, axiom, sorry.
-/
import Derived.Test.YtklhjaimnhoijaaChecked
import GoSem.Claim
import GoSem.ClaimJoined
import GoSem.ClaimMapViews
import Derived.JoinedTies
import Derived.KernelRfl
namespace Go.Proofs.Ytklhjaimnhoijaa
/- THE CELL 'sum', in the pinned program and in every row, IS THE sha256 OF THE DUMP (.gsa) THAT YtklhjaimnhoijaaProg.lean LOADS. Nothing in Lean hashes anything: it is a label: what it is worth is what the hold of that sum in a sandbox is worth. -/
noncomputable def Try.pinned : Pinned := { name := "ytklhjaimnhoijaa", sum := "9a2119bb73c907cd472c479316853200ad0e658720afa9867155a0eabb105fce", checked := Try.checked }
namespace Rows
def none {H : Type} : Left H := { results := [], args := [] }

/-- 'laws.FnExactWeekOf': WHATEVER THE INPUT: true; the input reads as it did. -/
def fnExactWeekOfSpec : ChangeSpec := { name := "fnExactWeekOf", fn := fun _ => fun
  | [d] => { results := [.lit (.bool true)], args := [d] }
  | _ => none }
def fnExactWeekOfRow : OpenClaim := { program := "ytklhjaimnhoijaa", sum := "9a2119bb73c907cd472c479316853200ad0e658720afa9867155a0eabb105fce", func := "loop.example/g00106/laws.FnExactWeekOf", spec := "fnExactWeekOf", apart := false }
def FnExactWeekOfSaid : Prop := fnExactWeekOfRow.holds Try.pinned (OpenSpec.ofChange fnExactWeekOfSpec)

/-- ITS FALSE NEIGHBOUR: 'it returns false'. Refute it at one input. -/
def fnExactWeekOfWrong : ChangeSpec := { name := "fnExactWeekOf", fn := fun _ => fun
  | [d] => { results := [.lit (.bool false)], args := [d] }
  | _ => none }
def FnExactWeekOfWrongFalsely : Prop := fnExactWeekOfRow.holds Try.pinned (OpenSpec.ofChange fnExactWeekOfWrong)

/-- 'laws.FnExactOnOk': WHATEVER THE INPUT: true; the input reads as it did. -/
def fnExactOnOkSpec : ChangeSpec := { name := "fnExactOnOk", fn := fun _ => fun
  | [d] => { results := [.lit (.bool true)], args := [d] }
  | _ => none }
def fnExactOnOkRow : OpenClaim := { program := "ytklhjaimnhoijaa", sum := "9a2119bb73c907cd472c479316853200ad0e658720afa9867155a0eabb105fce", func := "loop.example/g00106/laws.FnExactOnOk", spec := "fnExactOnOk", apart := false }
def FnExactOnOkSaid : Prop := fnExactOnOkRow.holds Try.pinned (OpenSpec.ofChange fnExactOnOkSpec)

/-- ITS FALSE NEIGHBOUR: 'it returns false'. Refute it at one input. -/
def fnExactOnOkWrong : ChangeSpec := { name := "fnExactOnOk", fn := fun _ => fun
  | [d] => { results := [.lit (.bool false)], args := [d] }
  | _ => none }
def FnExactOnOkWrongFalsely : Prop := fnExactOnOkRow.holds Try.pinned (OpenSpec.ofChange fnExactOnOkWrong)

/-- 'laws.FnExactMonthLong': WHATEVER THE INPUT: true; the input reads as it did. -/
def fnExactMonthLongSpec : ChangeSpec := { name := "fnExactMonthLong", fn := fun _ => fun
  | [d1, d2] => { results := [.lit (.bool true)], args := [d1, d2] }
  | _ => none }
def fnExactMonthLongRow : OpenClaim := { program := "ytklhjaimnhoijaa", sum := "9a2119bb73c907cd472c479316853200ad0e658720afa9867155a0eabb105fce", func := "loop.example/g00106/laws.FnExactMonthLong", spec := "fnExactMonthLong", apart := false }
def FnExactMonthLongSaid : Prop := fnExactMonthLongRow.holds Try.pinned (OpenSpec.ofChange fnExactMonthLongSpec)

/-- ITS FALSE NEIGHBOUR: 'it returns false'. Refute it at one input. -/
def fnExactMonthLongWrong : ChangeSpec := { name := "fnExactMonthLong", fn := fun _ => fun
  | [d1, d2] => { results := [.lit (.bool false)], args := [d1, d2] }
  | _ => none }
def FnExactMonthLongWrongFalsely : Prop := fnExactMonthLongRow.holds Try.pinned (OpenSpec.ofChange fnExactMonthLongWrong)

/-- 'laws.FnYears': WHATEVER THE INPUT: true; the input reads as it did. -/
def fnYearsSpec : ChangeSpec := { name := "fnYears", fn := fun _ => fun
  | [d] => { results := [.lit (.bool true)], args := [d] }
  | _ => none }
def fnYearsRow : OpenClaim := { program := "ytklhjaimnhoijaa", sum := "9a2119bb73c907cd472c479316853200ad0e658720afa9867155a0eabb105fce", func := "loop.example/g00106/laws.FnYears", spec := "fnYears", apart := false }
def FnYearsSaid : Prop := fnYearsRow.holds Try.pinned (OpenSpec.ofChange fnYearsSpec)

/-- ITS FALSE NEIGHBOUR: 'it returns false'. Refute it at one input. -/
def fnYearsWrong : ChangeSpec := { name := "fnYears", fn := fun _ => fun
  | [d] => { results := [.lit (.bool false)], args := [d] }
  | _ => none }
def FnYearsWrongFalsely : Prop := fnYearsRow.holds Try.pinned (OpenSpec.ofChange fnYearsWrong)

/-- 'laws.FnExactDayOf': WHATEVER THE INPUT: true; the input reads as it did. -/
def fnExactDayOfSpec : ChangeSpec := { name := "fnExactDayOf", fn := fun _ => fun
  | [d1, d2, d3] => { results := [.lit (.bool true)], args := [d1, d2, d3] }
  | _ => none }
def fnExactDayOfRow : OpenClaim := { program := "ytklhjaimnhoijaa", sum := "9a2119bb73c907cd472c479316853200ad0e658720afa9867155a0eabb105fce", func := "loop.example/g00106/laws.FnExactDayOf", spec := "fnExactDayOf", apart := false }
def FnExactDayOfSaid : Prop := fnExactDayOfRow.holds Try.pinned (OpenSpec.ofChange fnExactDayOfSpec)

/-- ITS FALSE NEIGHBOUR: 'it returns false'. Refute it at one input. -/
def fnExactDayOfWrong : ChangeSpec := { name := "fnExactDayOf", fn := fun _ => fun
  | [d1, d2, d3] => { results := [.lit (.bool false)], args := [d1, d2, d3] }
  | _ => none }
def FnExactDayOfWrongFalsely : Prop := fnExactDayOfRow.holds Try.pinned (OpenSpec.ofChange fnExactDayOfWrong)

/-- 'laws.FnExactDateOf': WHATEVER THE INPUT: true; the input reads as it did. -/
def fnExactDateOfSpec : ChangeSpec := { name := "fnExactDateOf", fn := fun _ => fun
  | [d] => { results := [.lit (.bool true)], args := [d] }
  | _ => none }
def fnExactDateOfRow : OpenClaim := { program := "ytklhjaimnhoijaa", sum := "9a2119bb73c907cd472c479316853200ad0e658720afa9867155a0eabb105fce", func := "loop.example/g00106/laws.FnExactDateOf", spec := "fnExactDateOf", apart := false }
def FnExactDateOfSaid : Prop := fnExactDateOfRow.holds Try.pinned (OpenSpec.ofChange fnExactDateOfSpec)

/-- ITS FALSE NEIGHBOUR: 'it returns false'. Refute it at one input. -/
def fnExactDateOfWrong : ChangeSpec := { name := "fnExactDateOf", fn := fun _ => fun
  | [d] => { results := [.lit (.bool false)], args := [d] }
  | _ => none }
def FnExactDateOfWrongFalsely : Prop := fnExactDateOfRow.holds Try.pinned (OpenSpec.ofChange fnExactDateOfWrong)

/-- 'laws.FnExactTableOk': WHATEVER THE INPUT: true; the input reads as it did. -/
def fnExactTableOkSpec : ChangeSpec := { name := "fnExactTableOk", fn := fun _ => fun
  | [d] => { results := [.lit (.bool true)], args := [d] }
  | _ => none }
def fnExactTableOkRow : OpenClaim := { program := "ytklhjaimnhoijaa", sum := "9a2119bb73c907cd472c479316853200ad0e658720afa9867155a0eabb105fce", func := "loop.example/g00106/laws.FnExactTableOk", spec := "fnExactTableOk", apart := false }
def FnExactTableOkSaid : Prop := fnExactTableOkRow.holds Try.pinned (OpenSpec.ofChange fnExactTableOkSpec)

/-- ITS FALSE NEIGHBOUR: 'it returns false'. Refute it at one input. -/
def fnExactTableOkWrong : ChangeSpec := { name := "fnExactTableOk", fn := fun _ => fun
  | [d] => { results := [.lit (.bool false)], args := [d] }
  | _ => none }
def FnExactTableOkWrongFalsely : Prop := fnExactTableOkRow.holds Try.pinned (OpenSpec.ofChange fnExactTableOkWrong)

/-- 'laws.FnExactTableAt': WHATEVER THE INPUT: true; the input reads as it did. -/
def fnExactTableAtSpec : ChangeSpec := { name := "fnExactTableAt", fn := fun _ => fun
  | [d1, d2] => { results := [.lit (.bool true)], args := [d1, d2] }
  | _ => none }
def fnExactTableAtRow : OpenClaim := { program := "ytklhjaimnhoijaa", sum := "9a2119bb73c907cd472c479316853200ad0e658720afa9867155a0eabb105fce", func := "loop.example/g00106/laws.FnExactTableAt", spec := "fnExactTableAt", apart := false }
def FnExactTableAtSaid : Prop := fnExactTableAtRow.holds Try.pinned (OpenSpec.ofChange fnExactTableAtSpec)

/-- ITS FALSE NEIGHBOUR: 'it returns false'. Refute it at one input. -/
def fnExactTableAtWrong : ChangeSpec := { name := "fnExactTableAt", fn := fun _ => fun
  | [d1, d2] => { results := [.lit (.bool false)], args := [d1, d2] }
  | _ => none }
def FnExactTableAtWrongFalsely : Prop := fnExactTableAtRow.holds Try.pinned (OpenSpec.ofChange fnExactTableAtWrong)

/-- 'laws.FnWeeks': WHATEVER THE INPUT: true; the input reads as it did. -/
def fnWeeksSpec : ChangeSpec := { name := "fnWeeks", fn := fun _ => fun
  | [d] => { results := [.lit (.bool true)], args := [d] }
  | _ => none }
def fnWeeksRow : OpenClaim := { program := "ytklhjaimnhoijaa", sum := "9a2119bb73c907cd472c479316853200ad0e658720afa9867155a0eabb105fce", func := "loop.example/g00106/laws.FnWeeks", spec := "fnWeeks", apart := false }
def FnWeeksSaid : Prop := fnWeeksRow.holds Try.pinned (OpenSpec.ofChange fnWeeksSpec)

/-- ITS FALSE NEIGHBOUR: 'it returns false'. Refute it at one input. -/
def fnWeeksWrong : ChangeSpec := { name := "fnWeeks", fn := fun _ => fun
  | [d] => { results := [.lit (.bool false)], args := [d] }
  | _ => none }
def FnWeeksWrongFalsely : Prop := fnWeeksRow.holds Try.pinned (OpenSpec.ofChange fnWeeksWrong)

/-- 'laws.FnExactOnDay': WHATEVER THE INPUT: true; the input reads as it did. -/
def fnExactOnDaySpec : ChangeSpec := { name := "fnExactOnDay", fn := fun _ => fun
  | [d1, d2, d3] => { results := [.lit (.bool true)], args := [d1, d2, d3] }
  | _ => none }
def fnExactOnDayRow : OpenClaim := { program := "ytklhjaimnhoijaa", sum := "9a2119bb73c907cd472c479316853200ad0e658720afa9867155a0eabb105fce", func := "loop.example/g00106/laws.FnExactOnDay", spec := "fnExactOnDay", apart := false }
def FnExactOnDaySaid : Prop := fnExactOnDayRow.holds Try.pinned (OpenSpec.ofChange fnExactOnDaySpec)

/-- ITS FALSE NEIGHBOUR: 'it returns false'. Refute it at one input. -/
def fnExactOnDayWrong : ChangeSpec := { name := "fnExactOnDay", fn := fun _ => fun
  | [d1, d2, d3] => { results := [.lit (.bool false)], args := [d1, d2, d3] }
  | _ => none }
def FnExactOnDayWrongFalsely : Prop := fnExactOnDayRow.holds Try.pinned (OpenSpec.ofChange fnExactOnDayWrong)

/-- 'laws.FnDays': WHATEVER THE INPUT: true; the input reads as it did. -/
def fnDaysSpec : ChangeSpec := { name := "fnDays", fn := fun _ => fun
  | [d] => { results := [.lit (.bool true)], args := [d] }
  | _ => none }
def fnDaysRow : OpenClaim := { program := "ytklhjaimnhoijaa", sum := "9a2119bb73c907cd472c479316853200ad0e658720afa9867155a0eabb105fce", func := "loop.example/g00106/laws.FnDays", spec := "fnDays", apart := false }
def FnDaysSaid : Prop := fnDaysRow.holds Try.pinned (OpenSpec.ofChange fnDaysSpec)

/-- ITS FALSE NEIGHBOUR: 'it returns false'. Refute it at one input. -/
def fnDaysWrong : ChangeSpec := { name := "fnDays", fn := fun _ => fun
  | [d] => { results := [.lit (.bool false)], args := [d] }
  | _ => none }
def FnDaysWrongFalsely : Prop := fnDaysRow.holds Try.pinned (OpenSpec.ofChange fnDaysWrong)

/-- 'laws.FnOnDay': WHATEVER THE INPUT: true; the input reads as it did. -/
def fnOnDaySpec : ChangeSpec := { name := "fnOnDay", fn := fun _ => fun
  | [d] => { results := [.lit (.bool true)], args := [d] }
  | _ => none }
def fnOnDayRow : OpenClaim := { program := "ytklhjaimnhoijaa", sum := "9a2119bb73c907cd472c479316853200ad0e658720afa9867155a0eabb105fce", func := "loop.example/g00106/laws.FnOnDay", spec := "fnOnDay", apart := false }
def FnOnDaySaid : Prop := fnOnDayRow.holds Try.pinned (OpenSpec.ofChange fnOnDaySpec)

/-- ITS FALSE NEIGHBOUR: 'it returns false'. Refute it at one input. -/
def fnOnDayWrong : ChangeSpec := { name := "fnOnDay", fn := fun _ => fun
  | [d] => { results := [.lit (.bool false)], args := [d] }
  | _ => none }
def FnOnDayWrongFalsely : Prop := fnOnDayRow.holds Try.pinned (OpenSpec.ofChange fnOnDayWrong)

/- THE SECOND FORM. 'bulk': how many values and letters a reading holds, each counted each time it is reached (what is shared counts as often as it is met; a slice's spare places count too). A statement '..UptoSaid' is the law's where the arguments, and the package variables that the reading takes, are together of bulk at most 1048576: NARROWER than '..Said'. Prove '..Said' where nothing that the law and all that it calls make is longer than what came in: it says more and counts as full. Else prove '..UptoSaid'. A law counts once. -/
mutual
def uptoBulk {H : Type} : DataW H → Nat
  | .lit (.string bytes) => bytes.length + 1
  | .lit _ => 1
  | .nil => 1
  | .ptr d => uptoBulk d + 1
  | .slice elems spare => uptoBulkAll elems + uptoBulkAll spare + 1
  | .agg parts => uptoBulkAll parts + 1
  | .iface _ d => uptoBulk d + 1
  | .map entries => uptoBulkEntries entries + 1
  | .held _ => 1
def uptoBulkAll {H : Type} : List (DataW H) → Nat
  | [] => 0
  | d :: r => uptoBulk d + uptoBulkAll r
def uptoBulkEntries {H : Type} : List (Lit × DataW H) → Nat
  | [] => 0
  | x :: r => uptoBulkEntry x + uptoBulkEntries r
def uptoBulkEntry {H : Type} : Lit × DataW H → Nat
  | (.string bytes, d) => bytes.length + uptoBulk d + 1
  | (_, d) => uptoBulk d + 1
 end
def uptoSmall : (H : Type) → List (DataW H) → Bool := fun _ ds => decide (uptoBulkAll ds ≤ 1048576)
def OpenSpec.upto (s : _root_.Go.ChangeSpec) : _root_.Go.OpenSpec := { _root_.Go.OpenSpec.ofChange s with cond := some uptoSmall }

/-- 'laws.FnExactWeekOf', WHERE WHAT IT READS IS OF BULK AT MOST 1048576: true; the input reads as it did. -/
def fnExactWeekOfUptoRow : OpenClaim := { program := "ytklhjaimnhoijaa", sum := "9a2119bb73c907cd472c479316853200ad0e658720afa9867155a0eabb105fce", func := "loop.example/g00106/laws.FnExactWeekOf", spec := "fnExactWeekOf", apart := false, narrowed := true }
def FnExactWeekOfUptoSaid : Prop := fnExactWeekOfUptoRow.holds Try.pinned (OpenSpec.upto fnExactWeekOfSpec)

/-- 'laws.FnExactOnOk', WHERE WHAT IT READS IS OF BULK AT MOST 1048576: true; the input reads as it did. -/
def fnExactOnOkUptoRow : OpenClaim := { program := "ytklhjaimnhoijaa", sum := "9a2119bb73c907cd472c479316853200ad0e658720afa9867155a0eabb105fce", func := "loop.example/g00106/laws.FnExactOnOk", spec := "fnExactOnOk", apart := false, narrowed := true }
def FnExactOnOkUptoSaid : Prop := fnExactOnOkUptoRow.holds Try.pinned (OpenSpec.upto fnExactOnOkSpec)

/-- 'laws.FnExactMonthLong', WHERE WHAT IT READS IS OF BULK AT MOST 1048576: true; the input reads as it did. -/
def fnExactMonthLongUptoRow : OpenClaim := { program := "ytklhjaimnhoijaa", sum := "9a2119bb73c907cd472c479316853200ad0e658720afa9867155a0eabb105fce", func := "loop.example/g00106/laws.FnExactMonthLong", spec := "fnExactMonthLong", apart := false, narrowed := true }
def FnExactMonthLongUptoSaid : Prop := fnExactMonthLongUptoRow.holds Try.pinned (OpenSpec.upto fnExactMonthLongSpec)

/-- 'laws.FnYears', WHERE WHAT IT READS IS OF BULK AT MOST 1048576: true; the input reads as it did. -/
def fnYearsUptoRow : OpenClaim := { program := "ytklhjaimnhoijaa", sum := "9a2119bb73c907cd472c479316853200ad0e658720afa9867155a0eabb105fce", func := "loop.example/g00106/laws.FnYears", spec := "fnYears", apart := false, narrowed := true }
def FnYearsUptoSaid : Prop := fnYearsUptoRow.holds Try.pinned (OpenSpec.upto fnYearsSpec)

/-- 'laws.FnExactDayOf', WHERE WHAT IT READS IS OF BULK AT MOST 1048576: true; the input reads as it did. -/
def fnExactDayOfUptoRow : OpenClaim := { program := "ytklhjaimnhoijaa", sum := "9a2119bb73c907cd472c479316853200ad0e658720afa9867155a0eabb105fce", func := "loop.example/g00106/laws.FnExactDayOf", spec := "fnExactDayOf", apart := false, narrowed := true }
def FnExactDayOfUptoSaid : Prop := fnExactDayOfUptoRow.holds Try.pinned (OpenSpec.upto fnExactDayOfSpec)

/-- 'laws.FnExactDateOf', WHERE WHAT IT READS IS OF BULK AT MOST 1048576: true; the input reads as it did. -/
def fnExactDateOfUptoRow : OpenClaim := { program := "ytklhjaimnhoijaa", sum := "9a2119bb73c907cd472c479316853200ad0e658720afa9867155a0eabb105fce", func := "loop.example/g00106/laws.FnExactDateOf", spec := "fnExactDateOf", apart := false, narrowed := true }
def FnExactDateOfUptoSaid : Prop := fnExactDateOfUptoRow.holds Try.pinned (OpenSpec.upto fnExactDateOfSpec)

/-- 'laws.FnExactTableOk', WHERE WHAT IT READS IS OF BULK AT MOST 1048576: true; the input reads as it did. -/
def fnExactTableOkUptoRow : OpenClaim := { program := "ytklhjaimnhoijaa", sum := "9a2119bb73c907cd472c479316853200ad0e658720afa9867155a0eabb105fce", func := "loop.example/g00106/laws.FnExactTableOk", spec := "fnExactTableOk", apart := false, narrowed := true }
def FnExactTableOkUptoSaid : Prop := fnExactTableOkUptoRow.holds Try.pinned (OpenSpec.upto fnExactTableOkSpec)

/-- 'laws.FnExactTableAt', WHERE WHAT IT READS IS OF BULK AT MOST 1048576: true; the input reads as it did. -/
def fnExactTableAtUptoRow : OpenClaim := { program := "ytklhjaimnhoijaa", sum := "9a2119bb73c907cd472c479316853200ad0e658720afa9867155a0eabb105fce", func := "loop.example/g00106/laws.FnExactTableAt", spec := "fnExactTableAt", apart := false, narrowed := true }
def FnExactTableAtUptoSaid : Prop := fnExactTableAtUptoRow.holds Try.pinned (OpenSpec.upto fnExactTableAtSpec)

/-- 'laws.FnWeeks', WHERE WHAT IT READS IS OF BULK AT MOST 1048576: true; the input reads as it did. -/
def fnWeeksUptoRow : OpenClaim := { program := "ytklhjaimnhoijaa", sum := "9a2119bb73c907cd472c479316853200ad0e658720afa9867155a0eabb105fce", func := "loop.example/g00106/laws.FnWeeks", spec := "fnWeeks", apart := false, narrowed := true }
def FnWeeksUptoSaid : Prop := fnWeeksUptoRow.holds Try.pinned (OpenSpec.upto fnWeeksSpec)

/-- 'laws.FnExactOnDay', WHERE WHAT IT READS IS OF BULK AT MOST 1048576: true; the input reads as it did. -/
def fnExactOnDayUptoRow : OpenClaim := { program := "ytklhjaimnhoijaa", sum := "9a2119bb73c907cd472c479316853200ad0e658720afa9867155a0eabb105fce", func := "loop.example/g00106/laws.FnExactOnDay", spec := "fnExactOnDay", apart := false, narrowed := true }
def FnExactOnDayUptoSaid : Prop := fnExactOnDayUptoRow.holds Try.pinned (OpenSpec.upto fnExactOnDaySpec)

/-- 'laws.FnDays', WHERE WHAT IT READS IS OF BULK AT MOST 1048576: true; the input reads as it did. -/
def fnDaysUptoRow : OpenClaim := { program := "ytklhjaimnhoijaa", sum := "9a2119bb73c907cd472c479316853200ad0e658720afa9867155a0eabb105fce", func := "loop.example/g00106/laws.FnDays", spec := "fnDays", apart := false, narrowed := true }
def FnDaysUptoSaid : Prop := fnDaysUptoRow.holds Try.pinned (OpenSpec.upto fnDaysSpec)

/-- 'laws.FnOnDay', WHERE WHAT IT READS IS OF BULK AT MOST 1048576: true; the input reads as it did. -/
def fnOnDayUptoRow : OpenClaim := { program := "ytklhjaimnhoijaa", sum := "9a2119bb73c907cd472c479316853200ad0e658720afa9867155a0eabb105fce", func := "loop.example/g00106/laws.FnOnDay", spec := "fnOnDay", apart := false, narrowed := true }
def FnOnDayUptoSaid : Prop := fnOnDayUptoRow.holds Try.pinned (OpenSpec.upto fnOnDaySpec)

end Rows
end Go.Proofs.Ytklhjaimnhoijaa
