/- The row of the law FnExactMsgFits: for every input the call answers true and its arguments read as before. Out of the pure statement and the printed walk; written by a program of this session (wip/lawrow/lawrow.py). -/
import Derived.Test.YtngilepbpfdigaaRows
import Derived.Test.YtngilepbpfdigaaQFnExactMsgFitsx14
import Derived.Test.YtngilepbpfdigaaPureFnExactMsgFits
import Derived.Test.YtngilepbpfdigaaOpen
import Derived.WalkKit
import Derived.ProofKit
import Derived.OpenShut
import Derived.ShutString
import Derived.ChangeOld
import Derived.Below
import Derived.SizedLaws
namespace Go.Proofs.Ytngilepbpfdigaa.fnExactMsgFits
open Go.ChangeShapes Go.WideShapes Go.ChangeAt Go.RowKit Go.Proofs.Ytngilepbpfdigaa.Opn Go.Proofs.Ytngilepbpfdigaa.QFnExactMsgFits Go.Proofs.YtngilepbpfdigaaW.PrintWords
open Go.ChangeMaps (open_string shut_string)
set_option linter.unusedVariables false
set_option linter.unusedSimpArgs false
theorem own : ownKnob Try.prog.godebug = none := by kernel_rfl
theorem laidOut : laidOutB Try.prog = true := by kernel_rfl
theorem agg_of {P : Program} {W : World} {r : Reach} {b : Nat} {t : TypeId} {fs : Array Field} {v : Value} (hs : P.underlying t = some (.struct fs)) (h : Value.okWide P W r b t v) : ∃ cs : Array Value, v = .agg cs := by
  unfold Value.okWide at h
  rw [hs] at h
  obtain ⟨cs, e, _⟩ := h
  exact ⟨cs, e⟩
set_option maxRecDepth 100000 in
theorem op26 {H : Type} {enc : TypeId × Value → H} {W : World} : RdAs enc Try.prog W 26 (Kd.pair (Kd.int .i64) (Kd.pair (Kd.int .i64) (Kd.pair (Kd.int .i64) (Kd.pair (Kd.int .i64) (Kd.pair (Kd.int .i64) (Kd.pair (Kd.int .i64) (Kd.pair Kd.bool (Kd.pair (Kd.int .i64) (Kd.pair (Kd.int .i64) (Kd.pair Kd.string (Kd.pair k23 (Kd.slice 53 k53)))))))))))) (fun p => (fun n : Int => (Lit.int .i64 n).wf = true) p.1 ∧ (fun p => (fun n : Int => (Lit.int .i64 n).wf = true) p.1 ∧ (fun p => (fun n : Int => (Lit.int .i64 n).wf = true) p.1 ∧ (fun p => (fun n : Int => (Lit.int .i64 n).wf = true) p.1 ∧ (fun p => (fun n : Int => (Lit.int .i64 n).wf = true) p.1 ∧ (fun p => (fun n : Int => (Lit.int .i64 n).wf = true) p.1 ∧ (fun p => (fun _ : Bool => True) p.1 ∧ (fun p => (fun n : Int => (Lit.int .i64 n).wf = true) p.1 ∧ (fun p => (fun n : Int => (Lit.int .i64 n).wf = true) p.1 ∧ (fun p => StrG p.1 ∧ (fun p => (fun y : S23 => (fun p => (fun n : Int => (Lit.int .i64 n).wf = true) p.1 ∧ (fun p => (fun n : Int => (Lit.int .i64 n).wf = true) p.1 ∧ (fun p => (fun n : Int => (Lit.int .i64 n).wf = true) p.1 ∧ (fun p => (fun n : Int => (Lit.int .i64 n).wf = true) p.1 ∧ StrG p.2) p.2) p.2) p.2) (y.f0, y.f1, y.f2, y.f3, y.f4)) p.1 ∧ (fun xs => LenG xs ∧ ∀ x ∈ xs, (fun y : S53 => (fun p => (fun n : Int => (Lit.int .i64 n).wf = true) p.1 ∧ (fun y : S23 => (fun p => (fun n : Int => (Lit.int .i64 n).wf = true) p.1 ∧ (fun p => (fun n : Int => (Lit.int .i64 n).wf = true) p.1 ∧ (fun p => (fun n : Int => (Lit.int .i64 n).wf = true) p.1 ∧ (fun p => (fun n : Int => (Lit.int .i64 n).wf = true) p.1 ∧ StrG p.2) p.2) p.2) p.2) (y.f0, y.f1, y.f2, y.f3, y.f4)) p.2) (y.f0, y.f1)) x) p.2) p.2) p.2) p.2) p.2) p.2) p.2) p.2) p.2) p.2) p.2) :=
  (op_struct Try.underlying26 (by kernel_rfl) (opf_cons (d := (Kd.int .i64)) rfl (by kernel_rfl) (op_int Try.underlying3) (opf_cons (d := (Kd.int .i64)) rfl (by kernel_rfl) (op_int Try.underlying3) (opf_cons (d := (Kd.int .i64)) rfl (by kernel_rfl) (op_int Try.underlying3) (opf_cons (d := (Kd.int .i64)) rfl (by kernel_rfl) (op_int Try.underlying3) (opf_cons (d := (Kd.int .i64)) rfl (by kernel_rfl) (op_int Try.underlying3) (opf_cons (d := (Kd.int .i64)) rfl (by kernel_rfl) (op_int Try.underlying3) (opf_cons (d := Kd.bool) rfl (by kernel_rfl) (op_bool Try.underlying4) (opf_cons (d := (Kd.int .i64)) rfl (by kernel_rfl) (op_int Try.underlying3) (opf_cons (d := (Kd.int .i64)) rfl (by kernel_rfl) (op_int Try.underlying3) (opf_cons (d := Kd.string) rfl (by kernel_rfl) (op_string Try.underlying9) (opf_cons (d := k23) rfl (by kernel_rfl) (op_iso (f := fun x : S23 => (x.f0, x.f1, x.f2, x.f3, x.f4)) (fun p => (⟨p.1, p.2.1, p.2.2.1, p.2.2.2.1, p.2.2.2.2⟩ : S23)) (fun _ => rfl) (op_struct Try.underlying23 (by kernel_rfl) (opf_cons (d := (Kd.int .i64)) rfl (by kernel_rfl) (op_int Try.underlying3) (opf_cons (d := (Kd.int .i64)) rfl (by kernel_rfl) (op_int Try.underlying3) (opf_cons (d := (Kd.int .i64)) rfl (by kernel_rfl) (op_int Try.underlying3) (opf_cons (d := (Kd.int .i64)) rfl (by kernel_rfl) (op_int Try.underlying3) (opf_one (d := Kd.string) rfl (by kernel_rfl) (op_string Try.underlying9)))))))) (opf_one (d := (Kd.slice 53 k53)) rfl (by kernel_rfl) (op_slice (d := k53) Try.underlying24 (by kernel_rfl) (op_iso (f := fun x : S53 => (x.f0, x.f1)) (fun p => (⟨p.1, p.2⟩ : S53)) (fun _ => rfl) (op_struct Try.underlying53 (by kernel_rfl) (opf_cons (d := (Kd.int .i64)) rfl (by kernel_rfl) (op_int Try.underlying3) (opf_one (d := k23) rfl (by kernel_rfl) (op_iso (f := fun x : S23 => (x.f0, x.f1, x.f2, x.f3, x.f4)) (fun p => (⟨p.1, p.2.1, p.2.2.1, p.2.2.2.1, p.2.2.2.2⟩ : S23)) (fun _ => rfl) (op_struct Try.underlying23 (by kernel_rfl) (opf_cons (d := (Kd.int .i64)) rfl (by kernel_rfl) (op_int Try.underlying3) (opf_cons (d := (Kd.int .i64)) rfl (by kernel_rfl) (op_int Try.underlying3) (opf_cons (d := (Kd.int .i64)) rfl (by kernel_rfl) (op_int Try.underlying3) (opf_cons (d := (Kd.int .i64)) rfl (by kernel_rfl) (op_int Try.underlying3) (opf_one (d := Kd.string) rfl (by kernel_rfl) (op_string Try.underlying9))))))))))))))))))))))))))
set_option maxRecDepth 100000 in
theorem lifted (os : Os) (started : os.Started) (H : Type) (enc : TypeId × Value → H) :
    ReturnsInHanded {} Try.checked os 4 .any (Rows.fnExactMsgFitsSpec.pre6 enc Try.prog Try.f4 Rows.fnExactMsgFitsRow.domain false) (Rows.fnExactMsgFitsSpec.post enc Try.prog Try.f4 false true false false) := by
  refine returnsInHanded_of_change_sized (C := Try.checked) own started (by kernel_rfl) Try.func4
    (ChangeSpec.witness6 (enc := enc) (C := Try.checked) false ⟨#[], #[.agg #[.int .i64 0, .int .i64 0, .int .i64 0, .int .i64 0, .int .i64 0, .int .i64 0, .bool false, .int .i64 0, .int .i64 0, .string ByteArray.empty, .int .i64 0, .int .i64 0, .int .i64 0, .int .i64 0, .string ByteArray.empty, .slice none 0 0]], []⟩ 8 (by kernel_rfl) (by kernel_rfl) (by kernel_rfl) (by kernel_rfl)) ?_
  intro W base args ds gs before hval0 hW hcnd hsz0 _
  have hsz : (DataW.weightsEach Try.prog (Try.f4.params.toList ++ Rows.fnExactMsgFitsSpec.plain.varTypes Try.prog) (ds ++ gs)).all (· ≤ reachBytes) = true := hsz0
  have hval : ∀ (j : Nat) t v, Try.f4.params[j]? = some t → args[j]? = some v → Value.okWide Try.prog W .any base t v := hval0
  have hW' := hW
  obtain ⟨p, q, hA0, hV, rfl, hfz, hnd⟩ := hW
  have hA : DataW.TrodAll enc Try.prog W 0 (fun _ => true) true Try.f4.params.toList args.toList ds p := hA0
  rw [Try.params4] at hA hval hsz
  obtain ⟨v0, vs0, d0, ds0, p0, q0, hargs, rfl, rfl, h0, r0⟩ := trodAll_cons hA
  obtain ⟨rfl, rfl, rfl⟩ := trodAll_nil r0
  obtain rfl : args = #[v0] := by cases args; simp_all
  obtain ⟨rfl, rfl⟩ := trodVars_none hV
  have k0 := h0
  have lt0 : ∀ x ∈ p0, x.block < W.heap.size := by obtain ⟨m, hm⟩ := k0; exact DataW.trod_lt m _ _ _ hm
  obtain ⟨cs0, rfl⟩ := agg_of Try.underlying26 (hval 0 26 v0 rfl rfl)
  obtain ⟨fuel0, hf0⟩ := h0
  obtain ⟨y0, K0, G0⟩ := (op26 (enc := enc) (W := W)) fuel0 _ _ hf0
  obtain ⟨a0_0, a0_1, a0_2, a0_3, a0_4, a0_5, a0_6, a0_7, a0_8, a0_9, ⟨a0_10, a0_11, a0_12, a0_13, a0_14⟩, l0_15⟩ := y0
  obtain ⟨_, _, e0, rfl, ⟨_, _, rfl, rfl, ⟨_, _, rfl, rfl, ⟨_, _, rfl, rfl, ⟨_, _, rfl, rfl, ⟨_, _, rfl, rfl, ⟨_, _, rfl, rfl, ⟨_, _, rfl, rfl, ⟨_, _, rfl, rfl, ⟨_, _, rfl, rfl, ⟨_, _, rfl, ⟨_, _, rfl, rfl, ⟨_, _, rfl, rfl, ⟨_, _, rfl, rfl, ⟨_, _, rfl, rfl, rfl⟩⟩⟩⟩, ⟨A0_15, c0_15, rfl, hc0_15, hr0_15⟩⟩⟩⟩⟩⟩⟩⟩⟩⟩⟩⟩ := K0
  obtain ⟨g0_0, g0_1, g0_2, g0_3, g0_4, g0_5, g0_6, g0_7, g0_8, g0_9, ⟨g0_10, g0_11, g0_12, g0_13, g0_14⟩, g0_15⟩ := G0
  obtain rfl : cs0 = #[.int .i64 a0_0, .int .i64 a0_1, .int .i64 a0_2, .int .i64 a0_3, .int .i64 a0_4, .int .i64 a0_5, .bool a0_6, .int .i64 a0_7, .int .i64 a0_8, .string a0_9, .int .i64 a0_10, .int .i64 a0_11, .int .i64 a0_12, .int .i64 a0_13, .string a0_14, .slice A0_15 l0_15.length c0_15] := by cases cs0; simpa [Value.cells] using e0
  clear e0 hf0
  clear hA0 hval0 hsz0 hsz
  obtain ⟨k, hk⟩ := Pure.FnExactMsgFits a0_0 a0_1 a0_2 a0_3 a0_4 a0_5 a0_6 a0_7 a0_8 a0_9 a0_10 a0_11 a0_12 a0_13 a0_14 l0_15 g0_0 g0_1 g0_2 g0_3 g0_4 g0_5 g0_7 g0_8 g0_9 g0_10 g0_11 g0_12 g0_13 g0_14 g0_15
  refine (laws_FnExactMsgFits.calls k a0_0 a0_1 a0_2 a0_3 a0_4 a0_5 a0_6 a0_7 a0_8 a0_9 a0_10 a0_11 a0_12 a0_13 a0_14 A0_15 c0_15 l0_15 true W hr0_15 hc0_15 hk).mono fun e W' ⟨he, bel0⟩ => ?_
  have bel : Below W.heap.size W W' := bel0
  subst he
  exact ⟨_, rfl, _, _, _, [], _, [], hW', trodAll_mk1 (shut_bool Try.underlying4 _), (trodAll_cons_mk (Below.trod laidOut (by kernel_rfl) (of_decide_eq_true (by kernel_rfl)) k0 bel lt0) trodAll_mk0), rfl, bel.frame _, fun h => by cases h⟩
theorem over : Rows.fnExactMsgFitsRow.holds Try.pinned (OpenSpec.ofChange Rows.fnExactMsgFitsSpec) :=
  OpenClaim.holds_of_wide 4 Try.f4 rfl rfl rfl rfl rfl rfl rfl ⟨rfl, rfl, rfl, rfl, rfl⟩ rfl rfl rfl rfl rfl (by kernel_rfl) Try.func4 (by kernel_rfl)
    (of_decide_eq_true (by kernel_rfl)) (by unfold Func.isWrapper; first | (rw [if_pos (by decide +kernel)]; kernel_rfl) | (rw [if_neg (by decide +kernel)]; exact ⟨rfl, rfl⟩))
    (fun os started H enc _ => lifted os started H enc)
theorem proved : Rows.FnExactMsgFitsSaid := over
#print axioms proved
end Go.Proofs.Ytngilepbpfdigaa.fnExactMsgFits
namespace Go.Proofs.Ytngilepbpfdigaa
/-- The row, under a short name, for the claim. -/
theorem fnExactMsgFits_holds : Rows.FnExactMsgFitsSaid := fnExactMsgFits.proved
end Go.Proofs.Ytngilepbpfdigaa
