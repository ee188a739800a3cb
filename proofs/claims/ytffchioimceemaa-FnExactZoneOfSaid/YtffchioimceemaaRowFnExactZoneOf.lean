/- The row of the law FnExactZoneOf: for every input the call answers true and its arguments read as before. Out of the pure statement and the printed walk; written by a program of this session (wip/lawrow/lawrow.py). -/
import Derived.Test.YtffchioimceemaaRows
import Derived.Test.YtffchioimceemaaQFnExactZoneOfx12
import Derived.Test.YtffchioimceemaaPureFnExactZoneOf
import Derived.Test.YtffchioimceemaaOFnExactZoneOf
import Derived.WalkKit
import Derived.ProofKit
import Derived.OpenShut
import Derived.ShutString
import Derived.ChangeOld
import Derived.Below
import Derived.SizedLaws
namespace Go.Proofs.Ytffchioimceemaa.fnExactZoneOf
open Go.ChangeShapes Go.WideShapes Go.ChangeAt Go.RowKit Go.Proofs.Ytffchioimceemaa.Opn Go.Proofs.Ytffchioimceemaa.QFnExactZoneOf Go.Proofs.YtffchioimceemaaW.PrintWords
open Go.ChangeMaps (open_string shut_string)
set_option linter.unusedVariables false
set_option linter.unusedSimpArgs false
theorem own : ownKnob Try.prog.godebug = none := by kernel_rfl
theorem laidOut : laidOutB Try.prog = true := by kernel_rfl
theorem agg_of {P : Program} {W : World} {r : Reach} {b : Nat} {t : TypeId} {fs : Array Field} {v : Value} (hs : P.underlying t = some (.struct fs)) (h : Value.okWide P W r b t v) : ∃ cs : Array Value, v = .agg cs := by
  unfold Value.okWide at h
  rw [hs] at h
  obtain ⟨cs, e, _⟩ := h
  exact ⟨cs, e⟩
set_option maxRecDepth 100000 in
theorem op26 {H : Type} {enc : TypeId × Value → H} {W : World} : RdAs enc Try.prog W 26 (Kd.pair (Kd.slice 68 k68) (Kd.pair (Kd.slice 70 k70) (Kd.slice 72 k72))) (fun p => (fun xs => LenG xs ∧ ∀ x ∈ xs, (fun y : S68 => (fun p => (fun n : Int => (Lit.int .i64 n).wf = true) p.1 ∧ (fun p => (fun n : Int => (Lit.int .i64 n).wf = true) p.1 ∧ (fun p => (fun n : Int => (Lit.int .i64 n).wf = true) p.1 ∧ (fun p => (fun n : Int => (Lit.int .i64 n).wf = true) p.1 ∧ (fun p => (fun y : S66 => (fun p => (fun n : Int => (Lit.int .i64 n).wf = true) p.1 ∧ (fun p => (fun n : Int => (Lit.int .i64 n).wf = true) p.1 ∧ (fun n : Int => (Lit.int .i64 n).wf = true) p.2) p.2) (y.f0, y.f1, y.f2)) p.1 ∧ (fun p => (fun n : Int => (Lit.int .i64 n).wf = true) p.1 ∧ (fun n : Int => (Lit.int .i64 n).wf = true) p.2) p.2) p.2) p.2) p.2) p.2) (y.f0, y.f1, y.f2, y.f3, y.f4, y.f5, y.f6)) x) p.1 ∧ (fun p => (fun xs => LenG xs ∧ ∀ x ∈ xs, (fun y : S70 => (fun p => (fun n : Int => (Lit.int .i64 n).wf = true) p.1 ∧ (fun p => (fun n : Int => (Lit.int .i64 n).wf = true) p.1 ∧ (fun n : Int => (Lit.int .i64 n).wf = true) p.2) p.2) (y.f0, y.f1, y.f2)) x) p.1 ∧ (fun xs => LenG xs ∧ ∀ x ∈ xs, (fun y : S72 => (fun p => (fun n : Int => (Lit.int .i64 n).wf = true) p.1 ∧ (fun n : Int => (Lit.int .i64 n).wf = true) p.2) (y.f0, y.f1)) x) p.2) p.2) :=
  (op_struct Try.underlying26 (by kernel_rfl) (opf_cons (d := (Kd.slice 68 k68)) rfl (by kernel_rfl) (op_slice (d := k68) Try.underlying22 (by kernel_rfl) (op_iso (f := fun x : S68 => (x.f0, x.f1, x.f2, x.f3, x.f4, x.f5, x.f6)) (fun p => (⟨p.1, p.2.1, p.2.2.1, p.2.2.2.1, p.2.2.2.2.1, p.2.2.2.2.2.1, p.2.2.2.2.2.2⟩ : S68)) (fun _ => rfl) (op_struct Try.underlying68 (by kernel_rfl) (opf_cons (d := (Kd.int .i64)) rfl (by kernel_rfl) (op_int Try.underlying3) (opf_cons (d := (Kd.int .i64)) rfl (by kernel_rfl) (op_int Try.underlying3) (opf_cons (d := (Kd.int .i64)) rfl (by kernel_rfl) (op_int Try.underlying3) (opf_cons (d := (Kd.int .i64)) rfl (by kernel_rfl) (op_int Try.underlying3) (opf_cons (d := k66) rfl (by kernel_rfl) (op_iso (f := fun x : S66 => (x.f0, x.f1, x.f2)) (fun p => (⟨p.1, p.2.1, p.2.2⟩ : S66)) (fun _ => rfl) (op_struct Try.underlying66 (by kernel_rfl) (opf_cons (d := (Kd.int .i64)) rfl (by kernel_rfl) (op_int Try.underlying3) (opf_cons (d := (Kd.int .i64)) rfl (by kernel_rfl) (op_int Try.underlying3) (opf_one (d := (Kd.int .i64)) rfl (by kernel_rfl) (op_int Try.underlying3)))))) (opf_cons (d := (Kd.int .i64)) rfl (by kernel_rfl) (op_int Try.underlying3) (opf_one (d := (Kd.int .i64)) rfl (by kernel_rfl) (op_int Try.underlying3))))))))))) (opf_cons (d := (Kd.slice 70 k70)) rfl (by kernel_rfl) (op_slice (d := k70) Try.underlying23 (by kernel_rfl) (op_iso (f := fun x : S70 => (x.f0, x.f1, x.f2)) (fun p => (⟨p.1, p.2.1, p.2.2⟩ : S70)) (fun _ => rfl) (op_struct Try.underlying70 (by kernel_rfl) (opf_cons (d := (Kd.int .i64)) rfl (by kernel_rfl) (op_int Try.underlying3) (opf_cons (d := (Kd.int .i64)) rfl (by kernel_rfl) (op_int Try.underlying3) (opf_one (d := (Kd.int .i64)) rfl (by kernel_rfl) (op_int Try.underlying3))))))) (opf_one (d := (Kd.slice 72 k72)) rfl (by kernel_rfl) (op_slice (d := k72) Try.underlying24 (by kernel_rfl) (op_iso (f := fun x : S72 => (x.f0, x.f1)) (fun p => (⟨p.1, p.2⟩ : S72)) (fun _ => rfl) (op_struct Try.underlying72 (by kernel_rfl) (opf_cons (d := (Kd.int .i64)) rfl (by kernel_rfl) (op_int Try.underlying3) (opf_one (d := (Kd.int .i64)) rfl (by kernel_rfl) (op_int Try.underlying3))))))))))
set_option maxRecDepth 100000 in
theorem lifted (os : Os) (started : os.Started) (H : Type) (enc : TypeId × Value → H) :
    ReturnsInHanded {} Try.checked os 3 .any (Rows.fnExactZoneOfSpec.pre6 enc Try.prog Try.f3 Rows.fnExactZoneOfRow.domain false) (Rows.fnExactZoneOfSpec.post enc Try.prog Try.f3 false true false false) := by
  refine returnsInHanded_of_change_sized (C := Try.checked) own started (by kernel_rfl) Try.func3
    (ChangeSpec.witness6 (enc := enc) (C := Try.checked) false ⟨#[], #[.agg #[.slice none 0 0, .slice none 0 0, .slice none 0 0], .int .i64 0], []⟩ 8 (by kernel_rfl) (by kernel_rfl) (by kernel_rfl) (by kernel_rfl)) ?_
  intro W base args ds gs before hval0 hW hcnd hsz0 _
  have hsz : (DataW.weightsEach Try.prog (Try.f3.params.toList ++ Rows.fnExactZoneOfSpec.plain.varTypes Try.prog) (ds ++ gs)).all (· ≤ reachBytes) = true := hsz0
  have hval : ∀ (j : Nat) t v, Try.f3.params[j]? = some t → args[j]? = some v → Value.okWide Try.prog W .any base t v := hval0
  have hW' := hW
  obtain ⟨p, q, hA0, hV, rfl, hfz, hnd⟩ := hW
  have hA : DataW.TrodAll enc Try.prog W 0 (fun _ => true) true Try.f3.params.toList args.toList ds p := hA0
  rw [Try.params3] at hA hval hsz
  obtain ⟨v0, vs0, d0, ds0, p0, q0, hargs, rfl, rfl, h0, r0⟩ := trodAll_cons hA
  obtain ⟨v1, vs1, d1, ds1, p1, q1, rfl, rfl, rfl, h1, r1⟩ := trodAll_cons r0
  obtain ⟨rfl, rfl, rfl⟩ := trodAll_nil r1
  obtain rfl : args = #[v0, v1] := by cases args; simp_all
  obtain ⟨rfl, rfl⟩ := trodVars_none hV
  have k0 := h0
  have lt0 : ∀ x ∈ p0, x.block < W.heap.size := by obtain ⟨m, hm⟩ := k0; exact DataW.trod_lt m _ _ _ hm
  obtain ⟨cs0, rfl⟩ := agg_of Try.underlying26 (hval 0 26 v0 rfl rfl)
  obtain ⟨fuel0, hf0⟩ := h0
  obtain ⟨y0, K0, G0⟩ := (op26 (enc := enc) (W := W)) fuel0 _ _ hf0
  obtain ⟨l0_0, l0_1, l0_2⟩ := y0
  obtain ⟨_, _, e0, ⟨A0_0, c0_0, rfl, hc0_0, hr0_0⟩, ⟨_, _, rfl, ⟨A0_1, c0_1, rfl, hc0_1, hr0_1⟩, ⟨A0_2, c0_2, rfl, hc0_2, hr0_2⟩⟩⟩ := K0
  obtain ⟨g0_0, g0_1, g0_2⟩ := G0
  obtain rfl : cs0 = #[.slice A0_0 l0_0.length c0_0, .slice A0_1 l0_1.length c0_1, .slice A0_2 l0_2.length c0_2] := by cases cs0; simpa [Value.cells] using e0
  clear e0 hf0
  obtain ⟨a1, rfl, rfl, rfl, w1⟩ := open_int Try.underlying3 (hval 1 3 v1 rfl rfl) h1
  clear hA0 hval0 hsz0 hsz
  obtain ⟨k, hk⟩ := Pure.FnExactZoneOf l0_0 l0_1 l0_2 a1 g0_0 g0_1 g0_2 w1
  refine (laws_FnExactZoneOf.calls k A0_0 c0_0 l0_0 A0_1 c0_1 l0_1 A0_2 c0_2 l0_2 a1 true W hr0_0 hc0_0 hr0_1 hc0_1 hr0_2 hc0_2 hk).mono fun e W' ⟨he, bel0⟩ => ?_
  have bel : Below W.heap.size W W' := bel0
  subst he
  exact ⟨_, rfl, _, _, _, [], _, [], hW', trodAll_mk1 (shut_bool Try.underlying4 _), (trodAll_cons_mk (Below.trod laidOut (by kernel_rfl) (of_decide_eq_true (by kernel_rfl)) k0 bel lt0) (trodAll_cons_mk (shut_int Try.underlying3 w1) trodAll_mk0)), rfl, bel.frame _, fun h => by cases h⟩
theorem over : Rows.fnExactZoneOfRow.holds Try.pinned (OpenSpec.ofChange Rows.fnExactZoneOfSpec) :=
  OpenClaim.holds_of_wide 3 Try.f3 rfl rfl rfl rfl rfl rfl rfl ⟨rfl, rfl, rfl, rfl, rfl⟩ rfl rfl rfl rfl rfl (by kernel_rfl) Try.func3 (by kernel_rfl)
    (of_decide_eq_true (by kernel_rfl)) (by unfold Func.isWrapper; first | (rw [if_pos (by decide +kernel)]; kernel_rfl) | (rw [if_neg (by decide +kernel)]; exact ⟨rfl, rfl⟩))
    (fun os started H enc _ => lifted os started H enc)
theorem proved : Rows.FnExactZoneOfSaid := over
#print axioms proved
end Go.Proofs.Ytffchioimceemaa.fnExactZoneOf
namespace Go.Proofs.Ytffchioimceemaa
/-- The row, under a short name, for the claim. -/
theorem fnExactZoneOf_holds : Rows.FnExactZoneOfSaid := fnExactZoneOf.proved
end Go.Proofs.Ytffchioimceemaa
