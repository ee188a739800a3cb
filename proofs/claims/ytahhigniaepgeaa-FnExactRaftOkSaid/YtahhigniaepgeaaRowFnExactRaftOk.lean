/- The row of the law FnExactRaftOk: for every input the call answers true and its arguments read as before. Out of the pure statement and the printed walk; written by a program of this session (wip/lawrow/lawrow.py). -/
import Derived.Test.YtahhigniaepgeaaRows
import Derived.Test.YtahhigniaepgeaaQFnExactRaftOkx13
import Derived.Test.YtahhigniaepgeaaPureFnExactRaftOk
import Derived.Test.YtahhigniaepgeaaOFnExactRaftOk
import Derived.WalkKit
import Derived.ProofKit
import Derived.OpenShut
import Derived.ShutString
import Derived.ChangeOld
import Derived.Below
import Derived.SizedLaws
namespace Go.Proofs.Ytahhigniaepgeaa.fnExactRaftOk
open Go.ChangeShapes Go.WideShapes Go.ChangeAt Go.RowKit Go.Proofs.Ytahhigniaepgeaa.Opn Go.Proofs.Ytahhigniaepgeaa.QFnExactRaftOk Go.Proofs.YtahhigniaepgeaaW.PrintWords
open Go.ChangeMaps (open_string shut_string)
set_option linter.unusedVariables false
set_option linter.unusedSimpArgs false
theorem own : ownKnob Try.prog.godebug = none := by kernel_rfl
theorem laidOut : laidOutB Try.prog = true := by kernel_rfl
theorem agg_of {P : Program} {W : World} {r : Reach} {b : Nat} {t : TypeId} {fs : Array Field} {v : Value} (hs : P.underlying t = some (.struct fs)) (h : Value.okWide P W r b t v) : ∃ cs : Array Value, v = .agg cs := by
  unfold Value.okWide at h
  rw [hs] at h
  obtain ⟨cs, e, _⟩ := h
  exact ⟨cs, e⟩
set_option maxRecDepth 100000 in
theorem op27 {H : Type} {enc : TypeId × Value → H} {W : World} : RdAs enc Try.prog W 27 (Kd.pair (Kd.int .i64) (Kd.pair (Kd.int .i64) (Kd.pair (Kd.int .i64) (Kd.pair (Kd.int .i64) (Kd.pair (Kd.pair (Kd.int .i64) (Kd.pair (Kd.int .i64) (Kd.slice 70 k70))) (Kd.pair (Kd.slice 3 (Kd.int .i64)) (Kd.pair (Kd.slice 3 (Kd.int .i64)) (Kd.slice 3 (Kd.int .i64))))))))) (fun p => (fun n : Int => (Lit.int .i64 n).wf = true) p.1 ∧ (fun p => (fun n : Int => (Lit.int .i64 n).wf = true) p.1 ∧ (fun p => (fun n : Int => (Lit.int .i64 n).wf = true) p.1 ∧ (fun p => (fun n : Int => (Lit.int .i64 n).wf = true) p.1 ∧ (fun p => (fun p => (fun n : Int => (Lit.int .i64 n).wf = true) p.1 ∧ (fun p => (fun n : Int => (Lit.int .i64 n).wf = true) p.1 ∧ (fun xs => LenG xs ∧ ∀ x ∈ xs, (fun y : S70 => (fun p => (fun n : Int => (Lit.int .i64 n).wf = true) p.1 ∧ (fun y : S68 => (fun p => (fun n : Int => (Lit.int .i64 n).wf = true) p.1 ∧ (fun p => (fun n : Int => (Lit.int .i64 n).wf = true) p.1 ∧ (fun p => (fun n : Int => (Lit.int .i64 n).wf = true) p.1 ∧ (fun p => (fun n : Int => (Lit.int .i64 n).wf = true) p.1 ∧ StrG p.2) p.2) p.2) p.2) (y.f0, y.f1, y.f2, y.f3, y.f4)) p.2) (y.f0, y.f1)) x) p.2) p.2) p.1 ∧ (fun p => (fun xs => LenG xs ∧ ∀ x ∈ xs, (fun n : Int => (Lit.int .i64 n).wf = true) x) p.1 ∧ (fun p => (fun xs => LenG xs ∧ ∀ x ∈ xs, (fun n : Int => (Lit.int .i64 n).wf = true) x) p.1 ∧ (fun xs => LenG xs ∧ ∀ x ∈ xs, (fun n : Int => (Lit.int .i64 n).wf = true) x) p.2) p.2) p.2) p.2) p.2) p.2) p.2) :=
  (op_struct Try.underlying27 (by kernel_rfl) (opf_cons (d := (Kd.int .i64)) rfl (by kernel_rfl) (op_int Try.underlying3) (opf_cons (d := (Kd.int .i64)) rfl (by kernel_rfl) (op_int Try.underlying3) (opf_cons (d := (Kd.int .i64)) rfl (by kernel_rfl) (op_int Try.underlying3) (opf_cons (d := (Kd.int .i64)) rfl (by kernel_rfl) (op_int Try.underlying3) (opf_cons (d := (Kd.pair (Kd.int .i64) (Kd.pair (Kd.int .i64) (Kd.slice 70 k70)))) rfl (by kernel_rfl) (op_struct Try.underlying24 (by kernel_rfl) (opf_cons (d := (Kd.int .i64)) rfl (by kernel_rfl) (op_int Try.underlying3) (opf_cons (d := (Kd.int .i64)) rfl (by kernel_rfl) (op_int Try.underlying3) (opf_one (d := (Kd.slice 70 k70)) rfl (by kernel_rfl) (op_slice (d := k70) Try.underlying22 (by kernel_rfl) (op_iso (f := fun x : S70 => (x.f0, x.f1)) (fun p => (⟨p.1, p.2⟩ : S70)) (fun _ => rfl) (op_struct Try.underlying70 (by kernel_rfl) (opf_cons (d := (Kd.int .i64)) rfl (by kernel_rfl) (op_int Try.underlying3) (opf_one (d := k68) rfl (by kernel_rfl) (op_iso (f := fun x : S68 => (x.f0, x.f1, x.f2, x.f3, x.f4)) (fun p => (⟨p.1, p.2.1, p.2.2.1, p.2.2.2.1, p.2.2.2.2⟩ : S68)) (fun _ => rfl) (op_struct Try.underlying68 (by kernel_rfl) (opf_cons (d := (Kd.int .i64)) rfl (by kernel_rfl) (op_int Try.underlying3) (opf_cons (d := (Kd.int .i64)) rfl (by kernel_rfl) (op_int Try.underlying3) (opf_cons (d := (Kd.int .i64)) rfl (by kernel_rfl) (op_int Try.underlying3) (opf_cons (d := (Kd.int .i64)) rfl (by kernel_rfl) (op_int Try.underlying3) (opf_one (d := Kd.string) rfl (by kernel_rfl) (op_string Try.underlying9))))))))))))))))) (opf_cons (d := (Kd.slice 3 (Kd.int .i64))) rfl (by kernel_rfl) (op_slice (d := (Kd.int .i64)) Try.underlying25 (by kernel_rfl) (op_int Try.underlying3)) (opf_cons (d := (Kd.slice 3 (Kd.int .i64))) rfl (by kernel_rfl) (op_slice (d := (Kd.int .i64)) Try.underlying25 (by kernel_rfl) (op_int Try.underlying3)) (opf_one (d := (Kd.slice 3 (Kd.int .i64))) rfl (by kernel_rfl) (op_slice (d := (Kd.int .i64)) Try.underlying25 (by kernel_rfl) (op_int Try.underlying3)))))))))))
set_option maxRecDepth 100000 in
theorem lifted (os : Os) (started : os.Started) (H : Type) (enc : TypeId × Value → H) :
    ReturnsInHanded {} Try.checked os 3 .any (Rows.fnExactRaftOkSpec.pre6 enc Try.prog Try.f3 Rows.fnExactRaftOkRow.domain false) (Rows.fnExactRaftOkSpec.post enc Try.prog Try.f3 false true false false) := by
  refine returnsInHanded_of_change_sized (C := Try.checked) own started (by kernel_rfl) Try.func3
    (ChangeSpec.witness6 (enc := enc) (C := Try.checked) false ⟨#[], #[.agg #[.int .i64 0, .int .i64 0, .int .i64 0, .int .i64 0, .int .i64 0, .int .i64 0, .slice none 0 0, .slice none 0 0, .slice none 0 0, .slice none 0 0]], []⟩ 8 (by kernel_rfl) (by kernel_rfl) (by kernel_rfl) (by kernel_rfl)) ?_
  intro W base args ds gs before hval0 hW hcnd hsz0 _
  have hsz : (DataW.weightsEach Try.prog (Try.f3.params.toList ++ Rows.fnExactRaftOkSpec.plain.varTypes Try.prog) (ds ++ gs)).all (· ≤ reachBytes) = true := hsz0
  have hval : ∀ (j : Nat) t v, Try.f3.params[j]? = some t → args[j]? = some v → Value.okWide Try.prog W .any base t v := hval0
  have hW' := hW
  obtain ⟨p, q, hA0, hV, rfl, hfz, hnd⟩ := hW
  have hA : DataW.TrodAll enc Try.prog W 0 (fun _ => true) true Try.f3.params.toList args.toList ds p := hA0
  rw [Try.params3] at hA hval hsz
  obtain ⟨v0, vs0, d0, ds0, p0, q0, hargs, rfl, rfl, h0, r0⟩ := trodAll_cons hA
  obtain ⟨rfl, rfl, rfl⟩ := trodAll_nil r0
  obtain rfl : args = #[v0] := by cases args; simp_all
  obtain ⟨rfl, rfl⟩ := trodVars_none hV
  have k0 := h0
  have lt0 : ∀ x ∈ p0, x.block < W.heap.size := by obtain ⟨m, hm⟩ := k0; exact DataW.trod_lt m _ _ _ hm
  obtain ⟨cs0, rfl⟩ := agg_of Try.underlying27 (hval 0 27 v0 rfl rfl)
  obtain ⟨fuel0, hf0⟩ := h0
  obtain ⟨y0, K0, G0⟩ := (op27 (enc := enc) (W := W)) fuel0 _ _ hf0
  obtain ⟨a0_0, a0_1, a0_2, a0_3, ⟨a0_4, a0_5, l0_6⟩, l0_7, l0_8, l0_9⟩ := y0
  obtain ⟨_, _, e0, rfl, ⟨_, _, rfl, rfl, ⟨_, _, rfl, rfl, ⟨_, _, rfl, rfl, ⟨_, _, rfl, ⟨_, _, rfl, rfl, ⟨_, _, rfl, rfl, ⟨A0_6, c0_6, rfl, hc0_6, hr0_6⟩⟩⟩, ⟨_, _, rfl, ⟨A0_7, c0_7, rfl, hc0_7, hr0_7⟩, ⟨_, _, rfl, ⟨A0_8, c0_8, rfl, hc0_8, hr0_8⟩, ⟨A0_9, c0_9, rfl, hc0_9, hr0_9⟩⟩⟩⟩⟩⟩⟩⟩ := K0
  obtain ⟨g0_0, g0_1, g0_2, g0_3, ⟨g0_4, g0_5, g0_6⟩, g0_7, g0_8, g0_9⟩ := G0
  obtain rfl : cs0 = #[.int .i64 a0_0, .int .i64 a0_1, .int .i64 a0_2, .int .i64 a0_3, .int .i64 a0_4, .int .i64 a0_5, .slice A0_6 l0_6.length c0_6, .slice A0_7 l0_7.length c0_7, .slice A0_8 l0_8.length c0_8, .slice A0_9 l0_9.length c0_9] := by cases cs0; simpa [Value.cells] using e0
  clear e0 hf0
  clear hA0 hval0 hsz0 hsz
  obtain ⟨k, hk⟩ := Pure.FnExactRaftOk a0_0 a0_1 a0_2 a0_3 a0_4 a0_5 l0_6 l0_7 l0_8 l0_9 g0_0 g0_1 g0_2 g0_3 g0_4 g0_5 g0_6 g0_7 g0_8 g0_9
  refine (laws_FnExactRaftOk.calls k a0_0 a0_1 a0_2 a0_3 a0_4 a0_5 A0_6 c0_6 l0_6 A0_7 c0_7 l0_7 A0_8 c0_8 l0_8 A0_9 c0_9 l0_9 true W hr0_6 hc0_6 hr0_7 hc0_7 hr0_8 hc0_8 hr0_9 hc0_9 hk).mono fun e W' ⟨he, bel0⟩ => ?_
  have bel : Below W.heap.size W W' := bel0
  subst he
  exact ⟨_, rfl, _, _, _, [], _, [], hW', trodAll_mk1 (shut_bool Try.underlying4 _), (trodAll_cons_mk (Below.trod laidOut (by kernel_rfl) (of_decide_eq_true (by kernel_rfl)) k0 bel lt0) trodAll_mk0), rfl, bel.frame _, fun h => by cases h⟩
theorem over : Rows.fnExactRaftOkRow.holds Try.pinned (OpenSpec.ofChange Rows.fnExactRaftOkSpec) :=
  OpenClaim.holds_of_wide 3 Try.f3 rfl rfl rfl rfl rfl rfl rfl ⟨rfl, rfl, rfl, rfl, rfl⟩ rfl rfl rfl rfl rfl (by kernel_rfl) Try.func3 (by kernel_rfl)
    (of_decide_eq_true (by kernel_rfl)) (by unfold Func.isWrapper; first | (rw [if_pos (by decide +kernel)]; kernel_rfl) | (rw [if_neg (by decide +kernel)]; exact ⟨rfl, rfl⟩))
    (fun os started H enc _ => lifted os started H enc)
theorem proved : Rows.FnExactRaftOkSaid := over
#print axioms proved
end Go.Proofs.Ytahhigniaepgeaa.fnExactRaftOk
namespace Go.Proofs.Ytahhigniaepgeaa
/-- The row, under a short name, for the claim. -/
theorem fnExactRaftOk_holds : Rows.FnExactRaftOkSaid := fnExactRaftOk.proved
end Go.Proofs.Ytahhigniaepgeaa
