/- The row of the law FnExactParcelLacks: for every input the call answers true and its arguments read as before. Out of the pure statement and the printed walk; written by a program of this session (wip/lawrow/lawrow.py). -/
import Derived.Test.YtkjfcgnhpalhnaaRows
import Derived.Test.YtkjfcgnhpalhnaaQFnExactParcelLacksx4
import Derived.Test.YtkjfcgnhpalhnaaPureFnExactParcelLacks
import Derived.Test.YtkjfcgnhpalhnaaOpen
import Derived.WalkKit
import Derived.ProofKit
import Derived.OpenShut
import Derived.ShutString
import Derived.ChangeOld
import Derived.Below
import Derived.SizedLaws
namespace Go.Proofs.Ytkjfcgnhpalhnaa.fnExactParcelLacks
open Go.ChangeShapes Go.WideShapes Go.ChangeAt Go.RowKit Go.Proofs.Ytkjfcgnhpalhnaa.Opn Go.Proofs.Ytkjfcgnhpalhnaa.QFnExactParcelLacks Go.Proofs.YtkjfcgnhpalhnaaW.PrintWords
open Go.ChangeMaps (open_string shut_string)
set_option linter.unusedVariables false
set_option linter.unusedSimpArgs false
theorem own : ownKnob Try.prog.godebug = none := by kernel_rfl
theorem laidOut : laidOutB Try.prog = true := by kernel_rfl
theorem agg_of {P : Program} {W : World} {r : Reach} {b : Nat} {t : TypeId} {fs : Array Field} {v : Value} (hs : P.underlying t = some (.struct fs)) (h : Value.okWide P W r b t v) : ∃ cs : Array Value, v = .agg cs := by
  unfold Value.okWide at h
  rw [hs] at h
  obtain ⟨cs, e, _⟩ := h
  exact ⟨cs, e⟩
set_option maxRecDepth 100000 in
theorem op33 {H : Type} {enc : TypeId × Value → H} {W : World} : RdAs enc Try.prog W 33 (Kd.pair (Kd.int .i64) (Kd.pair Kd.string (Kd.slice 9 Kd.string))) (fun p => (fun n : Int => (Lit.int .i64 n).wf = true) p.1 ∧ (fun p => StrG p.1 ∧ (fun xs => LenG xs ∧ ∀ x ∈ xs, StrG x) p.2) p.2) :=
  (op_struct Try.underlying33 (by kernel_rfl) (opf_cons (d := (Kd.int .i64)) rfl (by kernel_rfl) (op_int Try.underlying3) (opf_cons (d := Kd.string) rfl (by kernel_rfl) (op_string Try.underlying9) (opf_one (d := (Kd.slice 9 Kd.string)) rfl (by kernel_rfl) (op_slice (d := Kd.string) Try.underlying31 (by kernel_rfl) (op_string Try.underlying9))))))
set_option maxRecDepth 100000 in
theorem lifted (os : Os) (started : os.Started) (H : Type) (enc : TypeId × Value → H) :
    ReturnsInHanded {} Try.checked os 8 .any (Rows.fnExactParcelLacksSpec.pre6 enc Try.prog Try.f8 Rows.fnExactParcelLacksRow.domain false) (Rows.fnExactParcelLacksSpec.post enc Try.prog Try.f8 false true false false) := by
  refine returnsInHanded_of_change_sized (C := Try.checked) own started (by kernel_rfl) Try.func8
    (ChangeSpec.witness6 (enc := enc) (C := Try.checked) false ⟨#[], #[.agg #[.int .i64 0, .string ByteArray.empty, .slice none 0 0]], []⟩ 8 (by kernel_rfl) (by kernel_rfl) (by kernel_rfl) (by kernel_rfl)) ?_
  intro W base args ds gs before hval0 hW hcnd hsz0 _
  have hsz : (DataW.weightsEach Try.prog (Try.f8.params.toList ++ Rows.fnExactParcelLacksSpec.plain.varTypes Try.prog) (ds ++ gs)).all (· ≤ reachBytes) = true := hsz0
  have hval : ∀ (j : Nat) t v, Try.f8.params[j]? = some t → args[j]? = some v → Value.okWide Try.prog W .any base t v := hval0
  have hW' := hW
  obtain ⟨p, q, hA0, hV, rfl, hfz, hnd⟩ := hW
  have hA : DataW.TrodAll enc Try.prog W 0 (fun _ => true) true Try.f8.params.toList args.toList ds p := hA0
  rw [Try.params8] at hA hval hsz
  obtain ⟨v0, vs0, d0, ds0, p0, q0, hargs, rfl, rfl, h0, r0⟩ := trodAll_cons hA
  obtain ⟨rfl, rfl, rfl⟩ := trodAll_nil r0
  obtain rfl : args = #[v0] := by cases args; simp_all
  obtain ⟨rfl, rfl⟩ := trodVars_none hV
  have k0 := h0
  have lt0 : ∀ x ∈ p0, x.block < W.heap.size := by obtain ⟨m, hm⟩ := k0; exact DataW.trod_lt m _ _ _ hm
  obtain ⟨cs0, rfl⟩ := agg_of Try.underlying33 (hval 0 33 v0 rfl rfl)
  obtain ⟨fuel0, hf0⟩ := h0
  obtain ⟨y0, K0, G0⟩ := (op33 (enc := enc) (W := W)) fuel0 _ _ hf0
  obtain ⟨a0_0, a0_1, l0_2⟩ := y0
  obtain ⟨_, _, e0, rfl, ⟨_, _, rfl, rfl, ⟨A0_2, c0_2, rfl, hc0_2, hr0_2⟩⟩⟩ := K0
  obtain ⟨g0_0, g0_1, g0_2⟩ := G0
  obtain rfl : cs0 = #[.int .i64 a0_0, .string a0_1, .slice A0_2 l0_2.length c0_2] := by cases cs0; simpa [Value.cells] using e0
  clear e0 hf0
  clear hA0 hval0 hsz0 hsz
  obtain ⟨k, hk⟩ := Pure.FnExactParcelLacks a0_0 a0_1 l0_2 g0_0 g0_1 g0_2
  refine (laws_FnExactParcelLacks.calls k a0_0 a0_1 A0_2 c0_2 l0_2 true W hr0_2 hc0_2 hk).mono fun e W' ⟨he, bel0⟩ => ?_
  have bel : Below W.heap.size W W' := bel0
  subst he
  exact ⟨_, rfl, _, _, _, [], _, [], hW', trodAll_mk1 (shut_bool Try.underlying4 _), (trodAll_cons_mk (Below.trod laidOut (by kernel_rfl) (of_decide_eq_true (by kernel_rfl)) k0 bel lt0) trodAll_mk0), rfl, bel.frame _, fun h => by cases h⟩
theorem over : Rows.fnExactParcelLacksRow.holds Try.pinned (OpenSpec.ofChange Rows.fnExactParcelLacksSpec) :=
  OpenClaim.holds_of_wide 8 Try.f8 rfl rfl rfl rfl rfl rfl rfl ⟨rfl, rfl, rfl, rfl, rfl⟩ rfl rfl rfl rfl rfl (by kernel_rfl) Try.func8 (by kernel_rfl)
    (of_decide_eq_true (by kernel_rfl)) (by unfold Func.isWrapper; first | (rw [if_pos (by decide +kernel)]; kernel_rfl) | (rw [if_neg (by decide +kernel)]; exact ⟨rfl, rfl⟩))
    (fun os started H enc _ => lifted os started H enc)
theorem proved : Rows.FnExactParcelLacksSaid := over
#print axioms proved
end Go.Proofs.Ytkjfcgnhpalhnaa.fnExactParcelLacks
namespace Go.Proofs.Ytkjfcgnhpalhnaa
/-- The row, under a short name, for the claim. -/
theorem fnExactParcelLacks_holds : Rows.FnExactParcelLacksSaid := fnExactParcelLacks.proved
end Go.Proofs.Ytkjfcgnhpalhnaa
