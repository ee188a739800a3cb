/- The row of the law FnRecsTell: for every input the call answers true and its arguments read as before. Out of the contract of the law's function; written by a program of this session (wip/sy/g/symrow.py). -/
import Derived.Test.YtocjgmdfocaamaaGreatRows
import Derived.Test.YtocjgmdfocaamaaGreatFFnRecsTell6
import Derived.WalkKit
import Derived.ProofKit
import Derived.OpenShut
import Derived.ShutString
import Derived.ChangeOld
import Derived.Below
import Derived.SizedLaws
namespace Go.Proofs.YtocjgmdfocaamaaGreat.fnRecsTell
open Go Go.Sy Go.ChangeShapes Go.WideShapes Go.ChangeAt Go.RowKit
open Go.ChangeMaps (open_string shut_string)
set_option linter.unusedVariables false
set_option linter.unusedSimpArgs false
theorem own : ownKnob Tryz.prog.godebug = none := by kernel_rfl
theorem laidOut : laidOutB Tryz.prog = true := by kernel_rfl
theorem agg_of {P : Program} {W : World} {r : Reach} {b : Nat} {t : TypeId} {fs : Array Field} {v : Value} (hs : P.underlying t = some (.struct fs)) (h : Value.okWide P W r b t v) : ∃ cs : Array Value, v = .agg cs := by
  unfold Value.okWide at h
  rw [hs] at h
  obtain ⟨cs, e, _⟩ := h
  exact ⟨cs, e⟩
theorem one_of {P : Program} {W : World} {r : Reach} {b : Nat} {t e : TypeId} {v : Value} (hs : P.underlying t = some (.slice e)) (h : Value.okWide P W r b t v) : v.cells = #[v] := by
  unfold Value.okWide at h
  rw [hs] at h
  cases v <;> first | rfl | (simp [Cell.okWide, Cell.ok, hs] at h)
set_option maxRecDepth 100000 in
theorem op0 {H : Type} {enc : TypeId × Value → H} {W : World} : RdV enc Tryz.prog W 22 1 (fun x : List UInt8 => [.sl false 1 (x.map encU8)]) ((fun xs : List UInt8 => xs.length ≤ 9223372036854775807 ∧ ∀ x ∈ xs, True)) :=
  (rd_slice encU8 (fun _ => rfl) Tryz.underlying22 (by kernel_rfl) (by decide) (rd_u8 Tryz.underlying5))
set_option maxRecDepth 100000 in
theorem lifted (os : Os) (started : os.Started) (H : Type) (enc : TypeId × Value → H) :
    ReturnsInHanded {} Tryz.checked os 3 .any (Rows.fnRecsTellSpec.pre6 enc Tryz.prog Tryz.f3 Rows.fnRecsTellRow.domain false) (Rows.fnRecsTellSpec.post enc Tryz.prog Tryz.f3 false true false false) := by
  refine returnsInHanded_of_change_sized (C := Tryz.checked) own started (by kernel_rfl) Tryz.func3
    (ChangeSpec.witness6 (enc := enc) (C := Tryz.checked) false ⟨#[], #[.slice none 0 0], []⟩ 8 (by kernel_rfl) (by kernel_rfl) (by kernel_rfl) (by kernel_rfl)) ?_
  intro W base args ds gs before hval0 hW hcnd hsz0 _
  have hval : ∀ (j : Nat) t v, Tryz.f3.params[j]? = some t → args[j]? = some v → Value.okWide Tryz.prog W .any base t v := hval0
  have hW' := hW
  obtain ⟨p, q, hA0, hV, rfl, hfz, hnd⟩ := hW
  have hA : DataW.TrodAll enc Tryz.prog W 0 (fun _ => true) true Tryz.f3.params.toList args.toList ds p := hA0
  rw [Tryz.params3] at hA hval
  obtain ⟨v0, vs0, d0, ds0, p0, q0, hargs, rfl, rfl, h0, r0⟩ := trodAll_cons hA
  obtain ⟨rfl, rfl, rfl⟩ := trodAll_nil r0
  obtain rfl : args = #[v0] := by cases args; simp_all
  obtain ⟨rfl, rfl⟩ := trodVars_none hV
  have k0 := h0
  have lt0 : ∀ x ∈ p0, x.block < W.heap.size := by obtain ⟨m, hm⟩ := k0; exact DataW.trod_lt m _ _ _ hm
  have one0 := one_of Tryz.underlying22 (hval 0 22 v0 rfl rfl)
  obtain ⟨fuel0, hf0⟩ := h0
  obtain ⟨y0, K0, _, G0⟩ := (op0 (enc := enc) (W := W)) fuel0 _ _ hf0
  clear hA0 hval0 hsz0
  refine (law_calls (W := W) (laws_FnRecsTell_spec y0 G0.1) rfl (fun k x hx => ?_)).mono fun e W' ⟨he, bel0⟩ => ?_
  · match k, hx with
    | 0, hx => simp at hx; subst hx; exact rep_one (by rw [one0] at K0; exact K0)
    | _ + 1, hx => simp at hx
  have bel : Below W.heap.size W W' := bel0
  subst he
  exact ⟨_, rfl, _, _, _, [], _, [], hW', trodAll_mk1 (shut_bool Tryz.underlying4 _), (trodAll_cons_mk (Below.trod laidOut (by kernel_rfl) (of_decide_eq_true (by kernel_rfl)) k0 bel lt0) trodAll_mk0), rfl, bel.frame _, fun h => by cases h⟩
theorem over : Rows.fnRecsTellRow.holds Tryz.pinned (OpenSpec.ofChange Rows.fnRecsTellSpec) :=
  OpenClaim.holds_of_wide 3 Tryz.f3 rfl rfl rfl rfl rfl rfl rfl ⟨rfl, rfl, rfl, rfl, rfl⟩ rfl rfl rfl rfl rfl (by kernel_rfl) Tryz.func3 (by kernel_rfl)
    (of_decide_eq_true (by kernel_rfl)) (by unfold Func.isWrapper; first | (rw [if_pos (by decide +kernel)]; kernel_rfl) | (rw [if_neg (by decide +kernel)]; exact ⟨rfl, rfl⟩))
    (fun os started H enc _ => lifted os started H enc)
theorem proved : Rows.FnRecsTellSaid := over
#print axioms proved
end Go.Proofs.YtocjgmdfocaamaaGreat.fnRecsTell
namespace Go.Proofs.YtocjgmdfocaamaaGreat
/-- The row, under a short name, for the claim. -/
theorem fnRecsTell_holds : Rows.FnRecsTellSaid := fnRecsTell.proved
end Go.Proofs.YtocjgmdfocaamaaGreat
