/- The law FnExactRaftNew answers true for every argument. No condition. -/
import Derived.Test.YtahhigniaepgeaaQFnExactRaftNewx15
namespace Go.Proofs.Ytahhigniaepgeaa.Pure
open Go.RowKit Go.Proofs.Ytahhigniaepgeaa.QFnExactRaftNew Go.Proofs.YtahhigniaepgeaaW.PrintWords Go.Proofs.YtahhigniaepgeaaW.PrintLast
set_option linter.unusedVariables false
set_option linter.unusedSimpArgs false

theorem FnExactRaftNew : ∀ (a0 : Int) (a1 : Int) (a2_0 : Int) (a2_1 : Int) (l2_2 : (List S70)), (Lit.int .i64 a0).wf = true → (Lit.int .i64 a1).wf = true → (Lit.int .i64 a2_0).wf = true → (Lit.int .i64 a2_1).wf = true → (l2_2.length ≤ 9223372036854775807 ∧ ∀ x ∈ l2_2, ((Lit.int .i64 x.f0).wf = true ∧ ((Lit.int .i64 x.f1.f0).wf = true ∧ (Lit.int .i64 x.f1.f1).wf = true ∧ (Lit.int .i64 x.f1.f2).wf = true ∧ (Lit.int .i64 x.f1.f3).wf = true ∧ x.f1.f4.size ≤ 9223372036854775807))) → ∃ k, laws_FnExactRaftNew.f k a0 a1 a2_0 a2_1 l2_2 = some true := by
  intro a b c d l _ _ _ _ hl
  refine ⟨0, ?_⟩
  unfold laws_FnExactRaftNew.f
  exact if_pos ⟨hl.1, fun x hx => (hl.2 x hx).2.2.2.2.2⟩

end Go.Proofs.Ytahhigniaepgeaa.Pure
