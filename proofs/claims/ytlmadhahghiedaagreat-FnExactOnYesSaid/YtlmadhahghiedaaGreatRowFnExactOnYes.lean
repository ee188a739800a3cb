/- The row of the law FnExactOnYes: for every input the call answers true and its arguments read as before. Out of the contract of the law's function; written by a program of this session (wip/sy/g/symrow.py). -/
import Derived.Test.YtlmadhahghiedaaGreatRows
import Derived.Test.YtlmadhahghiedaaGreatFFnExactOnYes7
import Derived.WalkKit
import Derived.ProofKit
import Derived.OpenShut
import Derived.ShutString
import Derived.ChangeOld
import Derived.Below
import Derived.SizedLaws
namespace Go.Proofs.YtlmadhahghiedaaGreat.fnExactOnYes
open Go Go.Sy Go.ChangeShapes Go.WideShapes Go.ChangeAt Go.RowKit
open Go.ChangeMaps (open_string shut_string)
set_option linter.unusedVariables false
set_option linter.unusedSimpArgs false
theorem own : ownKnob Tryz.prog.godebug = none := by kernel_rfl
theorem laidOut : laidOutB Tryz.prog = true := by kernel_rfl
theorem agg_of {P : Program} {W : World} {r : Reach} {b : Nat} {t : TypeId} {fs : Array Field} {v : Value} (hs : P.underlying t = some (.struct fs)) (h : Value.okWide P W r b t v) : ∃ cs : Array Value, v = .agg cs := by
  unfold Value.okWide at h
  rw [hs] at h
  obtain ⟨cs, e, _⟩ := h
  exact ⟨cs, e⟩
set_option maxRecDepth 100000 in
theorem op0 {H : Type} {enc : TypeId × Value → H} {W : World} : RdV enc Tryz.prog W 65 10 (fun x : Raft => [.int .i64 x.id, .int .i64 x.of_, .int .i64 x.role, .int .i64 x.commit, .int .i64 x.hard.term, .int .i64 x.hard.vote, .sl false 6 (x.hard.log.map encEnt), .sl false 1 (x.yes.map encI), .sl false 1 (x.next.map encI), .sl false 1 (x.match_.map encI)]) (BigR) :=
  (rd_iso (rd_struct (sz := 10) Tryz.underlying65 (by kernel_rfl) (rdf_cons (sz := 1) (sz' := 9) rfl (by kernel_rfl) (rd_int Tryz.underlying3) (rdf_cons (sz := 1) (sz' := 8) rfl (by kernel_rfl) (rd_int Tryz.underlying3) (rdf_cons (sz := 1) (sz' := 7) rfl (by kernel_rfl) (rd_int Tryz.underlying3) (rdf_cons (sz := 1) (sz' := 6) rfl (by kernel_rfl) (rd_int Tryz.underlying3) (rdf_cons (sz := 3) (sz' := 3) rfl (by kernel_rfl) (rd_iso (rd_struct (sz := 3) Tryz.underlying63 (by kernel_rfl) (rdf_cons (sz := 1) (sz' := 2) rfl (by kernel_rfl) (rd_int Tryz.underlying3) (rdf_cons (sz := 1) (sz' := 1) rfl (by kernel_rfl) (rd_int Tryz.underlying3) (rdf_one rfl (by kernel_rfl) (rd_slice encEnt (fun _ => rfl) Tryz.underlying61 (by kernel_rfl) (by decide) (rd_iso (rd_struct (sz := 6) Tryz.underlying157 (by kernel_rfl) (rdf_cons (sz := 1) (sz' := 5) rfl (by kernel_rfl) (rd_int Tryz.underlying3) (rdf_one rfl (by kernel_rfl) (rd_iso (rd_struct (sz := 5) Tryz.underlying66 (by kernel_rfl) (rdf_cons (sz := 1) (sz' := 4) rfl (by kernel_rfl) (rd_int Tryz.underlying3) (rdf_cons (sz := 1) (sz' := 3) rfl (by kernel_rfl) (rd_int Tryz.underlying3) (rdf_cons (sz := 1) (sz' := 2) rfl (by kernel_rfl) (rd_int Tryz.underlying3) (rdf_cons (sz := 1) (sz' := 1) rfl (by kernel_rfl) (rd_int Tryz.underlying3) (rdf_one rfl (by kernel_rfl) (rd_str Tryz.underlying9))))))) (fun p => (⟨p.1, p.2.1, p.2.2.1, p.2.2.2.1, p.2.2.2.2⟩ : Cmd)) (f' := fun x : Cmd => [.int .i64 x.kind, .int .i64 x.release, .int .i64 x.node, .int .i64 x.size, .str x.digest]) (G' := fun c : Cmd => (c.digest.size : Int) ≤ big) (fun _ => rfl) (fun _ h => bigStr h.2.2.2.2))))) (fun p => (⟨p.1, p.2⟩ : Ent)) (f' := fun x : Ent => [.int .i64 x.term, .int .i64 x.cmd.kind, .int .i64 x.cmd.release, .int .i64 x.cmd.node, .int .i64 x.cmd.size, .str x.cmd.digest]) (G' := fun e : Ent => (e.cmd.digest.size : Int) ≤ big) (fun _ => rfl) (fun _ h => h.2))))))) (fun p => (⟨p.1, p.2.1, p.2.2⟩ : Hard)) (f' := fun x : Hard => [.int .i64 x.term, .int .i64 x.vote, .sl false 6 (x.log.map encEnt)]) (G' := fun r : Hard => BigE r.log) (fun _ => rfl) (fun _ h => ⟨bigLen h.2.2.1, h.2.2.2⟩)) (rdf_cons (sz := 1) (sz' := 2) rfl (by kernel_rfl) (rd_slice encI (fun _ => rfl) Tryz.underlying27 (by kernel_rfl) (by decide) (rd_int Tryz.underlying3)) (rdf_cons (sz := 1) (sz' := 1) rfl (by kernel_rfl) (rd_slice encI (fun _ => rfl) Tryz.underlying27 (by kernel_rfl) (by decide) (rd_int Tryz.underlying3)) (rdf_one rfl (by kernel_rfl) (rd_slice encI (fun _ => rfl) Tryz.underlying27 (by kernel_rfl) (by decide) (rd_int Tryz.underlying3))))))))))) (fun p => (⟨p.1, p.2.1, p.2.2.1, p.2.2.2.1, p.2.2.2.2.1, p.2.2.2.2.2.1, p.2.2.2.2.2.2.1, p.2.2.2.2.2.2.2⟩ : Raft)) (f' := fun x : Raft => [.int .i64 x.id, .int .i64 x.of_, .int .i64 x.role, .int .i64 x.commit, .int .i64 x.hard.term, .int .i64 x.hard.vote, .sl false 6 (x.hard.log.map encEnt), .sl false 1 (x.yes.map encI), .sl false 1 (x.next.map encI), .sl false 1 (x.match_.map encI)]) (G' := BigR) (fun _ => rfl) (fun _ h => ⟨h.2.2.2.2.1, bigLen h.2.2.2.2.2.1.1, bigLen h.2.2.2.2.2.2.1.1, bigLen h.2.2.2.2.2.2.2.1⟩))
set_option maxRecDepth 100000 in
theorem op1 {H : Type} {enc : TypeId × Value → H} {W : World} : RdV enc Tryz.prog W 68 16 (fun x : Msg => [.int .i64 x.kind, .int .i64 x.from_, .int .i64 x.term, .int .i64 x.at_, .int .i64 x.atTerm, .int .i64 x.commit, .bool x.yes, .int .i64 x.release, .int .i64 x.part, .str x.bytes, .int .i64 x.cmd.kind, .int .i64 x.cmd.release, .int .i64 x.cmd.node, .int .i64 x.cmd.size, .str x.cmd.digest, .sl false 6 (x.entries.map encEnt)]) (BigM) :=
  (rd_iso (rd_struct (sz := 16) Tryz.underlying68 (by kernel_rfl) (rdf_cons (sz := 1) (sz' := 15) rfl (by kernel_rfl) (rd_int Tryz.underlying3) (rdf_cons (sz := 1) (sz' := 14) rfl (by kernel_rfl) (rd_int Tryz.underlying3) (rdf_cons (sz := 1) (sz' := 13) rfl (by kernel_rfl) (rd_int Tryz.underlying3) (rdf_cons (sz := 1) (sz' := 12) rfl (by kernel_rfl) (rd_int Tryz.underlying3) (rdf_cons (sz := 1) (sz' := 11) rfl (by kernel_rfl) (rd_int Tryz.underlying3) (rdf_cons (sz := 1) (sz' := 10) rfl (by kernel_rfl) (rd_int Tryz.underlying3) (rdf_cons (sz := 1) (sz' := 9) rfl (by kernel_rfl) (rd_bool Tryz.underlying4) (rdf_cons (sz := 1) (sz' := 8) rfl (by kernel_rfl) (rd_int Tryz.underlying3) (rdf_cons (sz := 1) (sz' := 7) rfl (by kernel_rfl) (rd_int Tryz.underlying3) (rdf_cons (sz := 1) (sz' := 6) rfl (by kernel_rfl) (rd_str Tryz.underlying9) (rdf_cons (sz := 5) (sz' := 1) rfl (by kernel_rfl) (rd_iso (rd_struct (sz := 5) Tryz.underlying66 (by kernel_rfl) (rdf_cons (sz := 1) (sz' := 4) rfl (by kernel_rfl) (rd_int Tryz.underlying3) (rdf_cons (sz := 1) (sz' := 3) rfl (by kernel_rfl) (rd_int Tryz.underlying3) (rdf_cons (sz := 1) (sz' := 2) rfl (by kernel_rfl) (rd_int Tryz.underlying3) (rdf_cons (sz := 1) (sz' := 1) rfl (by kernel_rfl) (rd_int Tryz.underlying3) (rdf_one rfl (by kernel_rfl) (rd_str Tryz.underlying9))))))) (fun p => (⟨p.1, p.2.1, p.2.2.1, p.2.2.2.1, p.2.2.2.2⟩ : Cmd)) (f' := fun x : Cmd => [.int .i64 x.kind, .int .i64 x.release, .int .i64 x.node, .int .i64 x.size, .str x.digest]) (G' := fun c : Cmd => (c.digest.size : Int) ≤ big) (fun _ => rfl) (fun _ h => bigStr h.2.2.2.2)) (rdf_one rfl (by kernel_rfl) (rd_slice encEnt (fun _ => rfl) Tryz.underlying61 (by kernel_rfl) (by decide) (rd_iso (rd_struct (sz := 6) Tryz.underlying157 (by kernel_rfl) (rdf_cons (sz := 1) (sz' := 5) rfl (by kernel_rfl) (rd_int Tryz.underlying3) (rdf_one rfl (by kernel_rfl) (rd_iso (rd_struct (sz := 5) Tryz.underlying66 (by kernel_rfl) (rdf_cons (sz := 1) (sz' := 4) rfl (by kernel_rfl) (rd_int Tryz.underlying3) (rdf_cons (sz := 1) (sz' := 3) rfl (by kernel_rfl) (rd_int Tryz.underlying3) (rdf_cons (sz := 1) (sz' := 2) rfl (by kernel_rfl) (rd_int Tryz.underlying3) (rdf_cons (sz := 1) (sz' := 1) rfl (by kernel_rfl) (rd_int Tryz.underlying3) (rdf_one rfl (by kernel_rfl) (rd_str Tryz.underlying9))))))) (fun p => (⟨p.1, p.2.1, p.2.2.1, p.2.2.2.1, p.2.2.2.2⟩ : Cmd)) (f' := fun x : Cmd => [.int .i64 x.kind, .int .i64 x.release, .int .i64 x.node, .int .i64 x.size, .str x.digest]) (G' := fun c : Cmd => (c.digest.size : Int) ≤ big) (fun _ => rfl) (fun _ h => bigStr h.2.2.2.2))))) (fun p => (⟨p.1, p.2⟩ : Ent)) (f' := fun x : Ent => [.int .i64 x.term, .int .i64 x.cmd.kind, .int .i64 x.cmd.release, .int .i64 x.cmd.node, .int .i64 x.cmd.size, .str x.cmd.digest]) (G' := fun e : Ent => (e.cmd.digest.size : Int) ≤ big) (fun _ => rfl) (fun _ h => h.2)))))))))))))))) (fun p => (⟨p.1, p.2.1, p.2.2.1, p.2.2.2.1, p.2.2.2.2.1, p.2.2.2.2.2.1, p.2.2.2.2.2.2.1, p.2.2.2.2.2.2.2.1, p.2.2.2.2.2.2.2.2.1, p.2.2.2.2.2.2.2.2.2.1, p.2.2.2.2.2.2.2.2.2.2.1, p.2.2.2.2.2.2.2.2.2.2.2⟩ : Msg)) (f' := fun x : Msg => [.int .i64 x.kind, .int .i64 x.from_, .int .i64 x.term, .int .i64 x.at_, .int .i64 x.atTerm, .int .i64 x.commit, .bool x.yes, .int .i64 x.release, .int .i64 x.part, .str x.bytes, .int .i64 x.cmd.kind, .int .i64 x.cmd.release, .int .i64 x.cmd.node, .int .i64 x.cmd.size, .str x.cmd.digest, .sl false 6 (x.entries.map encEnt)]) (G' := BigM) (fun _ => rfl) (fun _ h => ⟨bigStr h.2.2.2.2.2.2.2.2.2.1, h.2.2.2.2.2.2.2.2.2.2.1, bigLen h.2.2.2.2.2.2.2.2.2.2.2.1, h.2.2.2.2.2.2.2.2.2.2.2.2⟩))
set_option maxRecDepth 100000 in
theorem lifted (os : Os) (started : os.Started) (H : Type) (enc : TypeId × Value → H) :
    ReturnsInHanded {} Tryz.checked os 10 .any (Rows.fnExactOnYesSpec.pre6 enc Tryz.prog Tryz.f10 Rows.fnExactOnYesRow.domain false) (Rows.fnExactOnYesSpec.post enc Tryz.prog Tryz.f10 false true false false) := by
  refine returnsInHanded_of_change_sized (C := Tryz.checked) own started (by kernel_rfl) Tryz.func10
    (ChangeSpec.witness6 (enc := enc) (C := Tryz.checked) false ⟨#[], #[.agg #[.int .i64 0, .int .i64 0, .int .i64 0, .int .i64 0, .int .i64 0, .int .i64 0, .slice none 0 0, .slice none 0 0, .slice none 0 0, .slice none 0 0], .agg #[.int .i64 0, .int .i64 0, .int .i64 0, .int .i64 0, .int .i64 0, .int .i64 0, .bool false, .int .i64 0, .int .i64 0, .string ByteArray.empty, .int .i64 0, .int .i64 0, .int .i64 0, .int .i64 0, .string ByteArray.empty, .slice none 0 0]], []⟩ 8 (by kernel_rfl) (by kernel_rfl) (by kernel_rfl) (by kernel_rfl)) ?_
  intro W base args ds gs before hval0 hW hcnd hsz0 _
  have hval : ∀ (j : Nat) t v, Tryz.f10.params[j]? = some t → args[j]? = some v → Value.okWide Tryz.prog W .any base t v := hval0
  have hW' := hW
  obtain ⟨p, q, hA0, hV, rfl, hfz, hnd⟩ := hW
  have hA : DataW.TrodAll enc Tryz.prog W 0 (fun _ => true) true Tryz.f10.params.toList args.toList ds p := hA0
  rw [Tryz.params10] at hA hval
  obtain ⟨v0, vs0, d0, ds0, p0, q0, hargs, rfl, rfl, h0, r0⟩ := trodAll_cons hA
  obtain ⟨v1, vs1, d1, ds1, p1, q1, rfl, rfl, rfl, h1, r1⟩ := trodAll_cons r0
  obtain ⟨rfl, rfl, rfl⟩ := trodAll_nil r1
  obtain rfl : args = #[v0, v1] := by cases args; simp_all
  obtain ⟨rfl, rfl⟩ := trodVars_none hV
  have k0 := h0
  have lt0 : ∀ x ∈ p0, x.block < W.heap.size := by obtain ⟨m, hm⟩ := k0; exact DataW.trod_lt m _ _ _ hm
  obtain ⟨cs0, rfl⟩ := agg_of Tryz.underlying65 (hval 0 65 v0 rfl rfl)
  obtain ⟨fuel0, hf0⟩ := h0
  obtain ⟨y0, K0, _, G0⟩ := (op0 (enc := enc) (W := W)) fuel0 _ _ hf0
  have k1 := h1
  have lt1 : ∀ x ∈ p1, x.block < W.heap.size := by obtain ⟨m, hm⟩ := k1; exact DataW.trod_lt m _ _ _ hm
  obtain ⟨cs1, rfl⟩ := agg_of Tryz.underlying68 (hval 1 68 v1 rfl rfl)
  obtain ⟨fuel1, hf1⟩ := h1
  obtain ⟨y1, K1, _, G1⟩ := (op1 (enc := enc) (W := W)) fuel1 _ _ hf1
  clear hA0 hval0 hsz0
  refine (law_calls (W := W) (laws_FnExactOnYes_spec y0 y1 G0 G1) rfl (fun k x hx => ?_)).mono fun e W' ⟨he, bel0⟩ => ?_
  · match k, hx with
    | 0, hx => simp at hx; subst hx; exact rep_agg2 K0
    | 1, hx => simp at hx; subst hx; exact rep_agg2 K1
    | _ + 2, hx => simp at hx
  have bel : Below W.heap.size W W' := bel0
  subst he
  exact ⟨_, rfl, _, _, _, [], _, [], hW', trodAll_mk1 (shut_bool Tryz.underlying4 _), (trodAll_cons_mk (Below.trod laidOut (by kernel_rfl) (of_decide_eq_true (by kernel_rfl)) k0 bel lt0) (trodAll_cons_mk (Below.trod laidOut (by kernel_rfl) (of_decide_eq_true (by kernel_rfl)) k1 bel lt1) trodAll_mk0)), rfl, bel.frame _, fun h => by cases h⟩
theorem over : Rows.fnExactOnYesRow.holds Tryz.pinned (OpenSpec.ofChange Rows.fnExactOnYesSpec) :=
  OpenClaim.holds_of_wide 10 Tryz.f10 rfl rfl rfl rfl rfl rfl rfl ⟨rfl, rfl, rfl, rfl, rfl⟩ rfl rfl rfl rfl rfl (by kernel_rfl) Tryz.func10 (by kernel_rfl)
    (of_decide_eq_true (by kernel_rfl)) (by unfold Func.isWrapper; first | (rw [if_pos (by decide +kernel)]; kernel_rfl) | (rw [if_neg (by decide +kernel)]; exact ⟨rfl, rfl⟩))
    (fun os started H enc _ => lifted os started H enc)
theorem proved : Rows.FnExactOnYesSaid := over
#print axioms proved
end Go.Proofs.YtlmadhahghiedaaGreat.fnExactOnYes
namespace Go.Proofs.YtlmadhahghiedaaGreat
/-- The row, under a short name, for the claim. -/
theorem fnExactOnYes_holds : Rows.FnExactOnYesSaid := fnExactOnYes.proved
end Go.Proofs.YtlmadhahghiedaaGreat
