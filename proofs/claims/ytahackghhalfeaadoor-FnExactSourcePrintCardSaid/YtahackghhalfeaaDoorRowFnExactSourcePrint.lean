/- The row of the law FnExactSourcePrint: for every input the call answers true and its arguments read as before. Out of the contract of the law's function; written by a program of this session (wip/sy/g/symrow.py). -/
import Derived.Test.YtahackghhalfeaaDoorRows
import Derived.Test.YtahackghhalfeaaDoorFFnExactSourcePrint2
import Derived.WalkKit
import Derived.ProofKit
import Derived.OpenShut
import Derived.ShutString
import Derived.ChangeOld
import Derived.Below
import Derived.SizedLaws
import Derived.LaidMore
import Derived.Test.YtahackghhalfeaaDoorSXSourcePrintG4
import Derived.SevenTiedAt
import Derived.Test.YtahackghhalfeaaDoorTie
import Derived.Test.YtahackghhalfeaaDoorCards
import Derived.Lay
namespace Go.Proofs.YtahackghhalfeaaDoor.fnExactSourcePrint
open Go Go.Sy Go.ChangeShapes Go.WideShapes Go.ChangeAt Go.RowKit
open Go.ChangeMaps (open_string shut_string)
set_option linter.unusedVariables false
set_option linter.unusedSimpArgs false
/-- What the row lists. -/
def laid : List (String × DataW Unit) := [("math/bits.deBruijn32tab", Rows.laid_math_bits_deBruijn32tab), ("math/bits.deBruijn64tab", Rows.laid_math_bits_deBruijn64tab), ("internal/strconv.uint64pow10", Rows.laid_internal_strconv_uint64pow10)]
theorem own : ownKnob Tryd.prog.godebug = none := by kernel_rfl
theorem laidOut : laidOutB Tryd.prog = true := by kernel_rfl
theorem agg_of {P : Program} {W : World} {r : Reach} {b : Nat} {t : TypeId} {fs : Array Field} {v : Value} (hs : P.underlying t = some (.struct fs)) (h : Value.okWide P W r b t v) : ∃ cs : Array Value, v = .agg cs := by
  unfold Value.okWide at h
  rw [hs] at h
  obtain ⟨cs, e, _⟩ := h
  exact ⟨cs, e⟩
theorem one_of {P : Program} {W : World} {r : Reach} {b : Nat} {t e : TypeId} {v : Value} (hs : P.underlying t = some (.slice e)) (h : Value.okWide P W r b t v) : v.cells = #[v] := by
  unfold Value.okWide at h
  rw [hs] at h
  cases v <;> first | rfl | (simp [Cell.okWide, Cell.ok, hs] at h)
set_option maxRecDepth 100000 in
theorem op0 {H : Type} {enc : TypeId × Value → H} {W : World} : RdV enc Tryd.prog W 26 3 (fun x : Srce => [.sl false 9 (x.rules.map encRul), .sl false 3 (x.zones.map encZon), .sl false 2 (x.links.map encLnk)]) (BigSrc) :=
  (rd_iso (rd_struct (sz := 3) Tryd.underlying26 (by kernel_rfl) (rdf_cons (sz := 1) (sz' := 2) rfl (by kernel_rfl) (rd_slice encRul (fun _ => rfl) Tryd.underlying22 (by kernel_rfl) (by decide) (rd_iso (rd_struct (sz := 9) Tryd.underlying68 (by kernel_rfl) (rdf_cons (sz := 1) (sz' := 8) rfl (by kernel_rfl) (rd_int Tryd.underlying3) (rdf_cons (sz := 1) (sz' := 7) rfl (by kernel_rfl) (rd_int Tryd.underlying3) (rdf_cons (sz := 1) (sz' := 6) rfl (by kernel_rfl) (rd_int Tryd.underlying3) (rdf_cons (sz := 1) (sz' := 5) rfl (by kernel_rfl) (rd_int Tryd.underlying3) (rdf_cons (sz := 3) (sz' := 2) rfl (by kernel_rfl) (rd_iso (rd_struct (sz := 3) Tryd.underlying66 (by kernel_rfl) (rdf_cons (sz := 1) (sz' := 2) rfl (by kernel_rfl) (rd_int Tryd.underlying3) (rdf_cons (sz := 1) (sz' := 1) rfl (by kernel_rfl) (rd_int Tryd.underlying3) (rdf_one rfl (by kernel_rfl) (rd_int Tryd.underlying3))))) (fun p => (⟨p.1, p.2.1, p.2.2⟩ : On)) (f' := fun x : On => [.int .i64 x.kind, .int .i64 x.day, .int .i64 x.week]) (G' := fun _ : On => True) (fun _ => rfl) (fun _ h => trivial)) (rdf_cons (sz := 1) (sz' := 1) rfl (by kernel_rfl) (rd_int Tryd.underlying3) (rdf_one rfl (by kernel_rfl) (rd_int Tryd.underlying3))))))))) (fun p => (⟨p.1, p.2.1, p.2.2.1, p.2.2.2.1, p.2.2.2.2.1, p.2.2.2.2.2.1, p.2.2.2.2.2.2⟩ : Rul)) (f' := fun x : Rul => [.int .i64 x.name, .int .i64 x.from_, .int .i64 x.to, .int .i64 x.month, .int .i64 x.on.kind, .int .i64 x.on.day, .int .i64 x.on.week, .int .i64 x.at_, .int .i64 x.save]) (G' := fun _ : Rul => True) (fun _ => rfl) (fun _ h => trivial))) (rdf_cons (sz := 1) (sz' := 1) rfl (by kernel_rfl) (rd_slice encZon (fun _ => rfl) Tryd.underlying23 (by kernel_rfl) (by decide) (rd_iso (rd_struct (sz := 3) Tryd.underlying70 (by kernel_rfl) (rdf_cons (sz := 1) (sz' := 2) rfl (by kernel_rfl) (rd_int Tryd.underlying3) (rdf_cons (sz := 1) (sz' := 1) rfl (by kernel_rfl) (rd_int Tryd.underlying3) (rdf_one rfl (by kernel_rfl) (rd_int Tryd.underlying3))))) (fun p => (⟨p.1, p.2.1, p.2.2⟩ : Zon)) (f' := fun x : Zon => [.int .i64 x.name, .int .i64 x.off, .int .i64 x.rule]) (G' := fun _ : Zon => True) (fun _ => rfl) (fun _ h => trivial))) (rdf_one rfl (by kernel_rfl) (rd_slice encLnk (fun _ => rfl) Tryd.underlying24 (by kernel_rfl) (by decide) (rd_iso (rd_struct (sz := 2) Tryd.underlying72 (by kernel_rfl) (rdf_cons (sz := 1) (sz' := 1) rfl (by kernel_rfl) (rd_int Tryd.underlying3) (rdf_one rfl (by kernel_rfl) (rd_int Tryd.underlying3)))) (fun p => (⟨p.1, p.2⟩ : Lnk)) (f' := fun x : Lnk => [.int .i64 x.name, .int .i64 x.to]) (G' := fun _ : Lnk => True) (fun _ => rfl) (fun _ h => trivial))))))) (fun p => (⟨p.1, p.2.1, p.2.2⟩ : Srce)) (f' := fun x : Srce => [.sl false 9 (x.rules.map encRul), .sl false 3 (x.zones.map encZon), .sl false 2 (x.links.map encLnk)]) (G' := BigSrc) (fun _ => rfl) (fun _ h => ⟨bigLen h.1.1, bigLen h.2.1.1, bigLen h.2.2.1⟩))
set_option maxRecDepth 100000 in
theorem lifted (os : Os) (started : os.Started) (H : Type) (enc : TypeId × Value → H) :
    ReturnsInHanded {} Tryd.checked os 3 .any (fun w args => (Rows.fnExactSourcePrintSpec.pre enc Tryd.prog Tryd.f3 Rows.fnExactSourcePrintRow.domain false w args ∧ laidMetH Tryd.prog laid w) ∧ sizedMet enc Tryd.prog Tryd.f3 (OpenSpec.ofChange Rows.fnExactSourcePrintSpec) false w args)
      (Rows.fnExactSourcePrintSpec.post enc Tryd.prog Tryd.f3 false true false false) := by
  refine OnRd.handed_shaped (C := Tryd.checked) (X := fun w _ => laidMetH Tryd.prog laid w) (fun _ _ _ hh h => h.of_heap hh) own started (by kernel_rfl) Tryd.func3
    (ChangeSpec.witness_shaped (enc := enc) (C := Tryd.checked) (os := os) (X := fun w _ => laidMetH Tryd.prog laid w) false (World.laidAll Tryd.prog os laid) #[.agg #[.slice none 0 0, .slice none 0 0, .slice none 0 0]] 8 (World.laidAll_os _ _ _)
      (World.shaped_of_ZipB (by kernel_rfl) (by kernel_rfl)) (by kernel_rfl) (by kernel_rfl) (by kernel_rfl)
      (by rw [MakeChecks.laidMetH_plain _ _ _ (by kernel_rfl)]; exact laidMet_laidAll _ (by kernel_rfl) (by kernel_rfl))) ?_
  intro W base args ds gs before hval0 hW hlaid hsh
  have hval : ∀ (j : Nat) t v, Tryd.f3.params[j]? = some t → args[j]? = some v → Value.okWide Tryd.prog W .any base t v := hval0
  have hW' := hW
  obtain ⟨p, q, hA0, hV, rfl, hfz, hnd⟩ := hW
  have hA : DataW.TrodAll enc Tryd.prog W 0 (fun _ => true) true Tryd.f3.params.toList args.toList ds p := hA0
  rw [Tryd.params3] at hA hval
  obtain ⟨v0, vs0, d0, ds0, p0, q0, hargs, rfl, rfl, h0, r0⟩ := trodAll_cons hA
  obtain ⟨rfl, rfl, rfl⟩ := trodAll_nil r0
  obtain rfl : args = #[v0] := by cases args; simp_all
  obtain ⟨rfl, rfl⟩ := trodVars_none hV
  have k0 := h0
  have lt0 : ∀ x ∈ p0, x.block < W.heap.size := by obtain ⟨m, hm⟩ := k0; exact DataW.trod_lt m _ _ _ hm
  obtain ⟨cs0, rfl⟩ := agg_of Tryd.underlying26 (hval 0 26 v0 rfl rfl)
  obtain ⟨fuel0, hf0⟩ := h0
  obtain ⟨y0, K0, _, G0⟩ := (op0 (enc := enc) (W := W)) fuel0 _ _ hf0
  clear hA0 hval0
  refine (lawQ_calls (W := W) (OnRd.gl_of hsh hlaid) (laws_FnExactSourcePrint_spec y0 G0) rfl (fun k x hx => ?_)).mono fun e W' ⟨he, bel0⟩ => ?_
  · match k, hx with
    | 0, hx => simp at hx; subst hx; exact rep_agg2 K0
    | _ + 1, hx => simp at hx
  have bel : Below W.heap.size W W' := bel0
  subst he
  exact ⟨_, rfl, _, _, _, [], _, [], hW', trodAll_mk1 (shut_bool Tryd.underlying4 _), (trodAll_cons_mk (Below.trod laidOut (by kernel_rfl) (of_decide_eq_true (by kernel_rfl)) k0 bel lt0) trodAll_mk0), rfl, bel.frame _, fun h => by cases h⟩
theorem over : Rows.fnExactSourcePrintRow.holds Tryd.pinned (OpenSpec.ofChange Rows.fnExactSourcePrintSpec) :=
  OpenClaim.holds_of_wide 3 Tryd.f3 rfl rfl rfl rfl rfl rfl rfl ⟨rfl, rfl, rfl, rfl, rfl⟩ rfl rfl rfl rfl rfl (by kernel_rfl) Tryd.func3 (by kernel_rfl)
    (of_decide_eq_true (by kernel_rfl)) (by unfold Func.isWrapper; first | (rw [if_pos (by decide +kernel)]; kernel_rfl) | (rw [if_neg (by decide +kernel)]; exact ⟨rfl, rfl⟩))
    (fun os started H enc _ => lifted os started H enc)
theorem proved : Rows.FnExactSourcePrintSaid := over
#print axioms proved
/-- The tied card. -/
theorem card : Rows.FnExactSourcePrintCardSaid :=
  Claim7.holds_tied_plain_at .later [] [.data, .data, .data] true (true, "19476a27978d0f441b8d5e58b89efe093cbb04c61a36594beed05a863072bfb4") false over (fun _ h => by cases h) (by kernel_rfl) (fun _ h => by cases h) fnExactSourcePrint_row_tie rfl ⟨rfl, rfl⟩ (by kernel_rfl) rfl
    (fun f fn hf hfn => by
      obtain rfl : f = 3 := Option.some.inj ((show Tryd.prog.funcNamed "loop.example/g00106/laws.FnExactSourcePrint" = some 3 by kernel_rfl).symm.trans hf) |>.symm
      obtain rfl : fn = Tryd.f3 := (Option.some.inj (Tryd.func3.symm.trans hfn)).symm
      exact ⟨by kernel_rfl, fun j t ht => by
        rw [Tryd.params3] at ht
        have hm : t ∈ [26] := by simpa using Array.mem_of_getElem? ht
        have hall : ([26].all fun u => !Tryd.prog.wantsStandIn u) = true := by kernel_rfl
        exact (show Tryd.prog.wantsStandIn t = false by simpa using List.all_eq_true.1 hall t hm)⟩)
    (by kernel_rfl)
#print axioms card
end Go.Proofs.YtahackghhalfeaaDoor.fnExactSourcePrint
namespace Go.Proofs.YtahackghhalfeaaDoor
/-- The row, under a short name, for the claim. -/
theorem fnExactSourcePrint_holds : Rows.FnExactSourcePrintCardSaid := fnExactSourcePrint.card
end Go.Proofs.YtahackghhalfeaaDoor
