-- Written by a program of this session (wip/opq/msgfits.py).
import Derived.Test.YtngilepbpfdigaaQFnExactMsgFitsx11
import Derived.Test.YtngilepbpfdigaaQFnExactMsgFitsx12
import Derived.Test.YtngilepbpfdigaaQFnExactMsgFitsx13
namespace Go.Proofs.Ytngilepbpfdigaa.QFnExactMsgFits
open Go.RowKit Go.Proofs.YtngilepbpfdigaaW.PrintWords Go.Proofs.YtngilepbpfdigaaW.PrintLast Go.Proofs.YtngilepbpfdigaaW.PrintMore Go.Proofs.Ytngilepbpfdigaa.Pure
set_option linter.unusedVariables false
set_option linter.unusedSimpArgs false
def szF (k : Nat) (x : X26) (a : Int) : Option Int := laws_szMsg.f k x.1 x.2.1 x.2.2.1 x.2.2.2.1 x.2.2.2.2.1 x.2.2.2.2.2.1 x.2.2.2.2.2.2.1 x.2.2.2.2.2.2.2.1 x.2.2.2.2.2.2.2.2.1 x.2.2.2.2.2.2.2.2.2.1 x.2.2.2.2.2.2.2.2.2.2.1 x.2.2.2.2.2.2.2.2.2.2.2.1 x.2.2.2.2.2.2.2.2.2.2.2.2.1 x.2.2.2.2.2.2.2.2.2.2.2.2.2.1 x.2.2.2.2.2.2.2.2.2.2.2.2.2.2.1 x.2.2.2.2.2.2.2.2.2.2.2.2.2.2.2 a
def toF (k : Nat) (x : X26) : Option X32 := laws_toMsg.f k x.1 x.2.1 x.2.2.1 x.2.2.2.1 x.2.2.2.2.1 x.2.2.2.2.2.1 x.2.2.2.2.2.2.1 x.2.2.2.2.2.2.2.1 x.2.2.2.2.2.2.2.2.1 x.2.2.2.2.2.2.2.2.2.1 x.2.2.2.2.2.2.2.2.2.2.1 x.2.2.2.2.2.2.2.2.2.2.2.1 x.2.2.2.2.2.2.2.2.2.2.2.2.1 x.2.2.2.2.2.2.2.2.2.2.2.2.2.1 x.2.2.2.2.2.2.2.2.2.2.2.2.2.2.1 x.2.2.2.2.2.2.2.2.2.2.2.2.2.2.2
def eqF (k : Nat) (x y : X32) : Option Bool := laws_eqMsg.f k x.1 x.2.1 x.2.2.1 x.2.2.2.1 x.2.2.2.2.1 x.2.2.2.2.2.1 x.2.2.2.2.2.2.1 x.2.2.2.2.2.2.2.1 x.2.2.2.2.2.2.2.2.1 x.2.2.2.2.2.2.2.2.2.1 x.2.2.2.2.2.2.2.2.2.2.1 x.2.2.2.2.2.2.2.2.2.2.2.1 x.2.2.2.2.2.2.2.2.2.2.2.2.1 x.2.2.2.2.2.2.2.2.2.2.2.2.2.1 x.2.2.2.2.2.2.2.2.2.2.2.2.2.2.1 x.2.2.2.2.2.2.2.2.2.2.2.2.2.2.2 y.1 y.2.1 y.2.2.1 y.2.2.2.1 y.2.2.2.2.1 y.2.2.2.2.2.1 y.2.2.2.2.2.2.1 y.2.2.2.2.2.2.2.1 y.2.2.2.2.2.2.2.2.1 y.2.2.2.2.2.2.2.2.2.1 y.2.2.2.2.2.2.2.2.2.2.1 y.2.2.2.2.2.2.2.2.2.2.2.1 y.2.2.2.2.2.2.2.2.2.2.2.2.1 y.2.2.2.2.2.2.2.2.2.2.2.2.2.1 y.2.2.2.2.2.2.2.2.2.2.2.2.2.2.1 y.2.2.2.2.2.2.2.2.2.2.2.2.2.2.2
def spB (y : X32) : Bool := fitsS y.1 y.2.1 y.2.2.1 y.2.2.2.1 y.2.2.2.2.1 y.2.2.2.2.2.1 y.2.2.2.2.2.2.1 y.2.2.2.2.2.2.2.1 y.2.2.2.2.2.2.2.2.1 y.2.2.2.2.2.2.2.2.2.1 y.2.2.2.2.2.2.2.2.2.2.1 y.2.2.2.2.2.2.2.2.2.2.2.1 y.2.2.2.2.2.2.2.2.2.2.2.2.1 y.2.2.2.2.2.2.2.2.2.2.2.2.2.1 y.2.2.2.2.2.2.2.2.2.2.2.2.2.2.1 y.2.2.2.2.2.2.2.2.2.2.2.2.2.2.2
noncomputable def lawF (k : Nat) (x : X26) : Option Bool := (szF k x 1048576).bind fun t => if t < 0 then some true else (toF k x).bind fun y => (toF k x).bind fun z => if z.2.2.2.2.2.2.2.2.2.2.2.2.2.2.2.length ≤ 1048576 then (if (fitsI z != spB y) = true then some false else (toF k x).bind fun u => (eqF k z u).bind fun q => if q = true then some true else some false) else none
/-! ### laws_FnExactMsgFits: function 4 -/
noncomputable def laws_FnExactMsgFits.f (k : Nat) (a0_0 : Int) (a0_1 : Int) (a0_2 : Int) (a0_3 : Int) (a0_4 : Int) (a0_5 : Int) (a0_6 : Bool) (a0_7 : Int) (a0_8 : Int) (a0_9 : ByteArray) (a0_10 : Int) (a0_11 : Int) (a0_12 : Int) (a0_13 : Int) (a0_14 : ByteArray) (l0_15 : List (S53)) : Option Bool := lawF k (a0_0, a0_1, a0_2, a0_3, a0_4, a0_5, a0_6, a0_7, a0_8, a0_9, a0_10, a0_11, a0_12, a0_13, a0_14, l0_15)
theorem sz_o (k : Nat) (x : X26) (a r : Int) (cs : Array Value) (w : World) (hx : M26 w x cs) (h : szF k x a = some r) :
    Calls Try.prog 5 #[.agg cs, .int .i64 a] w fun e w' => e = .returned (.int .i64 r) ∧ Below w.heap.size w w' := by
  obtain ⟨A, c, rfl, hc, hr⟩ := hx
  exact laws_szMsg.calls k x.1 x.2.1 x.2.2.1 x.2.2.2.1 x.2.2.2.2.1 x.2.2.2.2.2.1 x.2.2.2.2.2.2.1 x.2.2.2.2.2.2.2.1 x.2.2.2.2.2.2.2.2.1 x.2.2.2.2.2.2.2.2.2.1 x.2.2.2.2.2.2.2.2.2.2.1 x.2.2.2.2.2.2.2.2.2.2.2.1 x.2.2.2.2.2.2.2.2.2.2.2.2.1 x.2.2.2.2.2.2.2.2.2.2.2.2.2.1 x.2.2.2.2.2.2.2.2.2.2.2.2.2.2.1 A c x.2.2.2.2.2.2.2.2.2.2.2.2.2.2.2 a r w hr hc h
theorem to_o (k : Nat) (x : X26) (y : X32) (cs : Array Value) (w : World) (hx : M26 w x cs) (h : toF k x = some y) :
    Calls Try.prog 7 #[.agg cs] w fun e w' => ∃ ds, e = .returned (.agg ds) ∧ M32 w' y ds ∧ Below w.heap.size w w' := by
  obtain ⟨A, c, rfl, hc, hr⟩ := hx
  refine (laws_toMsg.calls k x.1 x.2.1 x.2.2.1 x.2.2.2.1 x.2.2.2.2.1 x.2.2.2.2.2.1 x.2.2.2.2.2.2.1 x.2.2.2.2.2.2.2.1 x.2.2.2.2.2.2.2.2.1 x.2.2.2.2.2.2.2.2.2.1 x.2.2.2.2.2.2.2.2.2.2.1 x.2.2.2.2.2.2.2.2.2.2.2.1 x.2.2.2.2.2.2.2.2.2.2.2.2.1 x.2.2.2.2.2.2.2.2.2.2.2.2.2.1 x.2.2.2.2.2.2.2.2.2.2.2.2.2.2.1 A c x.2.2.2.2.2.2.2.2.2.2.2.2.2.2.2 y.1 y.2.1 y.2.2.1 y.2.2.2.1 y.2.2.2.2.1 y.2.2.2.2.2.1 y.2.2.2.2.2.2.1 y.2.2.2.2.2.2.2.1 y.2.2.2.2.2.2.2.2.1 y.2.2.2.2.2.2.2.2.2.1 y.2.2.2.2.2.2.2.2.2.2.1 y.2.2.2.2.2.2.2.2.2.2.2.1 y.2.2.2.2.2.2.2.2.2.2.2.2.1 y.2.2.2.2.2.2.2.2.2.2.2.2.2.1 y.2.2.2.2.2.2.2.2.2.2.2.2.2.2.1 y.2.2.2.2.2.2.2.2.2.2.2.2.2.2.2 w hr hc h).mono ?_
  rintro e w' ⟨v, rfl, hR, hb⟩
  obtain ⟨A', c', rfl, hl, hC⟩ := Kd.R_reads hR
  exact ⟨_, rfl, ⟨A', c', rfl, hl, hC⟩, hb⟩
theorem sp_o (y : X32) (cs : Array Value) (w : World) (hy : M32 w y cs) :
    Calls Try.prog 10 #[.agg cs] w fun e w' => e = .returned (.bool (spB y)) ∧ Below w.heap.size w w' := by
  obtain ⟨A, c, rfl, hc, hr⟩ := hy
  exact spec_MsgFits.t y.1 y.2.1 y.2.2.1 y.2.2.2.1 y.2.2.2.2.1 y.2.2.2.2.2.1 y.2.2.2.2.2.2.1 y.2.2.2.2.2.2.2.1 y.2.2.2.2.2.2.2.2.1 y.2.2.2.2.2.2.2.2.2.1 y.2.2.2.2.2.2.2.2.2.2.1 y.2.2.2.2.2.2.2.2.2.2.2.1 y.2.2.2.2.2.2.2.2.2.2.2.2.1 y.2.2.2.2.2.2.2.2.2.2.2.2.2.1 y.2.2.2.2.2.2.2.2.2.2.2.2.2.2.1 A c y.2.2.2.2.2.2.2.2.2.2.2.2.2.2.2 w hr hc
theorem eq_o (k : Nat) (x y : X32) (r : Bool) (cs ds : Array Value) (w : World) (hx : M32 w x cs) (hy : M32 w y ds) (h : eqF k x y = some r) :
    Calls Try.prog 9 #[.agg cs, .agg ds] w fun e w' => e = .returned (.bool r) ∧ Below w.heap.size w w' := by
  obtain ⟨A0, c0, rfl, hc0, hr0⟩ := hx
  obtain ⟨A1, c1, rfl, hc1, hr1⟩ := hy
  exact laws_eqMsg.calls k x.1 x.2.1 x.2.2.1 x.2.2.2.1 x.2.2.2.2.1 x.2.2.2.2.2.1 x.2.2.2.2.2.2.1 x.2.2.2.2.2.2.2.1 x.2.2.2.2.2.2.2.2.1 x.2.2.2.2.2.2.2.2.2.1 x.2.2.2.2.2.2.2.2.2.2.1 x.2.2.2.2.2.2.2.2.2.2.2.1 x.2.2.2.2.2.2.2.2.2.2.2.2.1 x.2.2.2.2.2.2.2.2.2.2.2.2.2.1 x.2.2.2.2.2.2.2.2.2.2.2.2.2.2.1 A0 c0 x.2.2.2.2.2.2.2.2.2.2.2.2.2.2.2 y.1 y.2.1 y.2.2.1 y.2.2.2.1 y.2.2.2.2.1 y.2.2.2.2.2.1 y.2.2.2.2.2.2.1 y.2.2.2.2.2.2.2.1 y.2.2.2.2.2.2.2.2.1 y.2.2.2.2.2.2.2.2.2.1 y.2.2.2.2.2.2.2.2.2.2.1 y.2.2.2.2.2.2.2.2.2.2.2.1 y.2.2.2.2.2.2.2.2.2.2.2.2.1 y.2.2.2.2.2.2.2.2.2.2.2.2.2.1 y.2.2.2.2.2.2.2.2.2.2.2.2.2.2.1 A1 c1 y.2.2.2.2.2.2.2.2.2.2.2.2.2.2.2 r w hr0 hc0 hr1 hc1 h
set_option maxHeartbeats 8000000 in
set_option maxRecDepth 100000 in
theorem law_o (k : Nat) (x : X26) (cs : Array Value) (r : Bool) (w : World) (hx : M26 w x cs) (h : lawF k x = some r) :
    Calls Try.prog 4 #[.agg cs] w fun e w' => e = .returned (.bool r) ∧ Below w.heap.size w w' := by
  have X0 := Aside0.mk hx
  have Z0 := Aside0.mk hx.sz
  clear hx
  unfold lawF at h
  obtain ⟨t, A1_, H⟩ := Option.bind_eq_some_iff.mp h
  have A1 := Aside0.mk A1_
  clear A1_ h
  have HH := Aside0.mk H
  clear H
  go_enter Try.func4, Try.ntmps4
  go_upto_if 11 with (first
    | ((with_reducible refine gate_dst (N := 1) rfl ?_); refine box_event ?hg (N := 1) ?hd (cs := cs) (t := 26) ?hr ?_; (case hd => rfl); (case hg => rfl); (case hr => first | (go_simp; done) | (go_simp; rfl)); intro b1 hg w1 hbox hb; have K1 := Aside0.mk hbox; have HB := Aside0.mk hb; clear hg hbox hb)
    | ((with_reducible refine gate_dst (N := 7) rfl ?_); refine wpList_load_row rfl 26 (.tmp 1) rfl b1 rfl 26 cs (0, 0) _ K1.out Try.underlying26 rfl Z0.out ?_; (try simp only [Act.put, List.setIfInBounds_toArray, List.set_cons_zero, List.set_cons_succ]))
    | ((with_reducible refine gate_dst (N := 9) rfl ?_); refine goesL_ (some 9) rfl rfl Try.func5 (by kernel_rfl) rfl #[.agg cs, .int .i64 1048576] rfl (by (try simp only [List.map_toArray, List.map_cons, List.map_nil]); first | done | rfl) ?_; refine (sz_o k x 1048576 t cs _ (X0.out.below HB.out) A1.out).mono ?_; rintro e w3 ⟨rfl, hb⟩; refine ⟨_, rfl, ?_⟩; have K1_ := Aside0.mk (blk_below K1.out hb); have HB_ := Aside0.mk (below_step HB.out hb); clear K1 HB; have K1 := K1_; have HB := HB_; clear K1_ HB_; clear hb; (try simp only [Act.put, List.setIfInBounds_toArray, List.set_cons_zero, List.set_cons_succ])))
  have H := HH.out
  clear HH
  by_cases q1 : t < 0
  · rw [if_pos q1] at H
    have qb : decide (t < 0) = true := decide_eq_true q1
    clear q1
    (first | rw [qb] | (simp only [i64_w, i32_w]; rw [qb]) | skip)
    obtain rfl := Option.some.inj H
    go_wp2
    go_ret
    exact ⟨rfl, HB.out⟩
  rw [if_neg q1] at H
  have qb : decide (t < 0) = false := decide_eq_false q1
  clear q1
  (first | rw [qb] | (simp only [i64_w, i32_w]; rw [qb]) | skip)
  replace H := Option.bind_eq_some_iff.mp H
  obtain ⟨y, A2_, H⟩ := H
  have A2 := Aside0.mk A2_
  clear A2_
  replace H := Option.bind_eq_some_iff.mp H
  obtain ⟨z, A3_, H⟩ := H
  have A3 := Aside0.mk A3_
  clear A3_
  by_cases hl : z.2.2.2.2.2.2.2.2.2.2.2.2.2.2.2.length ≤ 1048576
  case neg => rw [if_neg hl] at H; cases H
  rw [if_pos hl] at H
  have HL := Aside0.mk hl
  clear hl
  have HH := Aside0.mk H
  clear H
  go_upto_if 21 with (first
    | ((with_reducible refine gate_dst (N := 12) rfl ?_); refine wpList_load_row rfl 26 (.tmp 1) rfl b1 rfl 26 cs (0, 0) _ K1.out Try.underlying26 rfl Z0.out ?_; (try simp only [Act.put, List.setIfInBounds_toArray, List.set_cons_zero, List.set_cons_succ]))
    | ((with_reducible refine gate_dst (N := 13) rfl ?_); refine goesL_ (some 13) rfl rfl Try.func7 (by kernel_rfl) rfl #[.agg cs] rfl (by (try simp only [List.map_toArray, List.map_cons, List.map_nil]); first | done | rfl) ?_; refine (to_o k x y cs _ (X0.out.below HB.out) A2.out).mono ?_; rintro e wq ⟨ds, rfl, hm, hb⟩; refine ⟨_, rfl, ?_⟩; have Y0 := Aside0.mk hm; clear hm; have K1_ := Aside0.mk (blk_below K1.out hb); have HB_ := Aside0.mk (below_step HB.out hb); clear K1 HB; have K1 := K1_; have HB := HB_; clear K1_ HB_; clear hb; (try simp only [Act.put, List.setIfInBounds_toArray, List.set_cons_zero, List.set_cons_succ]))
    | ((with_reducible refine gate_dst (N := 14) rfl ?_); refine goesL_ (some 14) rfl rfl Try.func10 (by kernel_rfl) rfl #[.agg ds] rfl (by (try simp only [List.map_toArray, List.map_cons, List.map_nil]); first | done | rfl) ?_; refine (sp_o y ds _ Y0.out).mono ?_; rintro e wq ⟨rfl, hb⟩; refine ⟨_, rfl, ?_⟩; have K1_ := Aside0.mk (blk_below K1.out hb); have HB_ := Aside0.mk (below_step HB.out hb); clear K1 HB; have K1 := K1_; have HB := HB_; clear K1_ HB_; clear hb; (try simp only [Act.put, List.setIfInBounds_toArray, List.set_cons_zero, List.set_cons_succ]))
    | ((with_reducible refine gate_dst (N := 15) rfl ?_); refine wpList_load_row rfl 26 (.tmp 1) rfl b1 rfl 26 cs (0, 0) _ K1.out Try.underlying26 rfl Z0.out ?_; (try simp only [Act.put, List.setIfInBounds_toArray, List.set_cons_zero, List.set_cons_succ]))
    | ((with_reducible refine gate_dst (N := 16) rfl ?_); refine goesL_ (some 16) rfl rfl Try.func7 (by kernel_rfl) rfl #[.agg cs] rfl (by (try simp only [List.map_toArray, List.map_cons, List.map_nil]); first | done | rfl) ?_; refine (to_o k x z cs _ (X0.out.below HB.out) A3.out).mono ?_; rintro e wq ⟨dz, rfl, hm, hb⟩; refine ⟨_, rfl, ?_⟩; have V0 := Aside0.mk hm; clear hm; have K1_ := Aside0.mk (blk_below K1.out hb); have HB_ := Aside0.mk (below_step HB.out hb); clear K1 HB; have K1 := K1_; have HB := HB_; clear K1_ HB_; clear hb; (try simp only [Act.put, List.setIfInBounds_toArray, List.set_cons_zero, List.set_cons_succ]))
    | ((with_reducible refine gate_dst (N := 5) rfl ?_); refine box_event ?hg (N := 5) ?hd (cs := #[.int .i64 0, .int .i64 0, .int .i64 0, .int .i64 0, .int .i64 0, .int .i64 0, .bool false, .int .i64 0, .int .i64 0, .string ⟨#[]⟩, .int .i64 0, .int .i64 0, .int .i64 0, .int .i64 0, .string ⟨#[]⟩, .slice none 0 0]) (t := 32) ?hr ?_; (case hd => rfl); (case hg => rfl); (case hr => first | (go_simp; done) | (go_simp; rfl)); intro g5 hg wq hbox hb; have P5 := Aside0.mk (And.intro hg (And.intro hbox hb)); clear hg hbox hb; (try simp only [Act.put, List.setIfInBounds_toArray, List.set_cons_zero, List.set_cons_succ]))
    | (refine wpList_store_row rfl 32 (.tmp 5) (.tmp 16) rfl g5 dz rfl rfl 32 _ P5.out.2.1 V0.out.sz V0.out.size.symm V0.out.one ?_; have sn := store_new (ds := dz) P5.out.1 P5.out.2.1 P5.out.2.2; have K5 := Aside0.mk sn.2; have K1_ := Aside0.mk (blk_below K1.out sn.1); have HB_ := Aside0.mk (below_step HB.out sn.1); have V0_ := Aside0.mk (V0.out.below sn.1); clear K1 HB V0; have K1 := K1_; have HB := HB_; have V0 := V0_; clear K1_ HB_ V0_; clear sn P5; generalize World.setRow _ g5 dz = wz at K1 HB V0 K5 ⊢; (try simp only [Act.put, List.setIfInBounds_toArray, List.set_cons_zero, List.set_cons_succ]))
    | ((with_reducible refine gate_dst (N := 17) rfl ?_); refine wpList_load_row rfl 32 (.tmp 5) rfl g5 rfl 32 dz (0, 0) _ K5.out Try.underlying32 rfl V0.out.sz ?_; (try simp only [Act.put, List.setIfInBounds_toArray, List.set_cons_zero, List.set_cons_succ]))
    | ((with_reducible refine gate_dst (N := 18) rfl ?_); refine goesL_ (some 18) rfl rfl Try.func11 (by kernel_rfl) rfl #[.agg dz] rfl (by (try simp only [List.map_toArray, List.map_cons, List.map_nil]); first | done | rfl) ?_; refine (impl_MsgFits.t z dz _ V0.out HL.out).mono ?_; rintro e wq ⟨rfl, hb⟩; refine ⟨_, rfl, ?_⟩; have K1_ := Aside0.mk (blk_below K1.out hb); have HB_ := Aside0.mk (below_step HB.out hb); have V0_ := Aside0.mk (V0.out.below hb); have K5_ := Aside0.mk (blk_below K5.out hb); clear K1 HB V0 K5; have K1 := K1_; have HB := HB_; have V0 := V0_; have K5 := K5_; clear K1_ HB_ V0_ K5_; clear hb; (try simp only [Act.put, List.setIfInBounds_toArray, List.set_cons_zero, List.set_cons_succ])))
  have H := HH.out
  clear HH
  by_cases qq : (fitsI z != spB y) = true
  · rw [if_pos qq] at H
    have qe : (!(fitsI z == spB y)) = true := qq
    clear qq
    (first | rw [qe] | (simp only [i64_w, i32_w]; rw [qe]) | skip)
    obtain rfl := Option.some.inj H
    go_wp2
    go_ret
    exact ⟨rfl, HB.out⟩
  rw [if_neg qq] at H
  have qf : (!(fitsI z == spB y)) = false := by cases h : (fitsI z == spB y) <;> simp_all [bne]
  clear qq
  (first | rw [qf] | (simp only [i64_w, i32_w]; rw [qf]) | skip)
  replace H := Option.bind_eq_some_iff.mp H
  obtain ⟨u, A4_, H⟩ := H
  have A4 := Aside0.mk A4_
  clear A4_
  replace H := Option.bind_eq_some_iff.mp H
  obtain ⟨q, A5_, H⟩ := H
  have A5 := Aside0.mk A5_
  clear A5_
  have HH := Aside0.mk H
  clear H
  go_upto_region 10 with (fail)
  have HB_ := Aside0.mk (below_drew1 HB.out)
  have K1_ := Aside0.mk (blk_drew K1.out)
  have K5_ := Aside0.mk (blk_drew K5.out)
  have V0_ := Aside0.mk (V0.out.below (below_drew1 (Below.refl _ _)))
  clear HB K1 K5 V0
  have HB := HB_
  have K1 := K1_
  have K5 := K5_
  have V0 := V0_
  clear HB_ K1_ K5_ V0_
  refine start_ (n := 5) (S := (fun w' => w'.heap[g5]? = some (.cells dz 32 (0, 0)) ∧ w'.heap[b1]? = some (.cells cs 26 (0, 0)))) (ds := []) #[false, false, false, false, false] (by kernel_rfl) rfl rfl ⟨K5.out, K1.out⟩ ?_
  intro hS
  refine take_ (i := 0) (N := some 22) (v := .agg dz) #[true, false, false, false, false] rfl rfl (by kernel_rfl) (fun _ _ _ h => h) (Or.inl ⟨by rfl, fun w' hs => load_run 32 (.tmp 5) rfl g5 rfl 32 dz (0, 0) _ hs.1 Try.underlying32 rfl V0.out.sz⟩) hS rfl ?_
  refine norm_ (a' := ?_) ?_ ?_
  rotate_left
  · show Act.put _ (some 22) _ = _
    simp only [Act.put, List.setIfInBounds_toArray, List.set_cons_zero, List.set_cons_succ, i64_w, i32_w]
    rfl
  refine take_ (i := 1) (N := some 23) (v := .agg cs) #[true, true, false, false, false] rfl rfl (by kernel_rfl) (fun _ _ _ h => h) (Or.inl ⟨by rfl, fun w' hs => load_run 26 (.tmp 1) rfl b1 rfl 26 cs (0, 0) _ hs.2 Try.underlying26 rfl Z0.out⟩) hS rfl ?_
  refine norm_ (a' := ?_) ?_ ?_
  rotate_left
  · show Act.put _ (some 23) _ = _
    simp only [Act.put, List.setIfInBounds_toArray, List.set_cons_zero, List.set_cons_succ, i64_w, i32_w]
    rfl
  clear hS
  refine one_ (i := 2) (N := some 24) #[true, true, true, false, false] rfl rfl (by kernel_rfl) (by decide) (fun K hK => ?_)
  refine goes_ Try.func7 (by kernel_rfl) rfl #[.agg cs] (by first | rfl | (go_simp; done)) rfl rfl (by (try simp only [List.map_toArray, List.map_cons, List.map_nil]); first | done | rfl) ?_
  refine (to_o k x u cs _ (X0.out.below HB.out) A4.out).mono ?_
  rintro e wq ⟨du, rfl, hm, hb⟩
  refine ⟨_, rfl, ?_⟩
  have U := Aside0.mk hm
  clear hm
  have K1_ := Aside0.mk (blk_below K1.out hb)
  have HB_ := Aside0.mk (below_step HB.out hb)
  have V0_ := Aside0.mk (V0.out.below hb)
  have K5_ := Aside0.mk (blk_below K5.out hb)
  clear K1 HB V0 K5
  have K1 := K1_
  have HB := HB_
  have V0 := V0_
  have K5 := K5_
  clear K1_ HB_ V0_ K5_
  clear hb
  refine hK.out _ _ ⟨K5.out, K1.out⟩ (fun hS => ?_)
  clear hK K
  refine norm_ (a' := ?_) ?_ ?_
  rotate_left
  · show Act.put _ (some 24) _ = _
    simp only [Act.put, List.setIfInBounds_toArray, List.set_cons_zero, List.set_cons_succ, i64_w, i32_w]
    rfl
  clear hS
  refine one_ (i := 3) (N := some 25) #[true, true, true, true, false] rfl rfl (by kernel_rfl) (by decide) (fun K hK => ?_)
  refine goes_ Try.func9 (by kernel_rfl) rfl #[.agg dz, .agg du] (by first | rfl | (go_simp; done)) rfl rfl (by (try simp only [List.map_toArray, List.map_cons, List.map_nil]); first | done | rfl) ?_
  refine (eq_o k z u q dz du _ V0.out U.out A5.out).mono ?_
  rintro e wq ⟨rfl, hb⟩
  refine ⟨_, rfl, ?_⟩
  clear U
  have K1_ := Aside0.mk (blk_below K1.out hb)
  have HB_ := Aside0.mk (below_step HB.out hb)
  have V0_ := Aside0.mk (V0.out.below hb)
  have K5_ := Aside0.mk (blk_below K5.out hb)
  clear K1 HB V0 K5
  have K1 := K1_
  have HB := HB_
  have V0 := V0_
  have K5 := K5_
  clear K1_ HB_ V0_ K5_
  clear hb
  refine hK.out _ _ ⟨K5.out, K1.out⟩ (fun hS => ?_)
  clear hK K
  refine norm_ (a' := ?_) ?_ ?_
  rotate_left
  · show Act.put _ (some 25) _ = _
    simp only [Act.put, List.setIfInBounds_toArray, List.set_cons_zero, List.set_cons_succ, i64_w, i32_w]
    rfl
  clear hS
  refine pure_ (i := 4) (N := some 26) (v := .bool (!q)) #[true, true, true, true, true] rfl rfl (by kernel_rfl) (fun _ _ _ h => h) (Or.inl ⟨by rfl, fun w' => by go_simp⟩) rfl ?_
  refine norm_ (a' := ?_) ?_ ?_
  rotate_left
  · show Act.put _ (some 26) _ = _
    simp only [Act.put, List.setIfInBounds_toArray, List.set_cons_zero, List.set_cons_succ, i64_w, i32_w]
    rfl
  refine done_ (by kernel_rfl) ?_
  clear qf
  have H := HH.out
  clear HH
  go_upto_if 26 with (fail)
  cases q with
  | false =>
    obtain rfl := Option.some.inj ((if_neg (by decide)).symm.trans H)
    go_wp2
    go_ret
    exact ⟨rfl, HB.out⟩
  | true =>
    obtain rfl := Option.some.inj ((if_pos rfl).symm.trans H)
    go_wp2
    go_ret
    exact ⟨rfl, HB.out⟩
theorem laws_FnExactMsgFits.calls (k : Nat) (a0_0 : Int) (a0_1 : Int) (a0_2 : Int) (a0_3 : Int) (a0_4 : Int) (a0_5 : Int) (a0_6 : Bool) (a0_7 : Int) (a0_8 : Int) (a0_9 : ByteArray) (a0_10 : Int) (a0_11 : Int) (a0_12 : Int) (a0_13 : Int) (a0_14 : ByteArray) (A0_15 : Option Addr) (c0_15 : Nat) (l0_15 : List (S53)) (r : Bool) (w : World) (hr0_15 : Kd.C k53 w A0_15 l0_15.length l0_15) (hc0_15 : l0_15.length ≤ c0_15) (h : laws_FnExactMsgFits.f k a0_0 a0_1 a0_2 a0_3 a0_4 a0_5 a0_6 a0_7 a0_8 a0_9 a0_10 a0_11 a0_12 a0_13 a0_14 l0_15 = some r) :
    Calls Try.prog 4 #[.agg #[.int .i64 a0_0, .int .i64 a0_1, .int .i64 a0_2, .int .i64 a0_3, .int .i64 a0_4, .int .i64 a0_5, .bool a0_6, .int .i64 a0_7, .int .i64 a0_8, .string a0_9, .int .i64 a0_10, .int .i64 a0_11, .int .i64 a0_12, .int .i64 a0_13, .string a0_14, .slice A0_15 l0_15.length c0_15]] w fun e w' => e = .returned (.bool r) ∧ Below w.heap.size w w' := by
  exact law_o k (a0_0, a0_1, a0_2, a0_3, a0_4, a0_5, a0_6, a0_7, a0_8, a0_9, a0_10, a0_11, a0_12, a0_13, a0_14, l0_15) _ r w ⟨A0_15, c0_15, rfl, hc0_15, hr0_15⟩ h

end Go.Proofs.Ytngilepbpfdigaa.QFnExactMsgFits
