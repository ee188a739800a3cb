-- Written by a program of this session (wip/xprint.py), which turns a copy of the kit's print: its own text, no printed one.
import Derived.Test.YtahhigniaepgeaaQFnExactRaftNewx0
import Derived.Test.YtahhigniaepgeaaQFnExactRaftNewx8
import Derived.Test.YtahhigniaepgeaaQFnExactRaftNewx9
import Derived.Test.YtahhigniaepgeaaQFnExactRaftNewx10
namespace Go.Proofs.Ytahhigniaepgeaa.QFnExactRaftNew
open Go.RowKit Go.Proofs.YtahhigniaepgeaaW.PrintWords Go.Proofs.YtahhigniaepgeaaW.PrintLast Go.Proofs.YtahhigniaepgeaaW.PrintMore
attribute [local go_sem] max2_int min2_int max_two min_two max_three min_three max_four min_four   -- for this text's walks alone
set_option linter.unusedVariables false
set_option linter.unusedSimpArgs false

/-! ### impl_RaftOk: function 8 -/
mutual
def impl_RaftOk.j0 : Nat → Int → Bool → Int → Int → Int → Int → Int → Int → List (S64) → List Int → List Int → List Int → Option (Bool)
 | 0, _, _, _, _, _, _, _, _, _, _, _, _ => none
 | k + 1, x3, x41, x236000, x236001, x236002, x236003, x236004, x236005, x236006, x236007, x236008, x236009 => if x41 = true then (some false) else ((impl_nodesAscend.f k x236007 x236001).bind fun t241 => (if t241 = true then ((slices_Contains_int_int.f k x236007 x236000).bind fun t242 => (if t242 = true then (impl_RaftOk.j1 k x3 true x236000 x236001 x236002 x236003 x236004 x236005 x236006 x236007 x236008 x236009) else (if (x236007.length : Int) > 0 then (impl_RaftOk.j1 k x3 (x236002 != 2) x236000 x236001 x236002 x236003 x236004 x236005 x236006 x236007 x236008 x236009) else (impl_RaftOk.j1 k x3 false x236000 x236001 x236002 x236003 x236004 x236005 x236006 x236007 x236008 x236009)))) else (impl_RaftOk.j1 k x3 true x236000 x236001 x236002 x236003 x236004 x236005 x236006 x236007 x236008 x236009)))
def impl_RaftOk.j1 : Nat → Int → Bool → Int → Int → Int → Int → Int → Int → List (S64) → List Int → List Int → List Int → Option (Bool)
 | 0, _, _, _, _, _, _, _, _, _, _, _, _ => none
 | k + 1, x3, x65, x236000, x236001, x236002, x236003, x236004, x236005, x236006, x236007, x236008, x236009 => if x65 = true then (some false) else (if x236002 = 3 then (if x236002 = 1 then ((impl_numbersIn.f k x236008 x236001 1 (wrap64 (x3 + 1))).bind fun t243 => (if t243 = true then ((impl_numbersIn.f k x236009 x236001 0 x3).bind fun t244 => (some t244)) else (some false))) else (if x236004 ≥ 1 then (if x236005 = (wrap64 (x236000 + 1)) then ((impl_numbersIn.f k x236008 x236001 1 (wrap64 (x3 + 1))).bind fun t245 => (if t245 = true then ((impl_numbersIn.f k x236009 x236001 0 x3).bind fun t246 => (some t246)) else (some false))) else (some false)) else (some false))) else (if x236002 = 1 then ((impl_numbersIn.f k x236008 0 1 (wrap64 (x3 + 1))).bind fun t247 => (if t247 = true then ((impl_numbersIn.f k x236009 0 0 x3).bind fun t248 => (some t248)) else (some false))) else (if x236004 ≥ 1 then (if x236005 = (wrap64 (x236000 + 1)) then ((impl_numbersIn.f k x236008 0 1 (wrap64 (x3 + 1))).bind fun t249 => (if t249 = true then ((impl_numbersIn.f k x236009 0 0 x3).bind fun t250 => (some t250)) else (some false))) else (some false)) else (some false))))
end
def impl_RaftOk.f (k : Nat) (a0_0 : Int) (a0_1 : Int) (a0_2 : Int) (a0_3 : Int) (a0_4 : Int) (a0_5 : Int) (l0_6 : List (S64)) (l0_7 : List Int) (l0_8 : List Int) (l0_9 : List Int) : Option (Bool) := (impl_isOf.f a0_1).bind fun t236 => (if t236 = true then ((impl_within.f a0_0 0 (wrap64 (a0_1 - 1))).bind fun t237 => (if t237 = true then ((impl_within.f a0_2 1 3).bind fun t238 => (if t238 = true then ((impl_HardOk.f k a0_4 a0_5 l0_6).bind fun t239 => (if t239 = true then ((impl_within.f a0_3 0 (l0_6.length : Int)).bind fun t240 => (impl_RaftOk.j0 k (l0_6.length : Int) (!t240) a0_0 a0_1 a0_2 a0_3 a0_4 a0_5 l0_6 l0_7 l0_8 l0_9)) else (impl_RaftOk.j0 k (l0_6.length : Int) true a0_0 a0_1 a0_2 a0_3 a0_4 a0_5 l0_6 l0_7 l0_8 l0_9))) else (impl_RaftOk.j0 k (l0_6.length : Int) true a0_0 a0_1 a0_2 a0_3 a0_4 a0_5 l0_6 l0_7 l0_8 l0_9))) else (impl_RaftOk.j0 k (l0_6.length : Int) true a0_0 a0_1 a0_2 a0_3 a0_4 a0_5 l0_6 l0_7 l0_8 l0_9))) else (impl_RaftOk.j0 k (l0_6.length : Int) true a0_0 a0_1 a0_2 a0_3 a0_4 a0_5 l0_6 l0_7 l0_8 l0_9))
theorem impl_RaftOk.mono_l : ∀ k, (∀ y0 y1 y2 y3 y4 y5 y6 y7 y8 y9 y10 y11, LeO (impl_RaftOk.j0 k y0 y1 y2 y3 y4 y5 y6 y7 y8 y9 y10 y11) (impl_RaftOk.j0 (k + 1) y0 y1 y2 y3 y4 y5 y6 y7 y8 y9 y10 y11)) ∧ (∀ y0 y1 y2 y3 y4 y5 y6 y7 y8 y9 y10 y11, LeO (impl_RaftOk.j1 k y0 y1 y2 y3 y4 y5 y6 y7 y8 y9 y10 y11) (impl_RaftOk.j1 (k + 1) y0 y1 y2 y3 y4 y5 y6 y7 y8 y9 y10 y11))
 | 0 => ⟨fun _ _ _ _ _ _ _ _ _ _ _ _ r h => by simp [impl_RaftOk.j0] at h, fun _ _ _ _ _ _ _ _ _ _ _ _ r h => by simp [impl_RaftOk.j1] at h⟩
 | k + 1 => by
  obtain ⟨ih0, ih1⟩ := impl_RaftOk.mono_l k
  refine ⟨?_, ?_⟩
  ·intro y0 y1 y2 y3 y4 y5 y6 y7 y8 y9 y10 y11
   unfold impl_RaftOk.j0
   repeat' first
   | (with_reducible exact ih0 _ _ _ _ _ _ _ _ _ _ _ _)
   | (with_reducible exact ih1 _ _ _ _ _ _ _ _ _ _ _ _)
   | (with_reducible exact impl_HardOk.mono _ _ _ _)
   | (with_reducible exact impl_nodesAscend.mono _ _ _)
   | (with_reducible exact impl_numbersIn.mono _ _ _ _ _)
   | (with_reducible exact slices_Contains_int_int.mono _ _ _)
   | (with_reducible exact LeO.refl _)
   | (with_reducible exact LeO.none _)
   | (with_reducible refine LeO.ite ?_ ?_)
   | (with_reducible refine LeO.bind ?_ (fun _ => ?_))
   | exact ih0 _ _ _ _ _ _ _ _ _ _ _ _
   | exact ih1 _ _ _ _ _ _ _ _ _ _ _ _
   | exact impl_HardOk.mono _ _ _ _
   | exact impl_nodesAscend.mono _ _ _
   | exact impl_numbersIn.mono _ _ _ _ _
   | exact slices_Contains_int_int.mono _ _ _
   | exact LeO.none _
   | refine LeO.ite ?_ ?_
   | refine LeO.bind ?_ (fun _ => ?_)
  ·intro y0 y1 y2 y3 y4 y5 y6 y7 y8 y9 y10 y11
   unfold impl_RaftOk.j1
   repeat' first
   | (with_reducible exact ih0 _ _ _ _ _ _ _ _ _ _ _ _)
   | (with_reducible exact ih1 _ _ _ _ _ _ _ _ _ _ _ _)
   | (with_reducible exact impl_HardOk.mono _ _ _ _)
   | (with_reducible exact impl_nodesAscend.mono _ _ _)
   | (with_reducible exact impl_numbersIn.mono _ _ _ _ _)
   | (with_reducible exact slices_Contains_int_int.mono _ _ _)
   | (with_reducible exact LeO.refl _)
   | (with_reducible exact LeO.none _)
   | (with_reducible refine LeO.ite ?_ ?_)
   | (with_reducible refine LeO.bind ?_ (fun _ => ?_))
   | exact ih0 _ _ _ _ _ _ _ _ _ _ _ _
   | exact ih1 _ _ _ _ _ _ _ _ _ _ _ _
   | exact impl_HardOk.mono _ _ _ _
   | exact impl_nodesAscend.mono _ _ _
   | exact impl_numbersIn.mono _ _ _ _ _
   | exact slices_Contains_int_int.mono _ _ _
   | exact LeO.none _
   | refine LeO.ite ?_ ?_
   | refine LeO.bind ?_ (fun _ => ?_)
theorem impl_RaftOk.mono : ∀ a0 a1 a2 a3 a4 a5 a6 a7 a8 a9 k, LeO (impl_RaftOk.f k a0 a1 a2 a3 a4 a5 a6 a7 a8 a9) (impl_RaftOk.f (k + 1) a0 a1 a2 a3 a4 a5 a6 a7 a8 a9) := by
 intro a0 a1 a2 a3 a4 a5 a6 a7 a8 a9 k
 obtain ⟨ih0, ih1⟩ := impl_RaftOk.mono_l k
 unfold impl_RaftOk.f
 repeat' first
   | (with_reducible exact ih0 _ _ _ _ _ _ _ _ _ _ _ _)
   | (with_reducible exact ih1 _ _ _ _ _ _ _ _ _ _ _ _)
   | (with_reducible exact impl_HardOk.mono _ _ _ _)
   | (with_reducible exact impl_nodesAscend.mono _ _ _)
   | (with_reducible exact impl_numbersIn.mono _ _ _ _ _)
   | (with_reducible exact slices_Contains_int_int.mono _ _ _)
   | (with_reducible exact LeO.refl _)
   | (with_reducible exact LeO.none _)
   | (with_reducible refine LeO.ite ?_ ?_)
   | (with_reducible refine LeO.bind ?_ (fun _ => ?_))
   | exact ih0 _ _ _ _ _ _ _ _ _ _ _ _
   | exact ih1 _ _ _ _ _ _ _ _ _ _ _ _
   | exact impl_HardOk.mono _ _ _ _
   | exact impl_nodesAscend.mono _ _ _
   | exact impl_numbersIn.mono _ _ _ _ _
   | exact slices_Contains_int_int.mono _ _ _
   | exact LeO.none _
   | refine LeO.ite ?_ ?_
   | refine LeO.bind ?_ (fun _ => ?_)
set_option maxHeartbeats 8000000 in
set_option maxRecDepth 100000 in
theorem impl_RaftOk.calls (k : Nat) (a0_0 : Int) (a0_1 : Int) (a0_2 : Int) (a0_3 : Int) (a0_4 : Int) (a0_5 : Int) (A0_6 : Option Addr) (c0_6 : Nat) (l0_6 : List (S64)) (A0_7 : Option Addr) (c0_7 : Nat) (l0_7 : List Int) (A0_8 : Option Addr) (c0_8 : Nat) (l0_8 : List Int) (A0_9 : Option Addr) (c0_9 : Nat) (l0_9 : List Int) (r : Bool) (w : World) (hr0_6 : Kd.C k64 w A0_6 l0_6.length l0_6) (hc0_6 : l0_6.length ≤ c0_6) (hr0_7 : Kd.C (Kd.int .i64) w A0_7 l0_7.length l0_7) (hc0_7 : l0_7.length ≤ c0_7) (hr0_8 : Kd.C (Kd.int .i64) w A0_8 l0_8.length l0_8) (hc0_8 : l0_8.length ≤ c0_8) (hr0_9 : Kd.C (Kd.int .i64) w A0_9 l0_9.length l0_9) (hc0_9 : l0_9.length ≤ c0_9) (h : impl_RaftOk.f k a0_0 a0_1 a0_2 a0_3 a0_4 a0_5 l0_6 l0_7 l0_8 l0_9 = some r) :
  Calls Try.prog 8 #[.agg #[.int .i64 a0_0, .int .i64 a0_1, .int .i64 a0_2, .int .i64 a0_3, .int .i64 a0_4, .int .i64 a0_5, .slice A0_6 l0_6.length c0_6, .slice A0_7 l0_7.length c0_7, .slice A0_8 l0_8.length c0_8, .slice A0_9 l0_9.length c0_9]] w fun e w' => e = .returned (.bool r) ∧ Below w.heap.size w w' := by
 have hu34 := Try.underlying34
 have hu32 := Try.underlying32
 have HR0_6 := Aside0.mk hr0_6
 have HC0_6 := Aside0.mk hc0_6
 clear hr0_6 hc0_6
 have HR0_7 := Aside0.mk hr0_7
 have HC0_7 := Aside0.mk hc0_7
 clear hr0_7 hc0_7
 have HR0_8 := Aside0.mk hr0_8
 have HC0_8 := Aside0.mk hc0_8
 clear hr0_8 hc0_8
 have HR0_9 := Aside0.mk hr0_9
 have HC0_9 := Aside0.mk hc0_9
 clear hr0_9 hc0_9
 have HB := Aside0.mk (Below.refl w.heap.size w)
 have H : ((impl_isOf.f a0_1).bind fun t236 => (if t236 = true then ((impl_within.f a0_0 0 (wrap64 (a0_1 - 1))).bind fun t237 => (if t237 = true then ((impl_within.f a0_2 1 3).bind fun t238 => (if t238 = true then ((impl_HardOk.f k a0_4 a0_5 l0_6).bind fun t239 => (if t239 = true then ((impl_within.f a0_3 0 (l0_6.length : Int)).bind fun t240 => (impl_RaftOk.j0 k (l0_6.length : Int) (!t240) a0_0 a0_1 a0_2 a0_3 a0_4 a0_5 l0_6 l0_7 l0_8 l0_9)) else (impl_RaftOk.j0 k (l0_6.length : Int) true a0_0 a0_1 a0_2 a0_3 a0_4 a0_5 l0_6 l0_7 l0_8 l0_9))) else (impl_RaftOk.j0 k (l0_6.length : Int) true a0_0 a0_1 a0_2 a0_3 a0_4 a0_5 l0_6 l0_7 l0_8 l0_9))) else (impl_RaftOk.j0 k (l0_6.length : Int) true a0_0 a0_1 a0_2 a0_3 a0_4 a0_5 l0_6 l0_7 l0_8 l0_9))) else (impl_RaftOk.j0 k (l0_6.length : Int) true a0_0 a0_1 a0_2 a0_3 a0_4 a0_5 l0_6 l0_7 l0_8 l0_9))) = some r := h
 clear h
 have HC2 := Aside0.mk H
 clear H
 go_enter Try.func8, Try.ntmps8
 go_upto_region 2 with (first | ((with_reducible refine gate_dst (N := 1) rfl ?_); (try (refine gate_guard (by rfl) ?_; dsimp only)); refine box_event ?hg (N := 1) ?hd (cs := #[.int .i64 a0_0, .int .i64 a0_1, .int .i64 a0_2, .int .i64 a0_3, .int .i64 a0_4, .int .i64 a0_5, .slice A0_6 l0_6.length c0_6, .slice A0_7 l0_7.length c0_7, .slice A0_8 l0_8.length c0_8, .slice A0_9 l0_9.length c0_9]) (t := 34) ?hr ?_; (case hd => rfl); (case hg => rfl); (case hr => first | (go_simp; done) | (go_simp; rfl)); intro gb235 hg w3 hbox hb; have n0_ := Aside0.mk (below_step (by repeat (first | (with_reducible first | exact HB.out | apply below_alloc | apply pw_below_drewN | apply below_drew1) | exact HB.out)) hb); have n1_ := Aside0.mk (hbox); have n2_ := Aside0.mk ((by rw [hg]; exact (below_size (by repeat (first | (with_reducible first | exact HB.out | apply below_alloc | apply pw_below_drewN | apply below_drew1) | exact HB.out))) : w.heap.size ≤ gb235)); have n3_ := Aside0.mk ((by rw [hg]; exact (below_size (by repeat (first | (with_reducible first | exact HB.out | apply below_alloc | apply pw_below_drewN | apply below_drew1) | exact HB.out))) : w.heap.size ≤ gb235)); clear HB; have HB := n0_; have BK235 := n1_; have GW235 := n2_; have GE235 := n3_; clear n0_ n1_ n2_ n3_; clear hb hbox hg; have hcz4_0 : w3.cell? ⟨gb235, 0, none⟩ = some (.int .i64 a0_0) := (blk_cell BK235.out 0).trans rfl; have hcz4_1 : w3.cell? ⟨gb235, 1, none⟩ = some (.int .i64 a0_1) := (blk_cell BK235.out 1).trans rfl; have hcz4_2 : w3.cell? ⟨gb235, 2, none⟩ = some (.int .i64 a0_2) := (blk_cell BK235.out 2).trans rfl; have hcz4_3 : w3.cell? ⟨gb235, 3, none⟩ = some (.int .i64 a0_3) := (blk_cell BK235.out 3).trans rfl; have hcz4_4 : w3.cell? ⟨gb235, 4, none⟩ = some (.int .i64 a0_4) := (blk_cell BK235.out 4).trans rfl; have hcz4_5 : w3.cell? ⟨gb235, 5, none⟩ = some (.int .i64 a0_5) := (blk_cell BK235.out 5).trans rfl; have hcz4_6 : w3.cell? ⟨gb235, 6, none⟩ = some (.slice A0_6 l0_6.length c0_6) := (blk_cell BK235.out 6).trans rfl; have hcz4_7 : w3.cell? ⟨gb235, 7, none⟩ = some (.slice A0_7 l0_7.length c0_7) := (blk_cell BK235.out 7).trans rfl; have hcz4_8 : w3.cell? ⟨gb235, 8, none⟩ = some (.slice A0_8 l0_8.length c0_8) := (blk_cell BK235.out 8).trans rfl; have hcz4_9 : w3.cell? ⟨gb235, 9, none⟩ = some (.slice A0_9 l0_9.length c0_9) := (blk_cell BK235.out 9).trans rfl; have hfz4_0 := blk_frozen BK235.out 0; have hfz4_1 := blk_frozen BK235.out 1; have hfz4_2 := blk_frozen BK235.out 2; have hfz4_3 := blk_frozen BK235.out 3; have hfz4_4 := blk_frozen BK235.out 4; have hfz4_5 := blk_frozen BK235.out 5; have hfz4_6 := blk_frozen BK235.out 6; have hfz4_7 := blk_frozen BK235.out 7; have hfz4_8 := blk_frozen BK235.out 8; have hfz4_9 := blk_frozen BK235.out 9))
 (try simp only [Act.put, List.setIfInBounds_toArray, List.set_cons_zero, List.set_cons_succ])
 go_cut [41] (fun v41 wc => ∃ (kq : Nat) (x41_1 : Bool), v41 = .bool x41_1 ∧ Aside0 (impl_RaftOk.j0 kq (l0_6.length : Int) x41_1 a0_0 a0_1 a0_2 a0_3 a0_4 a0_5 l0_6 l0_7 l0_8 l0_9 = some r) ∧ Aside0 (kq ≤ k) ∧ Aside0 (wc.heap[gb235]? = some (.cells #[.int .i64 a0_0, .int .i64 a0_1, .int .i64 a0_2, .int .i64 a0_3, .int .i64 a0_4, .int .i64 a0_5, (.slice A0_6 l0_6.length c0_6), (.slice A0_7 l0_7.length c0_7), (.slice A0_8 l0_8.length c0_8), (.slice A0_9 l0_9.length c0_9)] 34 (0, 0))) ∧ Aside0 (Below w.heap.size w wc))
 case first =>
  have H := HC2.out
  clear HC2
  go_upto_region 2 with (fail)
  replace H := Option.bind_eq_some_iff.mp H
  obtain ⟨t236, A50, H⟩ := H
  replace H : (if t236 = true then ((impl_within.f a0_0 0 (wrap64 (a0_1 - 1))).bind fun t237 => (if t237 = true then ((impl_within.f a0_2 1 3).bind fun t238 => (if t238 = true then ((impl_HardOk.f k a0_4 a0_5 l0_6).bind fun t239 => (if t239 = true then ((impl_within.f a0_3 0 (l0_6.length : Int)).bind fun t240 => (impl_RaftOk.j0 k (l0_6.length : Int) (!t240) a0_0 a0_1 a0_2 a0_3 a0_4 a0_5 l0_6 l0_7 l0_8 l0_9)) else (impl_RaftOk.j0 k (l0_6.length : Int) true a0_0 a0_1 a0_2 a0_3 a0_4 a0_5 l0_6 l0_7 l0_8 l0_9))) else (impl_RaftOk.j0 k (l0_6.length : Int) true a0_0 a0_1 a0_2 a0_3 a0_4 a0_5 l0_6 l0_7 l0_8 l0_9))) else (impl_RaftOk.j0 k (l0_6.length : Int) true a0_0 a0_1 a0_2 a0_3 a0_4 a0_5 l0_6 l0_7 l0_8 l0_9))) else (impl_RaftOk.j0 k (l0_6.length : Int) true a0_0 a0_1 a0_2 a0_3 a0_4 a0_5 l0_6 l0_7 l0_8 l0_9)) = some r := H
  have A5 := Aside0.mk A50
  clear A50
  by_cases c6 : t236 = true
  ·subst c6
   have H1 : ((impl_within.f a0_0 0 (wrap64 (a0_1 - 1))).bind fun t237 => (if t237 = true then ((impl_within.f a0_2 1 3).bind fun t238 => (if t238 = true then ((impl_HardOk.f k a0_4 a0_5 l0_6).bind fun t239 => (if t239 = true then ((impl_within.f a0_3 0 (l0_6.length : Int)).bind fun t240 => (impl_RaftOk.j0 k (l0_6.length : Int) (!t240) a0_0 a0_1 a0_2 a0_3 a0_4 a0_5 l0_6 l0_7 l0_8 l0_9)) else (impl_RaftOk.j0 k (l0_6.length : Int) true a0_0 a0_1 a0_2 a0_3 a0_4 a0_5 l0_6 l0_7 l0_8 l0_9))) else (impl_RaftOk.j0 k (l0_6.length : Int) true a0_0 a0_1 a0_2 a0_3 a0_4 a0_5 l0_6 l0_7 l0_8 l0_9))) else (impl_RaftOk.j0 k (l0_6.length : Int) true a0_0 a0_1 a0_2 a0_3 a0_4 a0_5 l0_6 l0_7 l0_8 l0_9))) = some r := by rw [if_pos rfl] at H; exact H
   clear H
   have H := H1
   clear H1
   replace H := Option.bind_eq_some_iff.mp H
   obtain ⟨t237, A70, H⟩ := H
   replace H : (if t237 = true then ((impl_within.f a0_2 1 3).bind fun t238 => (if t238 = true then ((impl_HardOk.f k a0_4 a0_5 l0_6).bind fun t239 => (if t239 = true then ((impl_within.f a0_3 0 (l0_6.length : Int)).bind fun t240 => (impl_RaftOk.j0 k (l0_6.length : Int) (!t240) a0_0 a0_1 a0_2 a0_3 a0_4 a0_5 l0_6 l0_7 l0_8 l0_9)) else (impl_RaftOk.j0 k (l0_6.length : Int) true a0_0 a0_1 a0_2 a0_3 a0_4 a0_5 l0_6 l0_7 l0_8 l0_9))) else (impl_RaftOk.j0 k (l0_6.length : Int) true a0_0 a0_1 a0_2 a0_3 a0_4 a0_5 l0_6 l0_7 l0_8 l0_9))) else (impl_RaftOk.j0 k (l0_6.length : Int) true a0_0 a0_1 a0_2 a0_3 a0_4 a0_5 l0_6 l0_7 l0_8 l0_9)) = some r := H
   have A7 := Aside0.mk A70
   clear A70
   by_cases c8 : t237 = true
   ·subst c8
    have H1 : ((impl_within.f a0_2 1 3).bind fun t238 => (if t238 = true then ((impl_HardOk.f k a0_4 a0_5 l0_6).bind fun t239 => (if t239 = true then ((impl_within.f a0_3 0 (l0_6.length : Int)).bind fun t240 => (impl_RaftOk.j0 k (l0_6.length : Int) (!t240) a0_0 a0_1 a0_2 a0_3 a0_4 a0_5 l0_6 l0_7 l0_8 l0_9)) else (impl_RaftOk.j0 k (l0_6.length : Int) true a0_0 a0_1 a0_2 a0_3 a0_4 a0_5 l0_6 l0_7 l0_8 l0_9))) else (impl_RaftOk.j0 k (l0_6.length : Int) true a0_0 a0_1 a0_2 a0_3 a0_4 a0_5 l0_6 l0_7 l0_8 l0_9))) = some r := by rw [if_pos rfl] at H; exact H
    clear H
    have H := H1
    clear H1
    replace H := Option.bind_eq_some_iff.mp H
    obtain ⟨t238, A90, H⟩ := H
    replace H : (if t238 = true then ((impl_HardOk.f k a0_4 a0_5 l0_6).bind fun t239 => (if t239 = true then ((impl_within.f a0_3 0 (l0_6.length : Int)).bind fun t240 => (impl_RaftOk.j0 k (l0_6.length : Int) (!t240) a0_0 a0_1 a0_2 a0_3 a0_4 a0_5 l0_6 l0_7 l0_8 l0_9)) else (impl_RaftOk.j0 k (l0_6.length : Int) true a0_0 a0_1 a0_2 a0_3 a0_4 a0_5 l0_6 l0_7 l0_8 l0_9))) else (impl_RaftOk.j0 k (l0_6.length : Int) true a0_0 a0_1 a0_2 a0_3 a0_4 a0_5 l0_6 l0_7 l0_8 l0_9)) = some r := H
    have A9 := Aside0.mk A90
    clear A90
    by_cases c10 : t238 = true
    ·subst c10
     have H1 : ((impl_HardOk.f k a0_4 a0_5 l0_6).bind fun t239 => (if t239 = true then ((impl_within.f a0_3 0 (l0_6.length : Int)).bind fun t240 => (impl_RaftOk.j0 k (l0_6.length : Int) (!t240) a0_0 a0_1 a0_2 a0_3 a0_4 a0_5 l0_6 l0_7 l0_8 l0_9)) else (impl_RaftOk.j0 k (l0_6.length : Int) true a0_0 a0_1 a0_2 a0_3 a0_4 a0_5 l0_6 l0_7 l0_8 l0_9))) = some r := by rw [if_pos rfl] at H; exact H
     clear H
     have H := H1
     clear H1
     replace H := Option.bind_eq_some_iff.mp H
     obtain ⟨t239, A110, H⟩ := H
     replace H : (if t239 = true then ((impl_within.f a0_3 0 (l0_6.length : Int)).bind fun t240 => (impl_RaftOk.j0 k (l0_6.length : Int) (!t240) a0_0 a0_1 a0_2 a0_3 a0_4 a0_5 l0_6 l0_7 l0_8 l0_9)) else (impl_RaftOk.j0 k (l0_6.length : Int) true a0_0 a0_1 a0_2 a0_3 a0_4 a0_5 l0_6 l0_7 l0_8 l0_9)) = some r := H
     have A11 := Aside0.mk A110
     clear A110
     by_cases c12 : t239 = true
     ·subst c12
      have H1 : ((impl_within.f a0_3 0 (l0_6.length : Int)).bind fun t240 => (impl_RaftOk.j0 k (l0_6.length : Int) (!t240) a0_0 a0_1 a0_2 a0_3 a0_4 a0_5 l0_6 l0_7 l0_8 l0_9)) = some r := by rw [if_pos rfl] at H; exact H
      clear H
      have H := H1
      clear H1
      replace H := Option.bind_eq_some_iff.mp H
      obtain ⟨t240, A130, H⟩ := H
      replace H : (impl_RaftOk.j0 k (l0_6.length : Int) (!t240) a0_0 a0_1 a0_2 a0_3 a0_4 a0_5 l0_6 l0_7 l0_8 l0_9) = some r := H
      have A13 := Aside0.mk A130
      clear A130
      have H' := Aside0.mk H
      clear H
      have hcz14_0 : w3.cell? ⟨gb235, 0, none⟩ = some (.int .i64 a0_0) := (blk_cell BK235.out 0).trans rfl
      have hcz14_1 : w3.cell? ⟨gb235, 1, none⟩ = some (.int .i64 a0_1) := (blk_cell BK235.out 1).trans rfl
      have hcz14_2 : w3.cell? ⟨gb235, 2, none⟩ = some (.int .i64 a0_2) := (blk_cell BK235.out 2).trans rfl
      have hcz14_3 : w3.cell? ⟨gb235, 3, none⟩ = some (.int .i64 a0_3) := (blk_cell BK235.out 3).trans rfl
      have hcz14_4 : w3.cell? ⟨gb235, 4, none⟩ = some (.int .i64 a0_4) := (blk_cell BK235.out 4).trans rfl
      have hcz14_5 : w3.cell? ⟨gb235, 5, none⟩ = some (.int .i64 a0_5) := (blk_cell BK235.out 5).trans rfl
      have hcz14_6 : w3.cell? ⟨gb235, 6, none⟩ = some (.slice A0_6 l0_6.length c0_6) := (blk_cell BK235.out 6).trans rfl
      have hcz14_7 : w3.cell? ⟨gb235, 7, none⟩ = some (.slice A0_7 l0_7.length c0_7) := (blk_cell BK235.out 7).trans rfl
      have hcz14_8 : w3.cell? ⟨gb235, 8, none⟩ = some (.slice A0_8 l0_8.length c0_8) := (blk_cell BK235.out 8).trans rfl
      have hcz14_9 : w3.cell? ⟨gb235, 9, none⟩ = some (.slice A0_9 l0_9.length c0_9) := (blk_cell BK235.out 9).trans rfl
      have hfz14_0 := blk_frozen BK235.out 0
      have hfz14_1 := blk_frozen BK235.out 1
      have hfz14_2 := blk_frozen BK235.out 2
      have hfz14_3 := blk_frozen BK235.out 3
      have hfz14_4 := blk_frozen BK235.out 4
      have hfz14_5 := blk_frozen BK235.out 5
      have hfz14_6 := blk_frozen BK235.out 6
      have hfz14_7 := blk_frozen BK235.out 7
      have hfz14_8 := blk_frozen BK235.out 8
      have hfz14_9 := blk_frozen BK235.out 9
      go_wp2_with (first | ((with_reducible refine gate_callee (f := 26) rfl ?_); refine goesL_ (some 12) rfl rfl Try.func26 (by kernel_rfl) rfl #[.int .i64 a0_1] rfl (by (try simp only [List.map_toArray, List.map_cons, List.map_nil]); first | done | rfl | (simp only [List.length_drop, List.length_take]; rfl)) ?_; (with_reducible refine (impl_isOf.calls a0_1 true _ A5.out).mono ?_); rintro e w' ⟨rfl, ⟨nd, rfl⟩⟩; refine ⟨_, rfl, ?_⟩) | (go_at_call 27; (with_reducible refine (impl_within.calls a0_0 0 (wrap64 (a0_1 - 1)) true _ A7.out).mono ?_); rintro e w' ⟨rfl, ⟨nd, rfl⟩⟩) | (go_at_call 27; (with_reducible refine (impl_within.calls a0_2 1 3 true _ A9.out).mono ?_); rintro e w' ⟨rfl, ⟨nd, rfl⟩⟩) | (go_at_call 28; (with_reducible refine (impl_HardOk.calls k a0_4 a0_5 _ _ l0_6 true _ ?side1 ?side2 A11.out).mono ?_); (case side1 => repeat (first | exact (Kd.C_below HR0_6.out (by repeat (first | (with_reducible first | exact HB.out | apply below_alloc | apply pw_below_drewN | apply below_drew1 | refine below_set ?_ GE235.out) | exact HB.out))) | (with_reducible refine Kd.C_alloc ?_ _) | (with_reducible refine Kd.C_drewN ?_ _) | (with_reducible refine Kd.C_drew ?_))); (case side2 => exact HC0_6.out); rintro e w15 ⟨rfl, hb⟩; have n0_ := Aside0.mk (blk_below (g := gb235) (o := .cells #[.int .i64 a0_0, .int .i64 a0_1, .int .i64 a0_2, .int .i64 a0_3, .int .i64 a0_4, .int .i64 a0_5, .slice A0_6 l0_6.length c0_6, .slice A0_7 l0_7.length c0_7, .slice A0_8 l0_8.length c0_8, .slice A0_9 l0_9.length c0_9] 34 (0, 0)) (by (with_reducible repeat (first | refine blk_drewN ?_ _ | refine blk_drew ?_ | refine blk_alloc ?_ _)); exact BK235.out) hb); have n1_ := Aside0.mk (below_step (by repeat (first | (with_reducible first | exact HB.out | apply below_alloc | apply pw_below_drewN | apply below_drew1 | refine below_set ?_ GE235.out) | exact HB.out)) hb); clear BK235; clear HB; have BK235 := n0_; have HB := n1_; clear n0_ n1_; (try clear hb); (try clear hb2); (try clear hk); (try clear hi); have hcz16_0 : w15.cell? ⟨gb235, 0, none⟩ = some (.int .i64 a0_0) := (blk_cell BK235.out 0).trans rfl; have hcz16_1 : w15.cell? ⟨gb235, 1, none⟩ = some (.int .i64 a0_1) := (blk_cell BK235.out 1).trans rfl; have hcz16_2 : w15.cell? ⟨gb235, 2, none⟩ = some (.int .i64 a0_2) := (blk_cell BK235.out 2).trans rfl; have hcz16_3 : w15.cell? ⟨gb235, 3, none⟩ = some (.int .i64 a0_3) := (blk_cell BK235.out 3).trans rfl; have hcz16_4 : w15.cell? ⟨gb235, 4, none⟩ = some (.int .i64 a0_4) := (blk_cell BK235.out 4).trans rfl; have hcz16_5 : w15.cell? ⟨gb235, 5, none⟩ = some (.int .i64 a0_5) := (blk_cell BK235.out 5).trans rfl; have hcz16_6 : w15.cell? ⟨gb235, 6, none⟩ = some (.slice A0_6 l0_6.length c0_6) := (blk_cell BK235.out 6).trans rfl; have hcz16_7 : w15.cell? ⟨gb235, 7, none⟩ = some (.slice A0_7 l0_7.length c0_7) := (blk_cell BK235.out 7).trans rfl; have hcz16_8 : w15.cell? ⟨gb235, 8, none⟩ = some (.slice A0_8 l0_8.length c0_8) := (blk_cell BK235.out 8).trans rfl; have hcz16_9 : w15.cell? ⟨gb235, 9, none⟩ = some (.slice A0_9 l0_9.length c0_9) := (blk_cell BK235.out 9).trans rfl; have hfz16_0 := blk_frozen BK235.out 0; have hfz16_1 := blk_frozen BK235.out 1; have hfz16_2 := blk_frozen BK235.out 2; have hfz16_3 := blk_frozen BK235.out 3; have hfz16_4 := blk_frozen BK235.out 4; have hfz16_5 := blk_frozen BK235.out 5; have hfz16_6 := blk_frozen BK235.out 6; have hfz16_7 := blk_frozen BK235.out 7; have hfz16_8 := blk_frozen BK235.out 8; have hfz16_9 := blk_frozen BK235.out 9) | (go_at_call 27; (with_reducible refine (impl_within.calls a0_3 0 (l0_6.length : Int) t240 _ A13.out).mono ?_); rintro e w' ⟨rfl, ⟨nd, rfl⟩⟩))
      go_meet
      case rel => exact ⟨_, (!t240), (by first | rfl | (simp; done) | (simp [*]; done)), H', ⟨by first | omega | exact Nat.le_refl _⟩, ⟨by (with_reducible repeat (first | refine blk_drewN ?_ _ | refine blk_drew ?_ | refine blk_alloc ?_ _)); exact BK235.out⟩, ⟨by repeat (first | (with_reducible first | exact HB.out | apply below_alloc | apply pw_below_drewN | apply below_drew1 | refine below_set ?_ GE235.out) | exact HB.out)⟩⟩
     ·replace c12 := Bool.eq_false_iff.mpr c12
      subst c12
      have H1 : (impl_RaftOk.j0 k (l0_6.length : Int) true a0_0 a0_1 a0_2 a0_3 a0_4 a0_5 l0_6 l0_7 l0_8 l0_9) = some r := by rw [if_neg (show ¬ (false = true) by decide)] at H; exact H
      clear H
      have H := H1
      clear H1
      have H' := Aside0.mk H
      clear H
      have hcz17_0 : w3.cell? ⟨gb235, 0, none⟩ = some (.int .i64 a0_0) := (blk_cell BK235.out 0).trans rfl
      have hcz17_1 : w3.cell? ⟨gb235, 1, none⟩ = some (.int .i64 a0_1) := (blk_cell BK235.out 1).trans rfl
      have hcz17_2 : w3.cell? ⟨gb235, 2, none⟩ = some (.int .i64 a0_2) := (blk_cell BK235.out 2).trans rfl
      have hcz17_3 : w3.cell? ⟨gb235, 3, none⟩ = some (.int .i64 a0_3) := (blk_cell BK235.out 3).trans rfl
      have hcz17_4 : w3.cell? ⟨gb235, 4, none⟩ = some (.int .i64 a0_4) := (blk_cell BK235.out 4).trans rfl
      have hcz17_5 : w3.cell? ⟨gb235, 5, none⟩ = some (.int .i64 a0_5) := (blk_cell BK235.out 5).trans rfl
      have hcz17_6 : w3.cell? ⟨gb235, 6, none⟩ = some (.slice A0_6 l0_6.length c0_6) := (blk_cell BK235.out 6).trans rfl
      have hcz17_7 : w3.cell? ⟨gb235, 7, none⟩ = some (.slice A0_7 l0_7.length c0_7) := (blk_cell BK235.out 7).trans rfl
      have hcz17_8 : w3.cell? ⟨gb235, 8, none⟩ = some (.slice A0_8 l0_8.length c0_8) := (blk_cell BK235.out 8).trans rfl
      have hcz17_9 : w3.cell? ⟨gb235, 9, none⟩ = some (.slice A0_9 l0_9.length c0_9) := (blk_cell BK235.out 9).trans rfl
      have hfz17_0 := blk_frozen BK235.out 0
      have hfz17_1 := blk_frozen BK235.out 1
      have hfz17_2 := blk_frozen BK235.out 2
      have hfz17_3 := blk_frozen BK235.out 3
      have hfz17_4 := blk_frozen BK235.out 4
      have hfz17_5 := blk_frozen BK235.out 5
      have hfz17_6 := blk_frozen BK235.out 6
      have hfz17_7 := blk_frozen BK235.out 7
      have hfz17_8 := blk_frozen BK235.out 8
      have hfz17_9 := blk_frozen BK235.out 9
      go_wp2_with (first | ((with_reducible refine gate_callee (f := 26) rfl ?_); refine goesL_ (some 12) rfl rfl Try.func26 (by kernel_rfl) rfl #[.int .i64 a0_1] rfl (by (try simp only [List.map_toArray, List.map_cons, List.map_nil]); first | done | rfl | (simp only [List.length_drop, List.length_take]; rfl)) ?_; (with_reducible refine (impl_isOf.calls a0_1 true _ A5.out).mono ?_); rintro e w' ⟨rfl, ⟨nd, rfl⟩⟩; refine ⟨_, rfl, ?_⟩) | (go_at_call 27; (with_reducible refine (impl_within.calls a0_0 0 (wrap64 (a0_1 - 1)) true _ A7.out).mono ?_); rintro e w' ⟨rfl, ⟨nd, rfl⟩⟩) | (go_at_call 27; (with_reducible refine (impl_within.calls a0_2 1 3 true _ A9.out).mono ?_); rintro e w' ⟨rfl, ⟨nd, rfl⟩⟩) | (go_at_call 28; (with_reducible refine (impl_HardOk.calls k a0_4 a0_5 _ _ l0_6 false _ ?side1 ?side2 A11.out).mono ?_); (case side1 => repeat (first | exact (Kd.C_below HR0_6.out (by repeat (first | (with_reducible first | exact HB.out | apply below_alloc | apply pw_below_drewN | apply below_drew1 | refine below_set ?_ GE235.out) | exact HB.out))) | (with_reducible refine Kd.C_alloc ?_ _) | (with_reducible refine Kd.C_drewN ?_ _) | (with_reducible refine Kd.C_drew ?_))); (case side2 => exact HC0_6.out); rintro e w18 ⟨rfl, hb⟩; have n0_ := Aside0.mk (blk_below (g := gb235) (o := .cells #[.int .i64 a0_0, .int .i64 a0_1, .int .i64 a0_2, .int .i64 a0_3, .int .i64 a0_4, .int .i64 a0_5, .slice A0_6 l0_6.length c0_6, .slice A0_7 l0_7.length c0_7, .slice A0_8 l0_8.length c0_8, .slice A0_9 l0_9.length c0_9] 34 (0, 0)) (by (with_reducible repeat (first | refine blk_drewN ?_ _ | refine blk_drew ?_ | refine blk_alloc ?_ _)); exact BK235.out) hb); have n1_ := Aside0.mk (below_step (by repeat (first | (with_reducible first | exact HB.out | apply below_alloc | apply pw_below_drewN | apply below_drew1 | refine below_set ?_ GE235.out) | exact HB.out)) hb); clear BK235; clear HB; have BK235 := n0_; have HB := n1_; clear n0_ n1_; (try clear hb); (try clear hb2); (try clear hk); (try clear hi)))
      go_meet
      case rel => exact ⟨_, (true), (by first | rfl | (simp; done) | (simp [*]; done)), H', ⟨by first | omega | exact Nat.le_refl _⟩, ⟨by (with_reducible repeat (first | refine blk_drewN ?_ _ | refine blk_drew ?_ | refine blk_alloc ?_ _)); exact BK235.out⟩, ⟨by repeat (first | (with_reducible first | exact HB.out | apply below_alloc | apply pw_below_drewN | apply below_drew1 | refine below_set ?_ GE235.out) | exact HB.out)⟩⟩
    ·replace c10 := Bool.eq_false_iff.mpr c10
     subst c10
     have H1 : (impl_RaftOk.j0 k (l0_6.length : Int) true a0_0 a0_1 a0_2 a0_3 a0_4 a0_5 l0_6 l0_7 l0_8 l0_9) = some r := by rw [if_neg (show ¬ (false = true) by decide)] at H; exact H
     clear H
     have H := H1
     clear H1
     have H' := Aside0.mk H
     clear H
     have hcz19_0 : w3.cell? ⟨gb235, 0, none⟩ = some (.int .i64 a0_0) := (blk_cell BK235.out 0).trans rfl
     have hcz19_1 : w3.cell? ⟨gb235, 1, none⟩ = some (.int .i64 a0_1) := (blk_cell BK235.out 1).trans rfl
     have hcz19_2 : w3.cell? ⟨gb235, 2, none⟩ = some (.int .i64 a0_2) := (blk_cell BK235.out 2).trans rfl
     have hcz19_3 : w3.cell? ⟨gb235, 3, none⟩ = some (.int .i64 a0_3) := (blk_cell BK235.out 3).trans rfl
     have hcz19_4 : w3.cell? ⟨gb235, 4, none⟩ = some (.int .i64 a0_4) := (blk_cell BK235.out 4).trans rfl
     have hcz19_5 : w3.cell? ⟨gb235, 5, none⟩ = some (.int .i64 a0_5) := (blk_cell BK235.out 5).trans rfl
     have hcz19_6 : w3.cell? ⟨gb235, 6, none⟩ = some (.slice A0_6 l0_6.length c0_6) := (blk_cell BK235.out 6).trans rfl
     have hcz19_7 : w3.cell? ⟨gb235, 7, none⟩ = some (.slice A0_7 l0_7.length c0_7) := (blk_cell BK235.out 7).trans rfl
     have hcz19_8 : w3.cell? ⟨gb235, 8, none⟩ = some (.slice A0_8 l0_8.length c0_8) := (blk_cell BK235.out 8).trans rfl
     have hcz19_9 : w3.cell? ⟨gb235, 9, none⟩ = some (.slice A0_9 l0_9.length c0_9) := (blk_cell BK235.out 9).trans rfl
     have hfz19_0 := blk_frozen BK235.out 0
     have hfz19_1 := blk_frozen BK235.out 1
     have hfz19_2 := blk_frozen BK235.out 2
     have hfz19_3 := blk_frozen BK235.out 3
     have hfz19_4 := blk_frozen BK235.out 4
     have hfz19_5 := blk_frozen BK235.out 5
     have hfz19_6 := blk_frozen BK235.out 6
     have hfz19_7 := blk_frozen BK235.out 7
     have hfz19_8 := blk_frozen BK235.out 8
     have hfz19_9 := blk_frozen BK235.out 9
     go_wp2_with (first | ((with_reducible refine gate_callee (f := 26) rfl ?_); refine goesL_ (some 12) rfl rfl Try.func26 (by kernel_rfl) rfl #[.int .i64 a0_1] rfl (by (try simp only [List.map_toArray, List.map_cons, List.map_nil]); first | done | rfl | (simp only [List.length_drop, List.length_take]; rfl)) ?_; (with_reducible refine (impl_isOf.calls a0_1 true _ A5.out).mono ?_); rintro e w' ⟨rfl, ⟨nd, rfl⟩⟩; refine ⟨_, rfl, ?_⟩) | (go_at_call 27; (with_reducible refine (impl_within.calls a0_0 0 (wrap64 (a0_1 - 1)) true _ A7.out).mono ?_); rintro e w' ⟨rfl, ⟨nd, rfl⟩⟩) | (go_at_call 27; (with_reducible refine (impl_within.calls a0_2 1 3 false _ A9.out).mono ?_); rintro e w' ⟨rfl, ⟨nd, rfl⟩⟩))
     go_meet
     case rel => exact ⟨_, (true), (by first | rfl | (simp; done) | (simp [*]; done)), H', ⟨by first | omega | exact Nat.le_refl _⟩, ⟨by (with_reducible repeat (first | refine blk_drewN ?_ _ | refine blk_drew ?_ | refine blk_alloc ?_ _)); exact BK235.out⟩, ⟨by repeat (first | (with_reducible first | exact HB.out | apply below_alloc | apply pw_below_drewN | apply below_drew1 | refine below_set ?_ GE235.out) | exact HB.out)⟩⟩
   ·replace c8 := Bool.eq_false_iff.mpr c8
    subst c8
    have H1 : (impl_RaftOk.j0 k (l0_6.length : Int) true a0_0 a0_1 a0_2 a0_3 a0_4 a0_5 l0_6 l0_7 l0_8 l0_9) = some r := by rw [if_neg (show ¬ (false = true) by decide)] at H; exact H
    clear H
    have H := H1
    clear H1
    have H' := Aside0.mk H
    clear H
    have hcz20_0 : w3.cell? ⟨gb235, 0, none⟩ = some (.int .i64 a0_0) := (blk_cell BK235.out 0).trans rfl
    have hcz20_1 : w3.cell? ⟨gb235, 1, none⟩ = some (.int .i64 a0_1) := (blk_cell BK235.out 1).trans rfl
    have hcz20_2 : w3.cell? ⟨gb235, 2, none⟩ = some (.int .i64 a0_2) := (blk_cell BK235.out 2).trans rfl
    have hcz20_3 : w3.cell? ⟨gb235, 3, none⟩ = some (.int .i64 a0_3) := (blk_cell BK235.out 3).trans rfl
    have hcz20_4 : w3.cell? ⟨gb235, 4, none⟩ = some (.int .i64 a0_4) := (blk_cell BK235.out 4).trans rfl
    have hcz20_5 : w3.cell? ⟨gb235, 5, none⟩ = some (.int .i64 a0_5) := (blk_cell BK235.out 5).trans rfl
    have hcz20_6 : w3.cell? ⟨gb235, 6, none⟩ = some (.slice A0_6 l0_6.length c0_6) := (blk_cell BK235.out 6).trans rfl
    have hcz20_7 : w3.cell? ⟨gb235, 7, none⟩ = some (.slice A0_7 l0_7.length c0_7) := (blk_cell BK235.out 7).trans rfl
    have hcz20_8 : w3.cell? ⟨gb235, 8, none⟩ = some (.slice A0_8 l0_8.length c0_8) := (blk_cell BK235.out 8).trans rfl
    have hcz20_9 : w3.cell? ⟨gb235, 9, none⟩ = some (.slice A0_9 l0_9.length c0_9) := (blk_cell BK235.out 9).trans rfl
    have hfz20_0 := blk_frozen BK235.out 0
    have hfz20_1 := blk_frozen BK235.out 1
    have hfz20_2 := blk_frozen BK235.out 2
    have hfz20_3 := blk_frozen BK235.out 3
    have hfz20_4 := blk_frozen BK235.out 4
    have hfz20_5 := blk_frozen BK235.out 5
    have hfz20_6 := blk_frozen BK235.out 6
    have hfz20_7 := blk_frozen BK235.out 7
    have hfz20_8 := blk_frozen BK235.out 8
    have hfz20_9 := blk_frozen BK235.out 9
    go_wp2_with (first | ((with_reducible refine gate_callee (f := 26) rfl ?_); refine goesL_ (some 12) rfl rfl Try.func26 (by kernel_rfl) rfl #[.int .i64 a0_1] rfl (by (try simp only [List.map_toArray, List.map_cons, List.map_nil]); first | done | rfl | (simp only [List.length_drop, List.length_take]; rfl)) ?_; (with_reducible refine (impl_isOf.calls a0_1 true _ A5.out).mono ?_); rintro e w' ⟨rfl, ⟨nd, rfl⟩⟩; refine ⟨_, rfl, ?_⟩) | (go_at_call 27; (with_reducible refine (impl_within.calls a0_0 0 (wrap64 (a0_1 - 1)) false _ A7.out).mono ?_); rintro e w' ⟨rfl, ⟨nd, rfl⟩⟩))
    go_meet
    case rel => exact ⟨_, (true), (by first | rfl | (simp; done) | (simp [*]; done)), H', ⟨by first | omega | exact Nat.le_refl _⟩, ⟨by (with_reducible repeat (first | refine blk_drewN ?_ _ | refine blk_drew ?_ | refine blk_alloc ?_ _)); exact BK235.out⟩, ⟨by repeat (first | (with_reducible first | exact HB.out | apply below_alloc | apply pw_below_drewN | apply below_drew1 | refine below_set ?_ GE235.out) | exact HB.out)⟩⟩
  ·replace c6 := Bool.eq_false_iff.mpr c6
   subst c6
   have H1 : (impl_RaftOk.j0 k (l0_6.length : Int) true a0_0 a0_1 a0_2 a0_3 a0_4 a0_5 l0_6 l0_7 l0_8 l0_9) = some r := by rw [if_neg (show ¬ (false = true) by decide)] at H; exact H
   clear H
   have H := H1
   clear H1
   have H' := Aside0.mk H
   clear H
   have hcz21_0 : w3.cell? ⟨gb235, 0, none⟩ = some (.int .i64 a0_0) := (blk_cell BK235.out 0).trans rfl
   have hcz21_1 : w3.cell? ⟨gb235, 1, none⟩ = some (.int .i64 a0_1) := (blk_cell BK235.out 1).trans rfl
   have hcz21_2 : w3.cell? ⟨gb235, 2, none⟩ = some (.int .i64 a0_2) := (blk_cell BK235.out 2).trans rfl
   have hcz21_3 : w3.cell? ⟨gb235, 3, none⟩ = some (.int .i64 a0_3) := (blk_cell BK235.out 3).trans rfl
   have hcz21_4 : w3.cell? ⟨gb235, 4, none⟩ = some (.int .i64 a0_4) := (blk_cell BK235.out 4).trans rfl
   have hcz21_5 : w3.cell? ⟨gb235, 5, none⟩ = some (.int .i64 a0_5) := (blk_cell BK235.out 5).trans rfl
   have hcz21_6 : w3.cell? ⟨gb235, 6, none⟩ = some (.slice A0_6 l0_6.length c0_6) := (blk_cell BK235.out 6).trans rfl
   have hcz21_7 : w3.cell? ⟨gb235, 7, none⟩ = some (.slice A0_7 l0_7.length c0_7) := (blk_cell BK235.out 7).trans rfl
   have hcz21_8 : w3.cell? ⟨gb235, 8, none⟩ = some (.slice A0_8 l0_8.length c0_8) := (blk_cell BK235.out 8).trans rfl
   have hcz21_9 : w3.cell? ⟨gb235, 9, none⟩ = some (.slice A0_9 l0_9.length c0_9) := (blk_cell BK235.out 9).trans rfl
   have hfz21_0 := blk_frozen BK235.out 0
   have hfz21_1 := blk_frozen BK235.out 1
   have hfz21_2 := blk_frozen BK235.out 2
   have hfz21_3 := blk_frozen BK235.out 3
   have hfz21_4 := blk_frozen BK235.out 4
   have hfz21_5 := blk_frozen BK235.out 5
   have hfz21_6 := blk_frozen BK235.out 6
   have hfz21_7 := blk_frozen BK235.out 7
   have hfz21_8 := blk_frozen BK235.out 8
   have hfz21_9 := blk_frozen BK235.out 9
   go_wp2_with (first | ((with_reducible refine gate_callee (f := 26) rfl ?_); refine goesL_ (some 12) rfl rfl Try.func26 (by kernel_rfl) rfl #[.int .i64 a0_1] rfl (by (try simp only [List.map_toArray, List.map_cons, List.map_nil]); first | done | rfl | (simp only [List.length_drop, List.length_take]; rfl)) ?_; (with_reducible refine (impl_isOf.calls a0_1 false _ A5.out).mono ?_); rintro e w' ⟨rfl, ⟨nd, rfl⟩⟩; refine ⟨_, rfl, ?_⟩))
   go_meet
   case rel => exact ⟨_, (true), (by first | rfl | (simp; done) | (simp [*]; done)), H', ⟨by first | omega | exact Nat.le_refl _⟩, ⟨by (with_reducible repeat (first | refine blk_drewN ?_ _ | refine blk_drew ?_ | refine blk_alloc ?_ _)); exact BK235.out⟩, ⟨by repeat (first | (with_reducible first | exact HB.out | apply below_alloc | apply pw_below_drewN | apply below_drew1 | refine below_set ?_ GE235.out) | exact HB.out)⟩⟩
 case rest =>
  clear HC2
  try clear c1
  try clear c2
  try clear p2
  try clear c6
  try clear p6
  try clear c8
  try clear c10
  try clear c12
  (try clear hcz14_0; try clear hcz14_1; try clear hcz14_2; try clear hcz14_3; try clear hcz14_4; try clear hcz14_5; try clear hcz14_6; try clear hcz14_7; try clear hcz14_8; try clear hcz14_9; try clear hcz16_0; try clear hcz16_1; try clear hcz16_2; try clear hcz16_3; try clear hcz16_4; try clear hcz16_5; try clear hcz16_6; try clear hcz16_7; try clear hcz16_8; try clear hcz16_9; try clear hcz17_0; try clear hcz17_1; try clear hcz17_2; try clear hcz17_3; try clear hcz17_4; try clear hcz17_5; try clear hcz17_6; try clear hcz17_7; try clear hcz17_8; try clear hcz17_9; try clear hcz19_0; try clear hcz19_1; try clear hcz19_2; try clear hcz19_3; try clear hcz19_4; try clear hcz19_5; try clear hcz19_6; try clear hcz19_7; try clear hcz19_8; try clear hcz19_9; try clear hcz20_0; try clear hcz20_1; try clear hcz20_2; try clear hcz20_3; try clear hcz20_4; try clear hcz20_5; try clear hcz20_6; try clear hcz20_7; try clear hcz20_8; try clear hcz20_9; try clear hcz21_0; try clear hcz21_1; try clear hcz21_2; try clear hcz21_3; try clear hcz21_4; try clear hcz21_5; try clear hcz21_6; try clear hcz21_7; try clear hcz21_8; try clear hcz21_9; try clear hcz4_0; try clear hcz4_1; try clear hcz4_2; try clear hcz4_3; try clear hcz4_4; try clear hcz4_5; try clear hcz4_6; try clear hcz4_7; try clear hcz4_8; try clear hcz4_9; try clear hfz14_0; try clear hfz14_1; try clear hfz14_2; try clear hfz14_3; try clear hfz14_4; try clear hfz14_5; try clear hfz14_6; try clear hfz14_7; try clear hfz14_8; try clear hfz14_9; try clear hfz16_0; try clear hfz16_1; try clear hfz16_2; try clear hfz16_3; try clear hfz16_4; try clear hfz16_5; try clear hfz16_6; try clear hfz16_7; try clear hfz16_8; try clear hfz16_9; try clear hfz17_0; try clear hfz17_1; try clear hfz17_2; try clear hfz17_3; try clear hfz17_4; try clear hfz17_5; try clear hfz17_6; try clear hfz17_7; try clear hfz17_8; try clear hfz17_9; try clear hfz19_0; try clear hfz19_1; try clear hfz19_2; try clear hfz19_3; try clear hfz19_4; try clear hfz19_5; try clear hfz19_6; try clear hfz19_7; try clear hfz19_8; try clear hfz19_9; try clear hfz20_0; try clear hfz20_1; try clear hfz20_2; try clear hfz20_3; try clear hfz20_4; try clear hfz20_5; try clear hfz20_6; try clear hfz20_7; try clear hfz20_8; try clear hfz20_9; try clear hfz21_0; try clear hfz21_1; try clear hfz21_2; try clear hfz21_3; try clear hfz21_4; try clear hfz21_5; try clear hfz21_6; try clear hfz21_7; try clear hfz21_8; try clear hfz21_9; try clear hfz4_0; try clear hfz4_1; try clear hfz4_2; try clear hfz4_3; try clear hfz4_4; try clear hfz4_5; try clear hfz4_6; try clear hfz4_7; try clear hfz4_8; try clear hfz4_9)
  obtain ⟨kq, x41_1, rfl, HA, HJ1, BK235, HB⟩ := hcut
  cases kq with
  | zero => exact absurd HA.out (by simp [impl_RaftOk.j0])
  | succ kj1 =>
   have H := HA.out
   clear HA
   simp only [impl_RaftOk.j0] at H
   go_upto_if 41 with (fail)
   by_cases c22 : x41_1 = true
   ·subst c22
    have H1 : (some false) = some r := by rw [if_pos rfl] at H; exact H
    clear H
    have H := H1
    clear H1
    obtain rfl := Option.some.inj H
    go_wp2
    go_ret
    exact ⟨by first | rfl | (simp [errW_none, errW_some] <;> rfl) | (simp [*, errW_none, errW_some] <;> rfl), by repeat (first | (with_reducible first | exact HB.out | apply below_alloc | apply pw_below_drewN | apply below_drew1 | refine below_set ?_ GE235.out) | exact HB.out)⟩
   ·replace c22 := Bool.eq_false_iff.mpr c22
    subst c22
    have H1 : ((impl_nodesAscend.f kj1 l0_7 a0_1).bind fun t241 => (if t241 = true then ((slices_Contains_int_int.f kj1 l0_7 a0_0).bind fun t242 => (if t242 = true then (impl_RaftOk.j1 kj1 (l0_6.length : Int) true a0_0 a0_1 a0_2 a0_3 a0_4 a0_5 l0_6 l0_7 l0_8 l0_9) else (if (l0_7.length : Int) > 0 then (impl_RaftOk.j1 kj1 (l0_6.length : Int) (a0_2 != 2) a0_0 a0_1 a0_2 a0_3 a0_4 a0_5 l0_6 l0_7 l0_8 l0_9) else (impl_RaftOk.j1 kj1 (l0_6.length : Int) false a0_0 a0_1 a0_2 a0_3 a0_4 a0_5 l0_6 l0_7 l0_8 l0_9)))) else (impl_RaftOk.j1 kj1 (l0_6.length : Int) true a0_0 a0_1 a0_2 a0_3 a0_4 a0_5 l0_6 l0_7 l0_8 l0_9))) = some r := by rw [if_neg (show ¬ (false = true) by decide)] at H; exact H
    clear H
    have H := H1
    clear H1
    have HC23 := Aside0.mk H
    clear H
    go_upto_region 4 with (fail)
    go_cut [65] (fun v65 wc => ∃ (kq : Nat) (x65_22 : Bool), v65 = .bool x65_22 ∧ Aside0 (impl_RaftOk.j1 kq (l0_6.length : Int) x65_22 a0_0 a0_1 a0_2 a0_3 a0_4 a0_5 l0_6 l0_7 l0_8 l0_9 = some r) ∧ Aside0 (kq ≤ kj1) ∧ Aside0 (wc.heap[gb235]? = some (.cells #[.int .i64 a0_0, .int .i64 a0_1, .int .i64 a0_2, .int .i64 a0_3, .int .i64 a0_4, .int .i64 a0_5, (.slice A0_6 l0_6.length c0_6), (.slice A0_7 l0_7.length c0_7), (.slice A0_8 l0_8.length c0_8), (.slice A0_9 l0_9.length c0_9)] 34 (0, 0))) ∧ Aside0 (Below w.heap.size w wc))
    case first =>
     have H := HC23.out
     clear HC23
     go_upto_region 4 with (fail)
     replace H := Option.bind_eq_some_iff.mp H
     obtain ⟨t241, A240, H⟩ := H
     replace H : (if t241 = true then ((slices_Contains_int_int.f kj1 l0_7 a0_0).bind fun t242 => (if t242 = true then (impl_RaftOk.j1 kj1 (l0_6.length : Int) true a0_0 a0_1 a0_2 a0_3 a0_4 a0_5 l0_6 l0_7 l0_8 l0_9) else (if (l0_7.length : Int) > 0 then (impl_RaftOk.j1 kj1 (l0_6.length : Int) (a0_2 != 2) a0_0 a0_1 a0_2 a0_3 a0_4 a0_5 l0_6 l0_7 l0_8 l0_9) else (impl_RaftOk.j1 kj1 (l0_6.length : Int) false a0_0 a0_1 a0_2 a0_3 a0_4 a0_5 l0_6 l0_7 l0_8 l0_9)))) else (impl_RaftOk.j1 kj1 (l0_6.length : Int) true a0_0 a0_1 a0_2 a0_3 a0_4 a0_5 l0_6 l0_7 l0_8 l0_9)) = some r := H
     have A24 := Aside0.mk A240
     clear A240
     by_cases c25 : t241 = true
     ·subst c25
      have H1 : ((slices_Contains_int_int.f kj1 l0_7 a0_0).bind fun t242 => (if t242 = true then (impl_RaftOk.j1 kj1 (l0_6.length : Int) true a0_0 a0_1 a0_2 a0_3 a0_4 a0_5 l0_6 l0_7 l0_8 l0_9) else (if (l0_7.length : Int) > 0 then (impl_RaftOk.j1 kj1 (l0_6.length : Int) (a0_2 != 2) a0_0 a0_1 a0_2 a0_3 a0_4 a0_5 l0_6 l0_7 l0_8 l0_9) else (impl_RaftOk.j1 kj1 (l0_6.length : Int) false a0_0 a0_1 a0_2 a0_3 a0_4 a0_5 l0_6 l0_7 l0_8 l0_9)))) = some r := by rw [if_pos rfl] at H; exact H
      clear H
      have H := H1
      clear H1
      replace H := Option.bind_eq_some_iff.mp H
      obtain ⟨t242, A260, H⟩ := H
      replace H : (if t242 = true then (impl_RaftOk.j1 kj1 (l0_6.length : Int) true a0_0 a0_1 a0_2 a0_3 a0_4 a0_5 l0_6 l0_7 l0_8 l0_9) else (if (l0_7.length : Int) > 0 then (impl_RaftOk.j1 kj1 (l0_6.length : Int) (a0_2 != 2) a0_0 a0_1 a0_2 a0_3 a0_4 a0_5 l0_6 l0_7 l0_8 l0_9) else (impl_RaftOk.j1 kj1 (l0_6.length : Int) false a0_0 a0_1 a0_2 a0_3 a0_4 a0_5 l0_6 l0_7 l0_8 l0_9))) = some r := H
      have A26 := Aside0.mk A260
      clear A260
      by_cases c27 : t242 = true
      ·subst c27
       have H1 : (impl_RaftOk.j1 kj1 (l0_6.length : Int) true a0_0 a0_1 a0_2 a0_3 a0_4 a0_5 l0_6 l0_7 l0_8 l0_9) = some r := by rw [if_pos rfl] at H; exact H
       clear H
       have H := H1
       clear H1
       have H' := Aside0.mk H
       clear H
       have hcz28_0 : wc.cell? ⟨gb235, 0, none⟩ = some (.int .i64 a0_0) := (blk_cell BK235.out 0).trans rfl
       have hcz28_1 : wc.cell? ⟨gb235, 1, none⟩ = some (.int .i64 a0_1) := (blk_cell BK235.out 1).trans rfl
       have hcz28_2 : wc.cell? ⟨gb235, 2, none⟩ = some (.int .i64 a0_2) := (blk_cell BK235.out 2).trans rfl
       have hcz28_3 : wc.cell? ⟨gb235, 3, none⟩ = some (.int .i64 a0_3) := (blk_cell BK235.out 3).trans rfl
       have hcz28_4 : wc.cell? ⟨gb235, 4, none⟩ = some (.int .i64 a0_4) := (blk_cell BK235.out 4).trans rfl
       have hcz28_5 : wc.cell? ⟨gb235, 5, none⟩ = some (.int .i64 a0_5) := (blk_cell BK235.out 5).trans rfl
       have hcz28_6 : wc.cell? ⟨gb235, 6, none⟩ = some (.slice A0_6 l0_6.length c0_6) := (blk_cell BK235.out 6).trans rfl
       have hcz28_7 : wc.cell? ⟨gb235, 7, none⟩ = some (.slice A0_7 l0_7.length c0_7) := (blk_cell BK235.out 7).trans rfl
       have hcz28_8 : wc.cell? ⟨gb235, 8, none⟩ = some (.slice A0_8 l0_8.length c0_8) := (blk_cell BK235.out 8).trans rfl
       have hcz28_9 : wc.cell? ⟨gb235, 9, none⟩ = some (.slice A0_9 l0_9.length c0_9) := (blk_cell BK235.out 9).trans rfl
       have hfz28_0 := blk_frozen BK235.out 0
       have hfz28_1 := blk_frozen BK235.out 1
       have hfz28_2 := blk_frozen BK235.out 2
       have hfz28_3 := blk_frozen BK235.out 3
       have hfz28_4 := blk_frozen BK235.out 4
       have hfz28_5 := blk_frozen BK235.out 5
       have hfz28_6 := blk_frozen BK235.out 6
       have hfz28_7 := blk_frozen BK235.out 7
       have hfz28_8 := blk_frozen BK235.out 8
       have hfz28_9 := blk_frozen BK235.out 9
       go_wp2_with (first | ((with_reducible refine gate_callee (f := 29) rfl ?_); refine goesL_ (some 46) rfl rfl Try.func29 (by kernel_rfl) rfl #[.slice A0_7 l0_7.length c0_7, .int .i64 a0_1] rfl (by (try simp only [List.map_toArray, List.map_cons, List.map_nil]); first | done | rfl | (simp only [List.length_drop, List.length_take]; rfl)) ?_; (with_reducible refine (impl_nodesAscend.calls kj1 _ _ l0_7 a0_1 true _ ?side1 ?side2 A24.out).mono ?_); (case side1 => repeat (first | exact (Kd.C_below HR0_7.out HB.out) | (with_reducible refine Kd.C_alloc ?_ _) | (with_reducible refine Kd.C_drewN ?_ _) | (with_reducible refine Kd.C_drew ?_))); (case side2 => exact HC0_7.out); rintro e w' ⟨rfl, ⟨nd, rfl⟩⟩; refine ⟨_, rfl, ?_⟩) | (go_at_call 30; (with_reducible refine (slices_Contains_int_int.calls kj1 _ _ l0_7 a0_0 true _ ?side1 ?side2 A26.out).mono ?_); (case side1 => repeat (first | exact (Kd.C_below HR0_7.out (by repeat (first | (with_reducible first | exact HB.out | apply below_alloc | apply pw_below_drewN | apply below_drew1 | refine below_set ?_ GE235.out) | exact HB.out))) | (with_reducible refine Kd.C_alloc ?_ _) | (with_reducible refine Kd.C_drewN ?_ _) | (with_reducible refine Kd.C_drew ?_))); (case side2 => exact HC0_7.out); rintro e w' ⟨rfl, ⟨nd, rfl⟩⟩))
       go_meet
       case rel => exact ⟨_, (true), (by first | rfl | (simp; done) | (simp [*]; done)), H', ⟨by have := HJ1.out; first | omega | exact Nat.le_refl _⟩, ⟨by (with_reducible repeat (first | refine blk_drewN ?_ _ | refine blk_drew ?_ | refine blk_alloc ?_ _)); exact BK235.out⟩, ⟨by repeat (first | (with_reducible first | exact HB.out | apply below_alloc | apply pw_below_drewN | apply below_drew1 | refine below_set ?_ GE235.out) | exact HB.out)⟩⟩
      ·replace c27 := Bool.eq_false_iff.mpr c27
       subst c27
       have H1 : (if (l0_7.length : Int) > 0 then (impl_RaftOk.j1 kj1 (l0_6.length : Int) (a0_2 != 2) a0_0 a0_1 a0_2 a0_3 a0_4 a0_5 l0_6 l0_7 l0_8 l0_9) else (impl_RaftOk.j1 kj1 (l0_6.length : Int) false a0_0 a0_1 a0_2 a0_3 a0_4 a0_5 l0_6 l0_7 l0_8 l0_9)) = some r := by rw [if_neg (show ¬ (false = true) by decide)] at H; exact H
       clear H
       have H := H1
       clear H1
       by_cases c29 : (l0_7.length : Int) > 0
       ·rw [if_pos c29] at H
        have c29b0 : decide (0 < (l0_7.length : Int)) = true := decide_eq_true c29
        have c29b1 : decide (0 < l0_7.length) = true := decide_eq_true (by omega)
        clear c29
        (first | rw [c29b0] | (simp only [i64_w, i32_w]; rw [c29b0]) | skip)
        have H' := Aside0.mk H
        clear H
        have hcz30_0 : wc.cell? ⟨gb235, 0, none⟩ = some (.int .i64 a0_0) := (blk_cell BK235.out 0).trans rfl
        have hcz30_1 : wc.cell? ⟨gb235, 1, none⟩ = some (.int .i64 a0_1) := (blk_cell BK235.out 1).trans rfl
        have hcz30_2 : wc.cell? ⟨gb235, 2, none⟩ = some (.int .i64 a0_2) := (blk_cell BK235.out 2).trans rfl
        have hcz30_3 : wc.cell? ⟨gb235, 3, none⟩ = some (.int .i64 a0_3) := (blk_cell BK235.out 3).trans rfl
        have hcz30_4 : wc.cell? ⟨gb235, 4, none⟩ = some (.int .i64 a0_4) := (blk_cell BK235.out 4).trans rfl
        have hcz30_5 : wc.cell? ⟨gb235, 5, none⟩ = some (.int .i64 a0_5) := (blk_cell BK235.out 5).trans rfl
        have hcz30_6 : wc.cell? ⟨gb235, 6, none⟩ = some (.slice A0_6 l0_6.length c0_6) := (blk_cell BK235.out 6).trans rfl
        have hcz30_7 : wc.cell? ⟨gb235, 7, none⟩ = some (.slice A0_7 l0_7.length c0_7) := (blk_cell BK235.out 7).trans rfl
        have hcz30_8 : wc.cell? ⟨gb235, 8, none⟩ = some (.slice A0_8 l0_8.length c0_8) := (blk_cell BK235.out 8).trans rfl
        have hcz30_9 : wc.cell? ⟨gb235, 9, none⟩ = some (.slice A0_9 l0_9.length c0_9) := (blk_cell BK235.out 9).trans rfl
        have hfz30_0 := blk_frozen BK235.out 0
        have hfz30_1 := blk_frozen BK235.out 1
        have hfz30_2 := blk_frozen BK235.out 2
        have hfz30_3 := blk_frozen BK235.out 3
        have hfz30_4 := blk_frozen BK235.out 4
        have hfz30_5 := blk_frozen BK235.out 5
        have hfz30_6 := blk_frozen BK235.out 6
        have hfz30_7 := blk_frozen BK235.out 7
        have hfz30_8 := blk_frozen BK235.out 8
        have hfz30_9 := blk_frozen BK235.out 9
        go_wp2_with (first | ((with_reducible refine gate_callee (f := 29) rfl ?_); refine goesL_ (some 46) rfl rfl Try.func29 (by kernel_rfl) rfl #[.slice A0_7 l0_7.length c0_7, .int .i64 a0_1] rfl (by (try simp only [List.map_toArray, List.map_cons, List.map_nil]); first | done | rfl | (simp only [List.length_drop, List.length_take]; rfl)) ?_; (with_reducible refine (impl_nodesAscend.calls kj1 _ _ l0_7 a0_1 true _ ?side1 ?side2 A24.out).mono ?_); (case side1 => repeat (first | exact (Kd.C_below HR0_7.out HB.out) | (with_reducible refine Kd.C_alloc ?_ _) | (with_reducible refine Kd.C_drewN ?_ _) | (with_reducible refine Kd.C_drew ?_))); (case side2 => exact HC0_7.out); rintro e w' ⟨rfl, ⟨nd, rfl⟩⟩; refine ⟨_, rfl, ?_⟩) | (go_at_call 30; (with_reducible refine (slices_Contains_int_int.calls kj1 _ _ l0_7 a0_0 false _ ?side1 ?side2 A26.out).mono ?_); (case side1 => repeat (first | exact (Kd.C_below HR0_7.out (by repeat (first | (with_reducible first | exact HB.out | apply below_alloc | apply pw_below_drewN | apply below_drew1 | refine below_set ?_ GE235.out) | exact HB.out))) | (with_reducible refine Kd.C_alloc ?_ _) | (with_reducible refine Kd.C_drewN ?_ _) | (with_reducible refine Kd.C_drew ?_))); (case side2 => exact HC0_7.out); rintro e w' ⟨rfl, ⟨nd, rfl⟩⟩))
        go_meet
        case rel => exact ⟨_, ((a0_2 != 2)), (by first | rfl | (simp; done) | (simp [*]; done)), H', ⟨by have := HJ1.out; first | omega | exact Nat.le_refl _⟩, ⟨by (with_reducible repeat (first | refine blk_drewN ?_ _ | refine blk_drew ?_ | refine blk_alloc ?_ _)); exact BK235.out⟩, ⟨by repeat (first | (with_reducible first | exact HB.out | apply below_alloc | apply pw_below_drewN | apply below_drew1 | refine below_set ?_ GE235.out) | exact HB.out)⟩⟩
       ·rw [if_neg c29] at H
        have c29b0 : decide (0 < (l0_7.length : Int)) = false := decide_eq_false c29
        have c29b1 : decide (0 < l0_7.length) = false := decide_eq_false (by omega)
        clear c29
        (first | rw [c29b0] | (simp only [i64_w, i32_w]; rw [c29b0]) | skip)
        have H' := Aside0.mk H
        clear H
        have hcz31_0 : wc.cell? ⟨gb235, 0, none⟩ = some (.int .i64 a0_0) := (blk_cell BK235.out 0).trans rfl
        have hcz31_1 : wc.cell? ⟨gb235, 1, none⟩ = some (.int .i64 a0_1) := (blk_cell BK235.out 1).trans rfl
        have hcz31_2 : wc.cell? ⟨gb235, 2, none⟩ = some (.int .i64 a0_2) := (blk_cell BK235.out 2).trans rfl
        have hcz31_3 : wc.cell? ⟨gb235, 3, none⟩ = some (.int .i64 a0_3) := (blk_cell BK235.out 3).trans rfl
        have hcz31_4 : wc.cell? ⟨gb235, 4, none⟩ = some (.int .i64 a0_4) := (blk_cell BK235.out 4).trans rfl
        have hcz31_5 : wc.cell? ⟨gb235, 5, none⟩ = some (.int .i64 a0_5) := (blk_cell BK235.out 5).trans rfl
        have hcz31_6 : wc.cell? ⟨gb235, 6, none⟩ = some (.slice A0_6 l0_6.length c0_6) := (blk_cell BK235.out 6).trans rfl
        have hcz31_7 : wc.cell? ⟨gb235, 7, none⟩ = some (.slice A0_7 l0_7.length c0_7) := (blk_cell BK235.out 7).trans rfl
        have hcz31_8 : wc.cell? ⟨gb235, 8, none⟩ = some (.slice A0_8 l0_8.length c0_8) := (blk_cell BK235.out 8).trans rfl
        have hcz31_9 : wc.cell? ⟨gb235, 9, none⟩ = some (.slice A0_9 l0_9.length c0_9) := (blk_cell BK235.out 9).trans rfl
        have hfz31_0 := blk_frozen BK235.out 0
        have hfz31_1 := blk_frozen BK235.out 1
        have hfz31_2 := blk_frozen BK235.out 2
        have hfz31_3 := blk_frozen BK235.out 3
        have hfz31_4 := blk_frozen BK235.out 4
        have hfz31_5 := blk_frozen BK235.out 5
        have hfz31_6 := blk_frozen BK235.out 6
        have hfz31_7 := blk_frozen BK235.out 7
        have hfz31_8 := blk_frozen BK235.out 8
        have hfz31_9 := blk_frozen BK235.out 9
        go_wp2_with (first | ((with_reducible refine gate_callee (f := 29) rfl ?_); refine goesL_ (some 46) rfl rfl Try.func29 (by kernel_rfl) rfl #[.slice A0_7 l0_7.length c0_7, .int .i64 a0_1] rfl (by (try simp only [List.map_toArray, List.map_cons, List.map_nil]); first | done | rfl | (simp only [List.length_drop, List.length_take]; rfl)) ?_; (with_reducible refine (impl_nodesAscend.calls kj1 _ _ l0_7 a0_1 true _ ?side1 ?side2 A24.out).mono ?_); (case side1 => repeat (first | exact (Kd.C_below HR0_7.out HB.out) | (with_reducible refine Kd.C_alloc ?_ _) | (with_reducible refine Kd.C_drewN ?_ _) | (with_reducible refine Kd.C_drew ?_))); (case side2 => exact HC0_7.out); rintro e w' ⟨rfl, ⟨nd, rfl⟩⟩; refine ⟨_, rfl, ?_⟩) | (go_at_call 30; (with_reducible refine (slices_Contains_int_int.calls kj1 _ _ l0_7 a0_0 false _ ?side1 ?side2 A26.out).mono ?_); (case side1 => repeat (first | exact (Kd.C_below HR0_7.out (by repeat (first | (with_reducible first | exact HB.out | apply below_alloc | apply pw_below_drewN | apply below_drew1 | refine below_set ?_ GE235.out) | exact HB.out))) | (with_reducible refine Kd.C_alloc ?_ _) | (with_reducible refine Kd.C_drewN ?_ _) | (with_reducible refine Kd.C_drew ?_))); (case side2 => exact HC0_7.out); rintro e w' ⟨rfl, ⟨nd, rfl⟩⟩))
        go_meet
        case rel => exact ⟨_, (false), (by first | rfl | (simp; done) | (simp [*]; done)), H', ⟨by have := HJ1.out; first | omega | exact Nat.le_refl _⟩, ⟨by (with_reducible repeat (first | refine blk_drewN ?_ _ | refine blk_drew ?_ | refine blk_alloc ?_ _)); exact BK235.out⟩, ⟨by repeat (first | (with_reducible first | exact HB.out | apply below_alloc | apply pw_below_drewN | apply below_drew1 | refine below_set ?_ GE235.out) | exact HB.out)⟩⟩
     ·replace c25 := Bool.eq_false_iff.mpr c25
      subst c25
      have H1 : (impl_RaftOk.j1 kj1 (l0_6.length : Int) true a0_0 a0_1 a0_2 a0_3 a0_4 a0_5 l0_6 l0_7 l0_8 l0_9) = some r := by rw [if_neg (show ¬ (false = true) by decide)] at H; exact H
      clear H
      have H := H1
      clear H1
      have H' := Aside0.mk H
      clear H
      have hcz32_0 : wc.cell? ⟨gb235, 0, none⟩ = some (.int .i64 a0_0) := (blk_cell BK235.out 0).trans rfl
      have hcz32_1 : wc.cell? ⟨gb235, 1, none⟩ = some (.int .i64 a0_1) := (blk_cell BK235.out 1).trans rfl
      have hcz32_2 : wc.cell? ⟨gb235, 2, none⟩ = some (.int .i64 a0_2) := (blk_cell BK235.out 2).trans rfl
      have hcz32_3 : wc.cell? ⟨gb235, 3, none⟩ = some (.int .i64 a0_3) := (blk_cell BK235.out 3).trans rfl
      have hcz32_4 : wc.cell? ⟨gb235, 4, none⟩ = some (.int .i64 a0_4) := (blk_cell BK235.out 4).trans rfl
      have hcz32_5 : wc.cell? ⟨gb235, 5, none⟩ = some (.int .i64 a0_5) := (blk_cell BK235.out 5).trans rfl
      have hcz32_6 : wc.cell? ⟨gb235, 6, none⟩ = some (.slice A0_6 l0_6.length c0_6) := (blk_cell BK235.out 6).trans rfl
      have hcz32_7 : wc.cell? ⟨gb235, 7, none⟩ = some (.slice A0_7 l0_7.length c0_7) := (blk_cell BK235.out 7).trans rfl
      have hcz32_8 : wc.cell? ⟨gb235, 8, none⟩ = some (.slice A0_8 l0_8.length c0_8) := (blk_cell BK235.out 8).trans rfl
      have hcz32_9 : wc.cell? ⟨gb235, 9, none⟩ = some (.slice A0_9 l0_9.length c0_9) := (blk_cell BK235.out 9).trans rfl
      have hfz32_0 := blk_frozen BK235.out 0
      have hfz32_1 := blk_frozen BK235.out 1
      have hfz32_2 := blk_frozen BK235.out 2
      have hfz32_3 := blk_frozen BK235.out 3
      have hfz32_4 := blk_frozen BK235.out 4
      have hfz32_5 := blk_frozen BK235.out 5
      have hfz32_6 := blk_frozen BK235.out 6
      have hfz32_7 := blk_frozen BK235.out 7
      have hfz32_8 := blk_frozen BK235.out 8
      have hfz32_9 := blk_frozen BK235.out 9
      go_wp2_with (first | ((with_reducible refine gate_callee (f := 29) rfl ?_); refine goesL_ (some 46) rfl rfl Try.func29 (by kernel_rfl) rfl #[.slice A0_7 l0_7.length c0_7, .int .i64 a0_1] rfl (by (try simp only [List.map_toArray, List.map_cons, List.map_nil]); first | done | rfl | (simp only [List.length_drop, List.length_take]; rfl)) ?_; (with_reducible refine (impl_nodesAscend.calls kj1 _ _ l0_7 a0_1 false _ ?side1 ?side2 A24.out).mono ?_); (case side1 => repeat (first | exact (Kd.C_below HR0_7.out HB.out) | (with_reducible refine Kd.C_alloc ?_ _) | (with_reducible refine Kd.C_drewN ?_ _) | (with_reducible refine Kd.C_drew ?_))); (case side2 => exact HC0_7.out); rintro e w' ⟨rfl, ⟨nd, rfl⟩⟩; refine ⟨_, rfl, ?_⟩))
      go_meet
      case rel => exact ⟨_, (true), (by first | rfl | (simp; done) | (simp [*]; done)), H', ⟨by have := HJ1.out; first | omega | exact Nat.le_refl _⟩, ⟨by (with_reducible repeat (first | refine blk_drewN ?_ _ | refine blk_drew ?_ | refine blk_alloc ?_ _)); exact BK235.out⟩, ⟨by repeat (first | (with_reducible first | exact HB.out | apply below_alloc | apply pw_below_drewN | apply below_drew1 | refine below_set ?_ GE235.out) | exact HB.out)⟩⟩
    case rest =>
     clear HC23
     try clear c1
     try clear c2
     try clear p2
     try clear c6
     try clear p6
     try clear c8
     try clear c10
     try clear c12
     try clear c22
     try clear c25
     try clear c26
     try clear c27
     try clear c29
     try clear c29b0
     try clear c29b1
     (try clear hcz14_0; try clear hcz14_1; try clear hcz14_2; try clear hcz14_3; try clear hcz14_4; try clear hcz14_5; try clear hcz14_6; try clear hcz14_7; try clear hcz14_8; try clear hcz14_9; try clear hcz16_0; try clear hcz16_1; try clear hcz16_2; try clear hcz16_3; try clear hcz16_4; try clear hcz16_5; try clear hcz16_6; try clear hcz16_7; try clear hcz16_8; try clear hcz16_9; try clear hcz17_0; try clear hcz17_1; try clear hcz17_2; try clear hcz17_3; try clear hcz17_4; try clear hcz17_5; try clear hcz17_6; try clear hcz17_7; try clear hcz17_8; try clear hcz17_9; try clear hcz19_0; try clear hcz19_1; try clear hcz19_2; try clear hcz19_3; try clear hcz19_4; try clear hcz19_5; try clear hcz19_6; try clear hcz19_7; try clear hcz19_8; try clear hcz19_9; try clear hcz20_0; try clear hcz20_1; try clear hcz20_2; try clear hcz20_3; try clear hcz20_4; try clear hcz20_5; try clear hcz20_6; try clear hcz20_7; try clear hcz20_8; try clear hcz20_9; try clear hcz21_0; try clear hcz21_1; try clear hcz21_2; try clear hcz21_3; try clear hcz21_4; try clear hcz21_5; try clear hcz21_6; try clear hcz21_7; try clear hcz21_8; try clear hcz21_9; try clear hcz28_0; try clear hcz28_1; try clear hcz28_2; try clear hcz28_3; try clear hcz28_4; try clear hcz28_5; try clear hcz28_6; try clear hcz28_7; try clear hcz28_8; try clear hcz28_9; try clear hcz30_0; try clear hcz30_1; try clear hcz30_2; try clear hcz30_3; try clear hcz30_4; try clear hcz30_5; try clear hcz30_6; try clear hcz30_7; try clear hcz30_8; try clear hcz30_9; try clear hcz31_0; try clear hcz31_1; try clear hcz31_2; try clear hcz31_3; try clear hcz31_4; try clear hcz31_5; try clear hcz31_6; try clear hcz31_7; try clear hcz31_8; try clear hcz31_9; try clear hcz32_0; try clear hcz32_1; try clear hcz32_2; try clear hcz32_3; try clear hcz32_4; try clear hcz32_5; try clear hcz32_6; try clear hcz32_7; try clear hcz32_8; try clear hcz32_9; try clear hcz4_0; try clear hcz4_1; try clear hcz4_2; try clear hcz4_3; try clear hcz4_4; try clear hcz4_5; try clear hcz4_6; try clear hcz4_7; try clear hcz4_8; try clear hcz4_9; try clear hfz14_0; try clear hfz14_1; try clear hfz14_2; try clear hfz14_3; try clear hfz14_4; try clear hfz14_5; try clear hfz14_6; try clear hfz14_7; try clear hfz14_8; try clear hfz14_9; try clear hfz16_0; try clear hfz16_1; try clear hfz16_2; try clear hfz16_3; try clear hfz16_4; try clear hfz16_5; try clear hfz16_6; try clear hfz16_7; try clear hfz16_8; try clear hfz16_9; try clear hfz17_0; try clear hfz17_1; try clear hfz17_2; try clear hfz17_3; try clear hfz17_4; try clear hfz17_5; try clear hfz17_6; try clear hfz17_7; try clear hfz17_8; try clear hfz17_9; try clear hfz19_0; try clear hfz19_1; try clear hfz19_2; try clear hfz19_3; try clear hfz19_4; try clear hfz19_5; try clear hfz19_6; try clear hfz19_7; try clear hfz19_8; try clear hfz19_9; try clear hfz20_0; try clear hfz20_1; try clear hfz20_2; try clear hfz20_3; try clear hfz20_4; try clear hfz20_5; try clear hfz20_6; try clear hfz20_7; try clear hfz20_8; try clear hfz20_9; try clear hfz21_0; try clear hfz21_1; try clear hfz21_2; try clear hfz21_3; try clear hfz21_4; try clear hfz21_5; try clear hfz21_6; try clear hfz21_7; try clear hfz21_8; try clear hfz21_9; try clear hfz28_0; try clear hfz28_1; try clear hfz28_2; try clear hfz28_3; try clear hfz28_4; try clear hfz28_5; try clear hfz28_6; try clear hfz28_7; try clear hfz28_8; try clear hfz28_9; try clear hfz30_0; try clear hfz30_1; try clear hfz30_2; try clear hfz30_3; try clear hfz30_4; try clear hfz30_5; try clear hfz30_6; try clear hfz30_7; try clear hfz30_8; try clear hfz30_9; try clear hfz31_0; try clear hfz31_1; try clear hfz31_2; try clear hfz31_3; try clear hfz31_4; try clear hfz31_5; try clear hfz31_6; try clear hfz31_7; try clear hfz31_8; try clear hfz31_9; try clear hfz32_0; try clear hfz32_1; try clear hfz32_2; try clear hfz32_3; try clear hfz32_4; try clear hfz32_5; try clear hfz32_6; try clear hfz32_7; try clear hfz32_8; try clear hfz32_9; try clear hfz4_0; try clear hfz4_1; try clear hfz4_2; try clear hfz4_3; try clear hfz4_4; try clear hfz4_5; try clear hfz4_6; try clear hfz4_7; try clear hfz4_8; try clear hfz4_9)
     try clear p2
     try clear p6
     obtain ⟨kq, x65_22, rfl, HA, HJ22, BK235, HB⟩ := hcut
     cases kq with
     | zero => exact absurd HA.out (by simp [impl_RaftOk.j1])
     | succ kj22 =>
      have H := HA.out
      clear HA
      simp only [impl_RaftOk.j1] at H
      go_upto_if 65 with (fail)
      by_cases c33 : x65_22 = true
      ·subst c33
       have H1 : (some false) = some r := by rw [if_pos rfl] at H; exact H
       clear H
       have H := H1
       clear H1
       obtain rfl := Option.some.inj H
       go_wp2
       go_ret
       exact ⟨by first | rfl | (simp [errW_none, errW_some] <;> rfl) | (simp [*, errW_none, errW_some] <;> rfl), by repeat (first | (with_reducible first | exact HB.out | apply below_alloc | apply pw_below_drewN | apply below_drew1 | refine below_set ?_ GE235.out) | exact HB.out)⟩
      ·replace c33 := Bool.eq_false_iff.mpr c33
       subst c33
       have H1 : (if a0_2 = 3 then (if a0_2 = 1 then ((impl_numbersIn.f kj22 l0_8 a0_1 1 (wrap64 ((l0_6.length : Int) + 1))).bind fun t243 => (if t243 = true then ((impl_numbersIn.f kj22 l0_9 a0_1 0 (l0_6.length : Int)).bind fun t244 => (some t244)) else (some false))) else (if a0_4 ≥ 1 then (if a0_5 = (wrap64 (a0_0 + 1)) then ((impl_numbersIn.f kj22 l0_8 a0_1 1 (wrap64 ((l0_6.length : Int) + 1))).bind fun t245 => (if t245 = true then ((impl_numbersIn.f kj22 l0_9 a0_1 0 (l0_6.length : Int)).bind fun t246 => (some t246)) else (some false))) else (some false)) else (some false))) else (if a0_2 = 1 then ((impl_numbersIn.f kj22 l0_8 0 1 (wrap64 ((l0_6.length : Int) + 1))).bind fun t247 => (if t247 = true then ((impl_numbersIn.f kj22 l0_9 0 0 (l0_6.length : Int)).bind fun t248 => (some t248)) else (some false))) else (if a0_4 ≥ 1 then (if a0_5 = (wrap64 (a0_0 + 1)) then ((impl_numbersIn.f kj22 l0_8 0 1 (wrap64 ((l0_6.length : Int) + 1))).bind fun t249 => (if t249 = true then ((impl_numbersIn.f kj22 l0_9 0 0 (l0_6.length : Int)).bind fun t250 => (some t250)) else (some false))) else (some false)) else (some false)))) = some r := by rw [if_neg (show ¬ (false = true) by decide)] at H; exact H
       clear H
       have H := H1
       clear H1
       have hcz34_0 : wc.cell? ⟨gb235, 0, none⟩ = some (.int .i64 a0_0) := (blk_cell BK235.out 0).trans rfl
       have hcz34_1 : wc.cell? ⟨gb235, 1, none⟩ = some (.int .i64 a0_1) := (blk_cell BK235.out 1).trans rfl
       have hcz34_2 : wc.cell? ⟨gb235, 2, none⟩ = some (.int .i64 a0_2) := (blk_cell BK235.out 2).trans rfl
       have hcz34_3 : wc.cell? ⟨gb235, 3, none⟩ = some (.int .i64 a0_3) := (blk_cell BK235.out 3).trans rfl
       have hcz34_4 : wc.cell? ⟨gb235, 4, none⟩ = some (.int .i64 a0_4) := (blk_cell BK235.out 4).trans rfl
       have hcz34_5 : wc.cell? ⟨gb235, 5, none⟩ = some (.int .i64 a0_5) := (blk_cell BK235.out 5).trans rfl
       have hcz34_6 : wc.cell? ⟨gb235, 6, none⟩ = some (.slice A0_6 l0_6.length c0_6) := (blk_cell BK235.out 6).trans rfl
       have hcz34_7 : wc.cell? ⟨gb235, 7, none⟩ = some (.slice A0_7 l0_7.length c0_7) := (blk_cell BK235.out 7).trans rfl
       have hcz34_8 : wc.cell? ⟨gb235, 8, none⟩ = some (.slice A0_8 l0_8.length c0_8) := (blk_cell BK235.out 8).trans rfl
       have hcz34_9 : wc.cell? ⟨gb235, 9, none⟩ = some (.slice A0_9 l0_9.length c0_9) := (blk_cell BK235.out 9).trans rfl
       have hfz34_0 := blk_frozen BK235.out 0
       have hfz34_1 := blk_frozen BK235.out 1
       have hfz34_2 := blk_frozen BK235.out 2
       have hfz34_3 := blk_frozen BK235.out 3
       have hfz34_4 := blk_frozen BK235.out 4
       have hfz34_5 := blk_frozen BK235.out 5
       have hfz34_6 := blk_frozen BK235.out 6
       have hfz34_7 := blk_frozen BK235.out 7
       have hfz34_8 := blk_frozen BK235.out 8
       have hfz34_9 := blk_frozen BK235.out 9
       go_upto_if 68 with (fail)
       by_cases c35 : a0_2 = 3
       ·rw [if_pos c35] at H
        have c35b0 : (a0_2 == 3) = true := beq_iff_eq.mpr c35
        have c35b1 : (a0_2 != 3) = false := bne_eq_false_iff_eq.mpr c35
        clear c35
        (first | rw [c35b0] | (simp only [i64_w, i32_w]; rw [c35b0]) | skip)
        have hcz36_0 : wc.cell? ⟨gb235, 0, none⟩ = some (.int .i64 a0_0) := (blk_cell BK235.out 0).trans rfl
        have hcz36_1 : wc.cell? ⟨gb235, 1, none⟩ = some (.int .i64 a0_1) := (blk_cell BK235.out 1).trans rfl
        have hcz36_2 : wc.cell? ⟨gb235, 2, none⟩ = some (.int .i64 a0_2) := (blk_cell BK235.out 2).trans rfl
        have hcz36_3 : wc.cell? ⟨gb235, 3, none⟩ = some (.int .i64 a0_3) := (blk_cell BK235.out 3).trans rfl
        have hcz36_4 : wc.cell? ⟨gb235, 4, none⟩ = some (.int .i64 a0_4) := (blk_cell BK235.out 4).trans rfl
        have hcz36_5 : wc.cell? ⟨gb235, 5, none⟩ = some (.int .i64 a0_5) := (blk_cell BK235.out 5).trans rfl
        have hcz36_6 : wc.cell? ⟨gb235, 6, none⟩ = some (.slice A0_6 l0_6.length c0_6) := (blk_cell BK235.out 6).trans rfl
        have hcz36_7 : wc.cell? ⟨gb235, 7, none⟩ = some (.slice A0_7 l0_7.length c0_7) := (blk_cell BK235.out 7).trans rfl
        have hcz36_8 : wc.cell? ⟨gb235, 8, none⟩ = some (.slice A0_8 l0_8.length c0_8) := (blk_cell BK235.out 8).trans rfl
        have hcz36_9 : wc.cell? ⟨gb235, 9, none⟩ = some (.slice A0_9 l0_9.length c0_9) := (blk_cell BK235.out 9).trans rfl
        have hfz36_0 := blk_frozen BK235.out 0
        have hfz36_1 := blk_frozen BK235.out 1
        have hfz36_2 := blk_frozen BK235.out 2
        have hfz36_3 := blk_frozen BK235.out 3
        have hfz36_4 := blk_frozen BK235.out 4
        have hfz36_5 := blk_frozen BK235.out 5
        have hfz36_6 := blk_frozen BK235.out 6
        have hfz36_7 := blk_frozen BK235.out 7
        have hfz36_8 := blk_frozen BK235.out 8
        have hfz36_9 := blk_frozen BK235.out 9
        go_upto_region 9 with (fail)
        by_cases c37 : a0_2 = 1
        ·rw [if_pos c37] at H
         have c37b0 : (a0_2 == 1) = true := beq_iff_eq.mpr c37
         have c37b1 : (a0_2 != 1) = false := bne_eq_false_iff_eq.mpr c37
         clear c37
         (first | rw [c37b0] | (simp only [i64_w, i32_w]; rw [c37b0]) | skip)
         have hcz38_0 : wc.cell? ⟨gb235, 0, none⟩ = some (.int .i64 a0_0) := (blk_cell BK235.out 0).trans rfl
         have hcz38_1 : wc.cell? ⟨gb235, 1, none⟩ = some (.int .i64 a0_1) := (blk_cell BK235.out 1).trans rfl
         have hcz38_2 : wc.cell? ⟨gb235, 2, none⟩ = some (.int .i64 a0_2) := (blk_cell BK235.out 2).trans rfl
         have hcz38_3 : wc.cell? ⟨gb235, 3, none⟩ = some (.int .i64 a0_3) := (blk_cell BK235.out 3).trans rfl
         have hcz38_4 : wc.cell? ⟨gb235, 4, none⟩ = some (.int .i64 a0_4) := (blk_cell BK235.out 4).trans rfl
         have hcz38_5 : wc.cell? ⟨gb235, 5, none⟩ = some (.int .i64 a0_5) := (blk_cell BK235.out 5).trans rfl
         have hcz38_6 : wc.cell? ⟨gb235, 6, none⟩ = some (.slice A0_6 l0_6.length c0_6) := (blk_cell BK235.out 6).trans rfl
         have hcz38_7 : wc.cell? ⟨gb235, 7, none⟩ = some (.slice A0_7 l0_7.length c0_7) := (blk_cell BK235.out 7).trans rfl
         have hcz38_8 : wc.cell? ⟨gb235, 8, none⟩ = some (.slice A0_8 l0_8.length c0_8) := (blk_cell BK235.out 8).trans rfl
         have hcz38_9 : wc.cell? ⟨gb235, 9, none⟩ = some (.slice A0_9 l0_9.length c0_9) := (blk_cell BK235.out 9).trans rfl
         have hfz38_0 := blk_frozen BK235.out 0
         have hfz38_1 := blk_frozen BK235.out 1
         have hfz38_2 := blk_frozen BK235.out 2
         have hfz38_3 := blk_frozen BK235.out 3
         have hfz38_4 := blk_frozen BK235.out 4
         have hfz38_5 := blk_frozen BK235.out 5
         have hfz38_6 := blk_frozen BK235.out 6
         have hfz38_7 := blk_frozen BK235.out 7
         have hfz38_8 := blk_frozen BK235.out 8
         have hfz38_9 := blk_frozen BK235.out 9
         go_upto_region 10 with (fail)
         replace H := Option.bind_eq_some_iff.mp H
         obtain ⟨t243, A390, H⟩ := H
         replace H : (if t243 = true then ((impl_numbersIn.f kj22 l0_9 a0_1 0 (l0_6.length : Int)).bind fun t244 => (some t244)) else (some false)) = some r := H
         have A39 := Aside0.mk A390
         clear A390
         by_cases c40 : t243 = true
         ·subst c40
          have H1 : ((impl_numbersIn.f kj22 l0_9 a0_1 0 (l0_6.length : Int)).bind fun t244 => (some t244)) = some r := by rw [if_pos rfl] at H; exact H
          clear H
          have H := H1
          clear H1
          replace H := Option.bind_eq_some_iff.mp H
          obtain ⟨t244, A410, H⟩ := H
          replace H : (some t244) = some r := H
          have A41 := Aside0.mk A410
          clear A410
          obtain rfl := Option.some.inj H
          have hcz42_0 : wc.cell? ⟨gb235, 0, none⟩ = some (.int .i64 a0_0) := (blk_cell BK235.out 0).trans rfl
          have hcz42_1 : wc.cell? ⟨gb235, 1, none⟩ = some (.int .i64 a0_1) := (blk_cell BK235.out 1).trans rfl
          have hcz42_2 : wc.cell? ⟨gb235, 2, none⟩ = some (.int .i64 a0_2) := (blk_cell BK235.out 2).trans rfl
          have hcz42_3 : wc.cell? ⟨gb235, 3, none⟩ = some (.int .i64 a0_3) := (blk_cell BK235.out 3).trans rfl
          have hcz42_4 : wc.cell? ⟨gb235, 4, none⟩ = some (.int .i64 a0_4) := (blk_cell BK235.out 4).trans rfl
          have hcz42_5 : wc.cell? ⟨gb235, 5, none⟩ = some (.int .i64 a0_5) := (blk_cell BK235.out 5).trans rfl
          have hcz42_6 : wc.cell? ⟨gb235, 6, none⟩ = some (.slice A0_6 l0_6.length c0_6) := (blk_cell BK235.out 6).trans rfl
          have hcz42_7 : wc.cell? ⟨gb235, 7, none⟩ = some (.slice A0_7 l0_7.length c0_7) := (blk_cell BK235.out 7).trans rfl
          have hcz42_8 : wc.cell? ⟨gb235, 8, none⟩ = some (.slice A0_8 l0_8.length c0_8) := (blk_cell BK235.out 8).trans rfl
          have hcz42_9 : wc.cell? ⟨gb235, 9, none⟩ = some (.slice A0_9 l0_9.length c0_9) := (blk_cell BK235.out 9).trans rfl
          have hfz42_0 := blk_frozen BK235.out 0
          have hfz42_1 := blk_frozen BK235.out 1
          have hfz42_2 := blk_frozen BK235.out 2
          have hfz42_3 := blk_frozen BK235.out 3
          have hfz42_4 := blk_frozen BK235.out 4
          have hfz42_5 := blk_frozen BK235.out 5
          have hfz42_6 := blk_frozen BK235.out 6
          have hfz42_7 := blk_frozen BK235.out 7
          have hfz42_8 := blk_frozen BK235.out 8
          have hfz42_9 := blk_frozen BK235.out 9
          go_wp2_with (first | (go_at_call 31; (with_reducible refine (impl_numbersIn.calls kj22 _ _ l0_8 a0_1 1 (wrap64 ((l0_6.length : Int) + 1)) true _ ?side1 ?side2 A39.out).mono ?_); (case side1 => repeat (first | exact (Kd.C_below HR0_8.out HB.out) | (with_reducible refine Kd.C_alloc ?_ _) | (with_reducible refine Kd.C_drewN ?_ _) | (with_reducible refine Kd.C_drew ?_))); (case side2 => exact HC0_8.out); rintro e w' ⟨rfl, ⟨nd, rfl⟩⟩) | (go_at_call 31; (with_reducible refine (impl_numbersIn.calls kj22 _ _ l0_9 a0_1 0 (l0_6.length : Int) t244 _ ?side1 ?side2 A41.out).mono ?_); (case side1 => repeat (first | exact (Kd.C_below HR0_9.out (by repeat (first | (with_reducible first | exact HB.out | apply below_alloc | apply pw_below_drewN | apply below_drew1 | refine below_set ?_ GE235.out) | exact HB.out))) | (with_reducible refine Kd.C_alloc ?_ _) | (with_reducible refine Kd.C_drewN ?_ _) | (with_reducible refine Kd.C_drew ?_))); (case side2 => exact HC0_9.out); rintro e w' ⟨rfl, ⟨nd, rfl⟩⟩))
          go_ret
          exact ⟨by first | rfl | (simp [errW_none, errW_some] <;> rfl) | (simp [*, errW_none, errW_some] <;> rfl), by repeat (first | (with_reducible first | exact HB.out | apply below_alloc | apply pw_below_drewN | apply below_drew1 | refine below_set ?_ GE235.out) | exact HB.out)⟩
         ·replace c40 := Bool.eq_false_iff.mpr c40
          subst c40
          have H1 : (some false) = some r := by rw [if_neg (show ¬ (false = true) by decide)] at H; exact H
          clear H
          have H := H1
          clear H1
          obtain rfl := Option.some.inj H
          have hcz43_0 : wc.cell? ⟨gb235, 0, none⟩ = some (.int .i64 a0_0) := (blk_cell BK235.out 0).trans rfl
          have hcz43_1 : wc.cell? ⟨gb235, 1, none⟩ = some (.int .i64 a0_1) := (blk_cell BK235.out 1).trans rfl
          have hcz43_2 : wc.cell? ⟨gb235, 2, none⟩ = some (.int .i64 a0_2) := (blk_cell BK235.out 2).trans rfl
          have hcz43_3 : wc.cell? ⟨gb235, 3, none⟩ = some (.int .i64 a0_3) := (blk_cell BK235.out 3).trans rfl
          have hcz43_4 : wc.cell? ⟨gb235, 4, none⟩ = some (.int .i64 a0_4) := (blk_cell BK235.out 4).trans rfl
          have hcz43_5 : wc.cell? ⟨gb235, 5, none⟩ = some (.int .i64 a0_5) := (blk_cell BK235.out 5).trans rfl
          have hcz43_6 : wc.cell? ⟨gb235, 6, none⟩ = some (.slice A0_6 l0_6.length c0_6) := (blk_cell BK235.out 6).trans rfl
          have hcz43_7 : wc.cell? ⟨gb235, 7, none⟩ = some (.slice A0_7 l0_7.length c0_7) := (blk_cell BK235.out 7).trans rfl
          have hcz43_8 : wc.cell? ⟨gb235, 8, none⟩ = some (.slice A0_8 l0_8.length c0_8) := (blk_cell BK235.out 8).trans rfl
          have hcz43_9 : wc.cell? ⟨gb235, 9, none⟩ = some (.slice A0_9 l0_9.length c0_9) := (blk_cell BK235.out 9).trans rfl
          have hfz43_0 := blk_frozen BK235.out 0
          have hfz43_1 := blk_frozen BK235.out 1
          have hfz43_2 := blk_frozen BK235.out 2
          have hfz43_3 := blk_frozen BK235.out 3
          have hfz43_4 := blk_frozen BK235.out 4
          have hfz43_5 := blk_frozen BK235.out 5
          have hfz43_6 := blk_frozen BK235.out 6
          have hfz43_7 := blk_frozen BK235.out 7
          have hfz43_8 := blk_frozen BK235.out 8
          have hfz43_9 := blk_frozen BK235.out 9
          go_wp2_with (first | (go_at_call 31; (with_reducible refine (impl_numbersIn.calls kj22 _ _ l0_8 a0_1 1 (wrap64 ((l0_6.length : Int) + 1)) false _ ?side1 ?side2 A39.out).mono ?_); (case side1 => repeat (first | exact (Kd.C_below HR0_8.out HB.out) | (with_reducible refine Kd.C_alloc ?_ _) | (with_reducible refine Kd.C_drewN ?_ _) | (with_reducible refine Kd.C_drew ?_))); (case side2 => exact HC0_8.out); rintro e w' ⟨rfl, ⟨nd, rfl⟩⟩))
          go_ret
          exact ⟨by first | rfl | (simp [errW_none, errW_some] <;> rfl) | (simp [*, errW_none, errW_some] <;> rfl), by repeat (first | (with_reducible first | exact HB.out | apply below_alloc | apply pw_below_drewN | apply below_drew1 | refine below_set ?_ GE235.out) | exact HB.out)⟩
        ·rw [if_neg c37] at H
         have c37b0 : (a0_2 == 1) = false := beq_eq_false_iff_ne.mpr c37
         have c37b1 : (a0_2 != 1) = true := bne_iff_ne.mpr c37
         (first | rw [c37b0] | (simp only [i64_w, i32_w]; rw [c37b0]) | skip)
         by_cases c44 : a0_4 ≥ 1
         ·rw [if_pos c44] at H
          have c44b0 : decide (1 ≤ a0_4) = true := decide_eq_true c44
          clear c44
          have hcz45_0 : wc.cell? ⟨gb235, 0, none⟩ = some (.int .i64 a0_0) := (blk_cell BK235.out 0).trans rfl
          have hcz45_1 : wc.cell? ⟨gb235, 1, none⟩ = some (.int .i64 a0_1) := (blk_cell BK235.out 1).trans rfl
          have hcz45_2 : wc.cell? ⟨gb235, 2, none⟩ = some (.int .i64 a0_2) := (blk_cell BK235.out 2).trans rfl
          have hcz45_3 : wc.cell? ⟨gb235, 3, none⟩ = some (.int .i64 a0_3) := (blk_cell BK235.out 3).trans rfl
          have hcz45_4 : wc.cell? ⟨gb235, 4, none⟩ = some (.int .i64 a0_4) := (blk_cell BK235.out 4).trans rfl
          have hcz45_5 : wc.cell? ⟨gb235, 5, none⟩ = some (.int .i64 a0_5) := (blk_cell BK235.out 5).trans rfl
          have hcz45_6 : wc.cell? ⟨gb235, 6, none⟩ = some (.slice A0_6 l0_6.length c0_6) := (blk_cell BK235.out 6).trans rfl
          have hcz45_7 : wc.cell? ⟨gb235, 7, none⟩ = some (.slice A0_7 l0_7.length c0_7) := (blk_cell BK235.out 7).trans rfl
          have hcz45_8 : wc.cell? ⟨gb235, 8, none⟩ = some (.slice A0_8 l0_8.length c0_8) := (blk_cell BK235.out 8).trans rfl
          have hcz45_9 : wc.cell? ⟨gb235, 9, none⟩ = some (.slice A0_9 l0_9.length c0_9) := (blk_cell BK235.out 9).trans rfl
          have hfz45_0 := blk_frozen BK235.out 0
          have hfz45_1 := blk_frozen BK235.out 1
          have hfz45_2 := blk_frozen BK235.out 2
          have hfz45_3 := blk_frozen BK235.out 3
          have hfz45_4 := blk_frozen BK235.out 4
          have hfz45_5 := blk_frozen BK235.out 5
          have hfz45_6 := blk_frozen BK235.out 6
          have hfz45_7 := blk_frozen BK235.out 7
          have hfz45_8 := blk_frozen BK235.out 8
          have hfz45_9 := blk_frozen BK235.out 9
          go_upto_region 10 with (fail)
          by_cases c46 : a0_5 = (wrap64 (a0_0 + 1))
          ·rw [if_pos c46] at H
           have c46b0 : (a0_5 == (wrap64 (a0_0 + 1))) = true := beq_iff_eq.mpr c46
           have c46b1 : (a0_5 != (wrap64 (a0_0 + 1))) = false := bne_eq_false_iff_eq.mpr c46
           clear c46
           (first | rw [c46b0] | (simp only [i64_w, i32_w]; rw [c46b0]) | skip)
           replace H := Option.bind_eq_some_iff.mp H
           obtain ⟨t245, A470, H⟩ := H
           replace H : (if t245 = true then ((impl_numbersIn.f kj22 l0_9 a0_1 0 (l0_6.length : Int)).bind fun t246 => (some t246)) else (some false)) = some r := H
           have A47 := Aside0.mk A470
           clear A470
           by_cases c48 : t245 = true
           ·subst c48
            have H1 : ((impl_numbersIn.f kj22 l0_9 a0_1 0 (l0_6.length : Int)).bind fun t246 => (some t246)) = some r := by rw [if_pos rfl] at H; exact H
            clear H
            have H := H1
            clear H1
            replace H := Option.bind_eq_some_iff.mp H
            obtain ⟨t246, A490, H⟩ := H
            replace H : (some t246) = some r := H
            have A49 := Aside0.mk A490
            clear A490
            obtain rfl := Option.some.inj H
            have hcz50_0 : wc.cell? ⟨gb235, 0, none⟩ = some (.int .i64 a0_0) := (blk_cell BK235.out 0).trans rfl
            have hcz50_1 : wc.cell? ⟨gb235, 1, none⟩ = some (.int .i64 a0_1) := (blk_cell BK235.out 1).trans rfl
            have hcz50_2 : wc.cell? ⟨gb235, 2, none⟩ = some (.int .i64 a0_2) := (blk_cell BK235.out 2).trans rfl
            have hcz50_3 : wc.cell? ⟨gb235, 3, none⟩ = some (.int .i64 a0_3) := (blk_cell BK235.out 3).trans rfl
            have hcz50_4 : wc.cell? ⟨gb235, 4, none⟩ = some (.int .i64 a0_4) := (blk_cell BK235.out 4).trans rfl
            have hcz50_5 : wc.cell? ⟨gb235, 5, none⟩ = some (.int .i64 a0_5) := (blk_cell BK235.out 5).trans rfl
            have hcz50_6 : wc.cell? ⟨gb235, 6, none⟩ = some (.slice A0_6 l0_6.length c0_6) := (blk_cell BK235.out 6).trans rfl
            have hcz50_7 : wc.cell? ⟨gb235, 7, none⟩ = some (.slice A0_7 l0_7.length c0_7) := (blk_cell BK235.out 7).trans rfl
            have hcz50_8 : wc.cell? ⟨gb235, 8, none⟩ = some (.slice A0_8 l0_8.length c0_8) := (blk_cell BK235.out 8).trans rfl
            have hcz50_9 : wc.cell? ⟨gb235, 9, none⟩ = some (.slice A0_9 l0_9.length c0_9) := (blk_cell BK235.out 9).trans rfl
            have hfz50_0 := blk_frozen BK235.out 0
            have hfz50_1 := blk_frozen BK235.out 1
            have hfz50_2 := blk_frozen BK235.out 2
            have hfz50_3 := blk_frozen BK235.out 3
            have hfz50_4 := blk_frozen BK235.out 4
            have hfz50_5 := blk_frozen BK235.out 5
            have hfz50_6 := blk_frozen BK235.out 6
            have hfz50_7 := blk_frozen BK235.out 7
            have hfz50_8 := blk_frozen BK235.out 8
            have hfz50_9 := blk_frozen BK235.out 9
            go_wp2_with (first | (go_at_call 31; (with_reducible refine (impl_numbersIn.calls kj22 _ _ l0_8 a0_1 1 (wrap64 ((l0_6.length : Int) + 1)) true _ ?side1 ?side2 A47.out).mono ?_); (case side1 => repeat (first | exact (Kd.C_below HR0_8.out HB.out) | (with_reducible refine Kd.C_alloc ?_ _) | (with_reducible refine Kd.C_drewN ?_ _) | (with_reducible refine Kd.C_drew ?_))); (case side2 => exact HC0_8.out); rintro e w' ⟨rfl, ⟨nd, rfl⟩⟩) | (go_at_call 31; (with_reducible refine (impl_numbersIn.calls kj22 _ _ l0_9 a0_1 0 (l0_6.length : Int) t246 _ ?side1 ?side2 A49.out).mono ?_); (case side1 => repeat (first | exact (Kd.C_below HR0_9.out (by repeat (first | (with_reducible first | exact HB.out | apply below_alloc | apply pw_below_drewN | apply below_drew1 | refine below_set ?_ GE235.out) | exact HB.out))) | (with_reducible refine Kd.C_alloc ?_ _) | (with_reducible refine Kd.C_drewN ?_ _) | (with_reducible refine Kd.C_drew ?_))); (case side2 => exact HC0_9.out); rintro e w' ⟨rfl, ⟨nd, rfl⟩⟩))
            go_ret
            exact ⟨by first | rfl | (simp [errW_none, errW_some] <;> rfl) | (simp [*, errW_none, errW_some] <;> rfl), by repeat (first | (with_reducible first | exact HB.out | apply below_alloc | apply pw_below_drewN | apply below_drew1 | refine below_set ?_ GE235.out) | exact HB.out)⟩
           ·replace c48 := Bool.eq_false_iff.mpr c48
            subst c48
            have H1 : (some false) = some r := by rw [if_neg (show ¬ (false = true) by decide)] at H; exact H
            clear H
            have H := H1
            clear H1
            obtain rfl := Option.some.inj H
            have hcz51_0 : wc.cell? ⟨gb235, 0, none⟩ = some (.int .i64 a0_0) := (blk_cell BK235.out 0).trans rfl
            have hcz51_1 : wc.cell? ⟨gb235, 1, none⟩ = some (.int .i64 a0_1) := (blk_cell BK235.out 1).trans rfl
            have hcz51_2 : wc.cell? ⟨gb235, 2, none⟩ = some (.int .i64 a0_2) := (blk_cell BK235.out 2).trans rfl
            have hcz51_3 : wc.cell? ⟨gb235, 3, none⟩ = some (.int .i64 a0_3) := (blk_cell BK235.out 3).trans rfl
            have hcz51_4 : wc.cell? ⟨gb235, 4, none⟩ = some (.int .i64 a0_4) := (blk_cell BK235.out 4).trans rfl
            have hcz51_5 : wc.cell? ⟨gb235, 5, none⟩ = some (.int .i64 a0_5) := (blk_cell BK235.out 5).trans rfl
            have hcz51_6 : wc.cell? ⟨gb235, 6, none⟩ = some (.slice A0_6 l0_6.length c0_6) := (blk_cell BK235.out 6).trans rfl
            have hcz51_7 : wc.cell? ⟨gb235, 7, none⟩ = some (.slice A0_7 l0_7.length c0_7) := (blk_cell BK235.out 7).trans rfl
            have hcz51_8 : wc.cell? ⟨gb235, 8, none⟩ = some (.slice A0_8 l0_8.length c0_8) := (blk_cell BK235.out 8).trans rfl
            have hcz51_9 : wc.cell? ⟨gb235, 9, none⟩ = some (.slice A0_9 l0_9.length c0_9) := (blk_cell BK235.out 9).trans rfl
            have hfz51_0 := blk_frozen BK235.out 0
            have hfz51_1 := blk_frozen BK235.out 1
            have hfz51_2 := blk_frozen BK235.out 2
            have hfz51_3 := blk_frozen BK235.out 3
            have hfz51_4 := blk_frozen BK235.out 4
            have hfz51_5 := blk_frozen BK235.out 5
            have hfz51_6 := blk_frozen BK235.out 6
            have hfz51_7 := blk_frozen BK235.out 7
            have hfz51_8 := blk_frozen BK235.out 8
            have hfz51_9 := blk_frozen BK235.out 9
            go_wp2_with (first | (go_at_call 31; (with_reducible refine (impl_numbersIn.calls kj22 _ _ l0_8 a0_1 1 (wrap64 ((l0_6.length : Int) + 1)) false _ ?side1 ?side2 A47.out).mono ?_); (case side1 => repeat (first | exact (Kd.C_below HR0_8.out HB.out) | (with_reducible refine Kd.C_alloc ?_ _) | (with_reducible refine Kd.C_drewN ?_ _) | (with_reducible refine Kd.C_drew ?_))); (case side2 => exact HC0_8.out); rintro e w' ⟨rfl, ⟨nd, rfl⟩⟩))
            go_ret
            exact ⟨by first | rfl | (simp [errW_none, errW_some] <;> rfl) | (simp [*, errW_none, errW_some] <;> rfl), by repeat (first | (with_reducible first | exact HB.out | apply below_alloc | apply pw_below_drewN | apply below_drew1 | refine below_set ?_ GE235.out) | exact HB.out)⟩
          ·rw [if_neg c46] at H
           have c46b0 : (a0_5 == (wrap64 (a0_0 + 1))) = false := beq_eq_false_iff_ne.mpr c46
           have c46b1 : (a0_5 != (wrap64 (a0_0 + 1))) = true := bne_iff_ne.mpr c46
           (first | rw [c46b0] | (simp only [i64_w, i32_w]; rw [c46b0]) | skip)
           obtain rfl := Option.some.inj H
           go_wp2
           go_ret
           exact ⟨by first | rfl | (simp [errW_none, errW_some] <;> rfl) | (simp [*, errW_none, errW_some] <;> rfl), by repeat (first | (with_reducible first | exact HB.out | apply below_alloc | apply pw_below_drewN | apply below_drew1 | refine below_set ?_ GE235.out) | exact HB.out)⟩
         ·rw [if_neg c44] at H
          have c44b0 : decide (1 ≤ a0_4) = false := decide_eq_false c44
          clear c44
          have hcz52_0 : wc.cell? ⟨gb235, 0, none⟩ = some (.int .i64 a0_0) := (blk_cell BK235.out 0).trans rfl
          have hcz52_1 : wc.cell? ⟨gb235, 1, none⟩ = some (.int .i64 a0_1) := (blk_cell BK235.out 1).trans rfl
          have hcz52_2 : wc.cell? ⟨gb235, 2, none⟩ = some (.int .i64 a0_2) := (blk_cell BK235.out 2).trans rfl
          have hcz52_3 : wc.cell? ⟨gb235, 3, none⟩ = some (.int .i64 a0_3) := (blk_cell BK235.out 3).trans rfl
          have hcz52_4 : wc.cell? ⟨gb235, 4, none⟩ = some (.int .i64 a0_4) := (blk_cell BK235.out 4).trans rfl
          have hcz52_5 : wc.cell? ⟨gb235, 5, none⟩ = some (.int .i64 a0_5) := (blk_cell BK235.out 5).trans rfl
          have hcz52_6 : wc.cell? ⟨gb235, 6, none⟩ = some (.slice A0_6 l0_6.length c0_6) := (blk_cell BK235.out 6).trans rfl
          have hcz52_7 : wc.cell? ⟨gb235, 7, none⟩ = some (.slice A0_7 l0_7.length c0_7) := (blk_cell BK235.out 7).trans rfl
          have hcz52_8 : wc.cell? ⟨gb235, 8, none⟩ = some (.slice A0_8 l0_8.length c0_8) := (blk_cell BK235.out 8).trans rfl
          have hcz52_9 : wc.cell? ⟨gb235, 9, none⟩ = some (.slice A0_9 l0_9.length c0_9) := (blk_cell BK235.out 9).trans rfl
          have hfz52_0 := blk_frozen BK235.out 0
          have hfz52_1 := blk_frozen BK235.out 1
          have hfz52_2 := blk_frozen BK235.out 2
          have hfz52_3 := blk_frozen BK235.out 3
          have hfz52_4 := blk_frozen BK235.out 4
          have hfz52_5 := blk_frozen BK235.out 5
          have hfz52_6 := blk_frozen BK235.out 6
          have hfz52_7 := blk_frozen BK235.out 7
          have hfz52_8 := blk_frozen BK235.out 8
          have hfz52_9 := blk_frozen BK235.out 9
          go_upto_region 10 with (fail)
          obtain rfl := Option.some.inj H
          go_wp2
          go_ret
          exact ⟨by first | rfl | (simp [errW_none, errW_some] <;> rfl) | (simp [*, errW_none, errW_some] <;> rfl), by repeat (first | (with_reducible first | exact HB.out | apply below_alloc | apply pw_below_drewN | apply below_drew1 | refine below_set ?_ GE235.out) | exact HB.out)⟩
       ·rw [if_neg c35] at H
        have c35b0 : (a0_2 == 3) = false := beq_eq_false_iff_ne.mpr c35
        have c35b1 : (a0_2 != 3) = true := bne_iff_ne.mpr c35
        (first | rw [c35b0] | (simp only [i64_w, i32_w]; rw [c35b0]) | skip)
        go_upto_region 9 with (fail)
        by_cases c53 : a0_2 = 1
        ·rw [if_pos c53] at H
         have c53b0 : (a0_2 == 1) = true := beq_iff_eq.mpr c53
         have c53b1 : (a0_2 != 1) = false := bne_eq_false_iff_eq.mpr c53
         clear c53
         (first | rw [c53b0] | (simp only [i64_w, i32_w]; rw [c53b0]) | skip)
         have hcz54_0 : wc.cell? ⟨gb235, 0, none⟩ = some (.int .i64 a0_0) := (blk_cell BK235.out 0).trans rfl
         have hcz54_1 : wc.cell? ⟨gb235, 1, none⟩ = some (.int .i64 a0_1) := (blk_cell BK235.out 1).trans rfl
         have hcz54_2 : wc.cell? ⟨gb235, 2, none⟩ = some (.int .i64 a0_2) := (blk_cell BK235.out 2).trans rfl
         have hcz54_3 : wc.cell? ⟨gb235, 3, none⟩ = some (.int .i64 a0_3) := (blk_cell BK235.out 3).trans rfl
         have hcz54_4 : wc.cell? ⟨gb235, 4, none⟩ = some (.int .i64 a0_4) := (blk_cell BK235.out 4).trans rfl
         have hcz54_5 : wc.cell? ⟨gb235, 5, none⟩ = some (.int .i64 a0_5) := (blk_cell BK235.out 5).trans rfl
         have hcz54_6 : wc.cell? ⟨gb235, 6, none⟩ = some (.slice A0_6 l0_6.length c0_6) := (blk_cell BK235.out 6).trans rfl
         have hcz54_7 : wc.cell? ⟨gb235, 7, none⟩ = some (.slice A0_7 l0_7.length c0_7) := (blk_cell BK235.out 7).trans rfl
         have hcz54_8 : wc.cell? ⟨gb235, 8, none⟩ = some (.slice A0_8 l0_8.length c0_8) := (blk_cell BK235.out 8).trans rfl
         have hcz54_9 : wc.cell? ⟨gb235, 9, none⟩ = some (.slice A0_9 l0_9.length c0_9) := (blk_cell BK235.out 9).trans rfl
         have hfz54_0 := blk_frozen BK235.out 0
         have hfz54_1 := blk_frozen BK235.out 1
         have hfz54_2 := blk_frozen BK235.out 2
         have hfz54_3 := blk_frozen BK235.out 3
         have hfz54_4 := blk_frozen BK235.out 4
         have hfz54_5 := blk_frozen BK235.out 5
         have hfz54_6 := blk_frozen BK235.out 6
         have hfz54_7 := blk_frozen BK235.out 7
         have hfz54_8 := blk_frozen BK235.out 8
         have hfz54_9 := blk_frozen BK235.out 9
         go_upto_region 10 with (fail)
         replace H := Option.bind_eq_some_iff.mp H
         obtain ⟨t247, A550, H⟩ := H
         replace H : (if t247 = true then ((impl_numbersIn.f kj22 l0_9 0 0 (l0_6.length : Int)).bind fun t248 => (some t248)) else (some false)) = some r := H
         have A55 := Aside0.mk A550
         clear A550
         by_cases c56 : t247 = true
         ·subst c56
          have H1 : ((impl_numbersIn.f kj22 l0_9 0 0 (l0_6.length : Int)).bind fun t248 => (some t248)) = some r := by rw [if_pos rfl] at H; exact H
          clear H
          have H := H1
          clear H1
          replace H := Option.bind_eq_some_iff.mp H
          obtain ⟨t248, A570, H⟩ := H
          replace H : (some t248) = some r := H
          have A57 := Aside0.mk A570
          clear A570
          obtain rfl := Option.some.inj H
          have hcz58_0 : wc.cell? ⟨gb235, 0, none⟩ = some (.int .i64 a0_0) := (blk_cell BK235.out 0).trans rfl
          have hcz58_1 : wc.cell? ⟨gb235, 1, none⟩ = some (.int .i64 a0_1) := (blk_cell BK235.out 1).trans rfl
          have hcz58_2 : wc.cell? ⟨gb235, 2, none⟩ = some (.int .i64 a0_2) := (blk_cell BK235.out 2).trans rfl
          have hcz58_3 : wc.cell? ⟨gb235, 3, none⟩ = some (.int .i64 a0_3) := (blk_cell BK235.out 3).trans rfl
          have hcz58_4 : wc.cell? ⟨gb235, 4, none⟩ = some (.int .i64 a0_4) := (blk_cell BK235.out 4).trans rfl
          have hcz58_5 : wc.cell? ⟨gb235, 5, none⟩ = some (.int .i64 a0_5) := (blk_cell BK235.out 5).trans rfl
          have hcz58_6 : wc.cell? ⟨gb235, 6, none⟩ = some (.slice A0_6 l0_6.length c0_6) := (blk_cell BK235.out 6).trans rfl
          have hcz58_7 : wc.cell? ⟨gb235, 7, none⟩ = some (.slice A0_7 l0_7.length c0_7) := (blk_cell BK235.out 7).trans rfl
          have hcz58_8 : wc.cell? ⟨gb235, 8, none⟩ = some (.slice A0_8 l0_8.length c0_8) := (blk_cell BK235.out 8).trans rfl
          have hcz58_9 : wc.cell? ⟨gb235, 9, none⟩ = some (.slice A0_9 l0_9.length c0_9) := (blk_cell BK235.out 9).trans rfl
          have hfz58_0 := blk_frozen BK235.out 0
          have hfz58_1 := blk_frozen BK235.out 1
          have hfz58_2 := blk_frozen BK235.out 2
          have hfz58_3 := blk_frozen BK235.out 3
          have hfz58_4 := blk_frozen BK235.out 4
          have hfz58_5 := blk_frozen BK235.out 5
          have hfz58_6 := blk_frozen BK235.out 6
          have hfz58_7 := blk_frozen BK235.out 7
          have hfz58_8 := blk_frozen BK235.out 8
          have hfz58_9 := blk_frozen BK235.out 9
          go_wp2_with (first | (go_at_call 31; (with_reducible refine (impl_numbersIn.calls kj22 _ _ l0_8 0 1 (wrap64 ((l0_6.length : Int) + 1)) true _ ?side1 ?side2 A55.out).mono ?_); (case side1 => repeat (first | exact (Kd.C_below HR0_8.out HB.out) | (with_reducible refine Kd.C_alloc ?_ _) | (with_reducible refine Kd.C_drewN ?_ _) | (with_reducible refine Kd.C_drew ?_))); (case side2 => exact HC0_8.out); rintro e w' ⟨rfl, ⟨nd, rfl⟩⟩) | (go_at_call 31; (with_reducible refine (impl_numbersIn.calls kj22 _ _ l0_9 0 0 (l0_6.length : Int) t248 _ ?side1 ?side2 A57.out).mono ?_); (case side1 => repeat (first | exact (Kd.C_below HR0_9.out (by repeat (first | (with_reducible first | exact HB.out | apply below_alloc | apply pw_below_drewN | apply below_drew1 | refine below_set ?_ GE235.out) | exact HB.out))) | (with_reducible refine Kd.C_alloc ?_ _) | (with_reducible refine Kd.C_drewN ?_ _) | (with_reducible refine Kd.C_drew ?_))); (case side2 => exact HC0_9.out); rintro e w' ⟨rfl, ⟨nd, rfl⟩⟩))
          go_ret
          exact ⟨by first | rfl | (simp [errW_none, errW_some] <;> rfl) | (simp [*, errW_none, errW_some] <;> rfl), by repeat (first | (with_reducible first | exact HB.out | apply below_alloc | apply pw_below_drewN | apply below_drew1 | refine below_set ?_ GE235.out) | exact HB.out)⟩
         ·replace c56 := Bool.eq_false_iff.mpr c56
          subst c56
          have H1 : (some false) = some r := by rw [if_neg (show ¬ (false = true) by decide)] at H; exact H
          clear H
          have H := H1
          clear H1
          obtain rfl := Option.some.inj H
          have hcz59_0 : wc.cell? ⟨gb235, 0, none⟩ = some (.int .i64 a0_0) := (blk_cell BK235.out 0).trans rfl
          have hcz59_1 : wc.cell? ⟨gb235, 1, none⟩ = some (.int .i64 a0_1) := (blk_cell BK235.out 1).trans rfl
          have hcz59_2 : wc.cell? ⟨gb235, 2, none⟩ = some (.int .i64 a0_2) := (blk_cell BK235.out 2).trans rfl
          have hcz59_3 : wc.cell? ⟨gb235, 3, none⟩ = some (.int .i64 a0_3) := (blk_cell BK235.out 3).trans rfl
          have hcz59_4 : wc.cell? ⟨gb235, 4, none⟩ = some (.int .i64 a0_4) := (blk_cell BK235.out 4).trans rfl
          have hcz59_5 : wc.cell? ⟨gb235, 5, none⟩ = some (.int .i64 a0_5) := (blk_cell BK235.out 5).trans rfl
          have hcz59_6 : wc.cell? ⟨gb235, 6, none⟩ = some (.slice A0_6 l0_6.length c0_6) := (blk_cell BK235.out 6).trans rfl
          have hcz59_7 : wc.cell? ⟨gb235, 7, none⟩ = some (.slice A0_7 l0_7.length c0_7) := (blk_cell BK235.out 7).trans rfl
          have hcz59_8 : wc.cell? ⟨gb235, 8, none⟩ = some (.slice A0_8 l0_8.length c0_8) := (blk_cell BK235.out 8).trans rfl
          have hcz59_9 : wc.cell? ⟨gb235, 9, none⟩ = some (.slice A0_9 l0_9.length c0_9) := (blk_cell BK235.out 9).trans rfl
          have hfz59_0 := blk_frozen BK235.out 0
          have hfz59_1 := blk_frozen BK235.out 1
          have hfz59_2 := blk_frozen BK235.out 2
          have hfz59_3 := blk_frozen BK235.out 3
          have hfz59_4 := blk_frozen BK235.out 4
          have hfz59_5 := blk_frozen BK235.out 5
          have hfz59_6 := blk_frozen BK235.out 6
          have hfz59_7 := blk_frozen BK235.out 7
          have hfz59_8 := blk_frozen BK235.out 8
          have hfz59_9 := blk_frozen BK235.out 9
          go_wp2_with (first | (go_at_call 31; (with_reducible refine (impl_numbersIn.calls kj22 _ _ l0_8 0 1 (wrap64 ((l0_6.length : Int) + 1)) false _ ?side1 ?side2 A55.out).mono ?_); (case side1 => repeat (first | exact (Kd.C_below HR0_8.out HB.out) | (with_reducible refine Kd.C_alloc ?_ _) | (with_reducible refine Kd.C_drewN ?_ _) | (with_reducible refine Kd.C_drew ?_))); (case side2 => exact HC0_8.out); rintro e w' ⟨rfl, ⟨nd, rfl⟩⟩))
          go_ret
          exact ⟨by first | rfl | (simp [errW_none, errW_some] <;> rfl) | (simp [*, errW_none, errW_some] <;> rfl), by repeat (first | (with_reducible first | exact HB.out | apply below_alloc | apply pw_below_drewN | apply below_drew1 | refine below_set ?_ GE235.out) | exact HB.out)⟩
        ·rw [if_neg c53] at H
         have c53b0 : (a0_2 == 1) = false := beq_eq_false_iff_ne.mpr c53
         have c53b1 : (a0_2 != 1) = true := bne_iff_ne.mpr c53
         (first | rw [c53b0] | (simp only [i64_w, i32_w]; rw [c53b0]) | skip)
         by_cases c60 : a0_4 ≥ 1
         ·rw [if_pos c60] at H
          have c60b0 : decide (1 ≤ a0_4) = true := decide_eq_true c60
          clear c60
          have hcz61_0 : wc.cell? ⟨gb235, 0, none⟩ = some (.int .i64 a0_0) := (blk_cell BK235.out 0).trans rfl
          have hcz61_1 : wc.cell? ⟨gb235, 1, none⟩ = some (.int .i64 a0_1) := (blk_cell BK235.out 1).trans rfl
          have hcz61_2 : wc.cell? ⟨gb235, 2, none⟩ = some (.int .i64 a0_2) := (blk_cell BK235.out 2).trans rfl
          have hcz61_3 : wc.cell? ⟨gb235, 3, none⟩ = some (.int .i64 a0_3) := (blk_cell BK235.out 3).trans rfl
          have hcz61_4 : wc.cell? ⟨gb235, 4, none⟩ = some (.int .i64 a0_4) := (blk_cell BK235.out 4).trans rfl
          have hcz61_5 : wc.cell? ⟨gb235, 5, none⟩ = some (.int .i64 a0_5) := (blk_cell BK235.out 5).trans rfl
          have hcz61_6 : wc.cell? ⟨gb235, 6, none⟩ = some (.slice A0_6 l0_6.length c0_6) := (blk_cell BK235.out 6).trans rfl
          have hcz61_7 : wc.cell? ⟨gb235, 7, none⟩ = some (.slice A0_7 l0_7.length c0_7) := (blk_cell BK235.out 7).trans rfl
          have hcz61_8 : wc.cell? ⟨gb235, 8, none⟩ = some (.slice A0_8 l0_8.length c0_8) := (blk_cell BK235.out 8).trans rfl
          have hcz61_9 : wc.cell? ⟨gb235, 9, none⟩ = some (.slice A0_9 l0_9.length c0_9) := (blk_cell BK235.out 9).trans rfl
          have hfz61_0 := blk_frozen BK235.out 0
          have hfz61_1 := blk_frozen BK235.out 1
          have hfz61_2 := blk_frozen BK235.out 2
          have hfz61_3 := blk_frozen BK235.out 3
          have hfz61_4 := blk_frozen BK235.out 4
          have hfz61_5 := blk_frozen BK235.out 5
          have hfz61_6 := blk_frozen BK235.out 6
          have hfz61_7 := blk_frozen BK235.out 7
          have hfz61_8 := blk_frozen BK235.out 8
          have hfz61_9 := blk_frozen BK235.out 9
          go_upto_region 10 with (fail)
          by_cases c62 : a0_5 = (wrap64 (a0_0 + 1))
          ·rw [if_pos c62] at H
           have c62b0 : (a0_5 == (wrap64 (a0_0 + 1))) = true := beq_iff_eq.mpr c62
           have c62b1 : (a0_5 != (wrap64 (a0_0 + 1))) = false := bne_eq_false_iff_eq.mpr c62
           clear c62
           (first | rw [c62b0] | (simp only [i64_w, i32_w]; rw [c62b0]) | skip)
           replace H := Option.bind_eq_some_iff.mp H
           obtain ⟨t249, A630, H⟩ := H
           replace H : (if t249 = true then ((impl_numbersIn.f kj22 l0_9 0 0 (l0_6.length : Int)).bind fun t250 => (some t250)) else (some false)) = some r := H
           have A63 := Aside0.mk A630
           clear A630
           by_cases c64 : t249 = true
           ·subst c64
            have H1 : ((impl_numbersIn.f kj22 l0_9 0 0 (l0_6.length : Int)).bind fun t250 => (some t250)) = some r := by rw [if_pos rfl] at H; exact H
            clear H
            have H := H1
            clear H1
            replace H := Option.bind_eq_some_iff.mp H
            obtain ⟨t250, A650, H⟩ := H
            replace H : (some t250) = some r := H
            have A65 := Aside0.mk A650
            clear A650
            obtain rfl := Option.some.inj H
            have hcz66_0 : wc.cell? ⟨gb235, 0, none⟩ = some (.int .i64 a0_0) := (blk_cell BK235.out 0).trans rfl
            have hcz66_1 : wc.cell? ⟨gb235, 1, none⟩ = some (.int .i64 a0_1) := (blk_cell BK235.out 1).trans rfl
            have hcz66_2 : wc.cell? ⟨gb235, 2, none⟩ = some (.int .i64 a0_2) := (blk_cell BK235.out 2).trans rfl
            have hcz66_3 : wc.cell? ⟨gb235, 3, none⟩ = some (.int .i64 a0_3) := (blk_cell BK235.out 3).trans rfl
            have hcz66_4 : wc.cell? ⟨gb235, 4, none⟩ = some (.int .i64 a0_4) := (blk_cell BK235.out 4).trans rfl
            have hcz66_5 : wc.cell? ⟨gb235, 5, none⟩ = some (.int .i64 a0_5) := (blk_cell BK235.out 5).trans rfl
            have hcz66_6 : wc.cell? ⟨gb235, 6, none⟩ = some (.slice A0_6 l0_6.length c0_6) := (blk_cell BK235.out 6).trans rfl
            have hcz66_7 : wc.cell? ⟨gb235, 7, none⟩ = some (.slice A0_7 l0_7.length c0_7) := (blk_cell BK235.out 7).trans rfl
            have hcz66_8 : wc.cell? ⟨gb235, 8, none⟩ = some (.slice A0_8 l0_8.length c0_8) := (blk_cell BK235.out 8).trans rfl
            have hcz66_9 : wc.cell? ⟨gb235, 9, none⟩ = some (.slice A0_9 l0_9.length c0_9) := (blk_cell BK235.out 9).trans rfl
            have hfz66_0 := blk_frozen BK235.out 0
            have hfz66_1 := blk_frozen BK235.out 1
            have hfz66_2 := blk_frozen BK235.out 2
            have hfz66_3 := blk_frozen BK235.out 3
            have hfz66_4 := blk_frozen BK235.out 4
            have hfz66_5 := blk_frozen BK235.out 5
            have hfz66_6 := blk_frozen BK235.out 6
            have hfz66_7 := blk_frozen BK235.out 7
            have hfz66_8 := blk_frozen BK235.out 8
            have hfz66_9 := blk_frozen BK235.out 9
            go_wp2_with (first | (go_at_call 31; (with_reducible refine (impl_numbersIn.calls kj22 _ _ l0_8 0 1 (wrap64 ((l0_6.length : Int) + 1)) true _ ?side1 ?side2 A63.out).mono ?_); (case side1 => repeat (first | exact (Kd.C_below HR0_8.out HB.out) | (with_reducible refine Kd.C_alloc ?_ _) | (with_reducible refine Kd.C_drewN ?_ _) | (with_reducible refine Kd.C_drew ?_))); (case side2 => exact HC0_8.out); rintro e w' ⟨rfl, ⟨nd, rfl⟩⟩) | (go_at_call 31; (with_reducible refine (impl_numbersIn.calls kj22 _ _ l0_9 0 0 (l0_6.length : Int) t250 _ ?side1 ?side2 A65.out).mono ?_); (case side1 => repeat (first | exact (Kd.C_below HR0_9.out (by repeat (first | (with_reducible first | exact HB.out | apply below_alloc | apply pw_below_drewN | apply below_drew1 | refine below_set ?_ GE235.out) | exact HB.out))) | (with_reducible refine Kd.C_alloc ?_ _) | (with_reducible refine Kd.C_drewN ?_ _) | (with_reducible refine Kd.C_drew ?_))); (case side2 => exact HC0_9.out); rintro e w' ⟨rfl, ⟨nd, rfl⟩⟩))
            go_ret
            exact ⟨by first | rfl | (simp [errW_none, errW_some] <;> rfl) | (simp [*, errW_none, errW_some] <;> rfl), by repeat (first | (with_reducible first | exact HB.out | apply below_alloc | apply pw_below_drewN | apply below_drew1 | refine below_set ?_ GE235.out) | exact HB.out)⟩
           ·replace c64 := Bool.eq_false_iff.mpr c64
            subst c64
            have H1 : (some false) = some r := by rw [if_neg (show ¬ (false = true) by decide)] at H; exact H
            clear H
            have H := H1
            clear H1
            obtain rfl := Option.some.inj H
            have hcz67_0 : wc.cell? ⟨gb235, 0, none⟩ = some (.int .i64 a0_0) := (blk_cell BK235.out 0).trans rfl
            have hcz67_1 : wc.cell? ⟨gb235, 1, none⟩ = some (.int .i64 a0_1) := (blk_cell BK235.out 1).trans rfl
            have hcz67_2 : wc.cell? ⟨gb235, 2, none⟩ = some (.int .i64 a0_2) := (blk_cell BK235.out 2).trans rfl
            have hcz67_3 : wc.cell? ⟨gb235, 3, none⟩ = some (.int .i64 a0_3) := (blk_cell BK235.out 3).trans rfl
            have hcz67_4 : wc.cell? ⟨gb235, 4, none⟩ = some (.int .i64 a0_4) := (blk_cell BK235.out 4).trans rfl
            have hcz67_5 : wc.cell? ⟨gb235, 5, none⟩ = some (.int .i64 a0_5) := (blk_cell BK235.out 5).trans rfl
            have hcz67_6 : wc.cell? ⟨gb235, 6, none⟩ = some (.slice A0_6 l0_6.length c0_6) := (blk_cell BK235.out 6).trans rfl
            have hcz67_7 : wc.cell? ⟨gb235, 7, none⟩ = some (.slice A0_7 l0_7.length c0_7) := (blk_cell BK235.out 7).trans rfl
            have hcz67_8 : wc.cell? ⟨gb235, 8, none⟩ = some (.slice A0_8 l0_8.length c0_8) := (blk_cell BK235.out 8).trans rfl
            have hcz67_9 : wc.cell? ⟨gb235, 9, none⟩ = some (.slice A0_9 l0_9.length c0_9) := (blk_cell BK235.out 9).trans rfl
            have hfz67_0 := blk_frozen BK235.out 0
            have hfz67_1 := blk_frozen BK235.out 1
            have hfz67_2 := blk_frozen BK235.out 2
            have hfz67_3 := blk_frozen BK235.out 3
            have hfz67_4 := blk_frozen BK235.out 4
            have hfz67_5 := blk_frozen BK235.out 5
            have hfz67_6 := blk_frozen BK235.out 6
            have hfz67_7 := blk_frozen BK235.out 7
            have hfz67_8 := blk_frozen BK235.out 8
            have hfz67_9 := blk_frozen BK235.out 9
            go_wp2_with (first | (go_at_call 31; (with_reducible refine (impl_numbersIn.calls kj22 _ _ l0_8 0 1 (wrap64 ((l0_6.length : Int) + 1)) false _ ?side1 ?side2 A63.out).mono ?_); (case side1 => repeat (first | exact (Kd.C_below HR0_8.out HB.out) | (with_reducible refine Kd.C_alloc ?_ _) | (with_reducible refine Kd.C_drewN ?_ _) | (with_reducible refine Kd.C_drew ?_))); (case side2 => exact HC0_8.out); rintro e w' ⟨rfl, ⟨nd, rfl⟩⟩))
            go_ret
            exact ⟨by first | rfl | (simp [errW_none, errW_some] <;> rfl) | (simp [*, errW_none, errW_some] <;> rfl), by repeat (first | (with_reducible first | exact HB.out | apply below_alloc | apply pw_below_drewN | apply below_drew1 | refine below_set ?_ GE235.out) | exact HB.out)⟩
          ·rw [if_neg c62] at H
           have c62b0 : (a0_5 == (wrap64 (a0_0 + 1))) = false := beq_eq_false_iff_ne.mpr c62
           have c62b1 : (a0_5 != (wrap64 (a0_0 + 1))) = true := bne_iff_ne.mpr c62
           (first | rw [c62b0] | (simp only [i64_w, i32_w]; rw [c62b0]) | skip)
           obtain rfl := Option.some.inj H
           go_wp2
           go_ret
           exact ⟨by first | rfl | (simp [errW_none, errW_some] <;> rfl) | (simp [*, errW_none, errW_some] <;> rfl), by repeat (first | (with_reducible first | exact HB.out | apply below_alloc | apply pw_below_drewN | apply below_drew1 | refine below_set ?_ GE235.out) | exact HB.out)⟩
         ·rw [if_neg c60] at H
          have c60b0 : decide (1 ≤ a0_4) = false := decide_eq_false c60
          clear c60
          have hcz68_0 : wc.cell? ⟨gb235, 0, none⟩ = some (.int .i64 a0_0) := (blk_cell BK235.out 0).trans rfl
          have hcz68_1 : wc.cell? ⟨gb235, 1, none⟩ = some (.int .i64 a0_1) := (blk_cell BK235.out 1).trans rfl
          have hcz68_2 : wc.cell? ⟨gb235, 2, none⟩ = some (.int .i64 a0_2) := (blk_cell BK235.out 2).trans rfl
          have hcz68_3 : wc.cell? ⟨gb235, 3, none⟩ = some (.int .i64 a0_3) := (blk_cell BK235.out 3).trans rfl
          have hcz68_4 : wc.cell? ⟨gb235, 4, none⟩ = some (.int .i64 a0_4) := (blk_cell BK235.out 4).trans rfl
          have hcz68_5 : wc.cell? ⟨gb235, 5, none⟩ = some (.int .i64 a0_5) := (blk_cell BK235.out 5).trans rfl
          have hcz68_6 : wc.cell? ⟨gb235, 6, none⟩ = some (.slice A0_6 l0_6.length c0_6) := (blk_cell BK235.out 6).trans rfl
          have hcz68_7 : wc.cell? ⟨gb235, 7, none⟩ = some (.slice A0_7 l0_7.length c0_7) := (blk_cell BK235.out 7).trans rfl
          have hcz68_8 : wc.cell? ⟨gb235, 8, none⟩ = some (.slice A0_8 l0_8.length c0_8) := (blk_cell BK235.out 8).trans rfl
          have hcz68_9 : wc.cell? ⟨gb235, 9, none⟩ = some (.slice A0_9 l0_9.length c0_9) := (blk_cell BK235.out 9).trans rfl
          have hfz68_0 := blk_frozen BK235.out 0
          have hfz68_1 := blk_frozen BK235.out 1
          have hfz68_2 := blk_frozen BK235.out 2
          have hfz68_3 := blk_frozen BK235.out 3
          have hfz68_4 := blk_frozen BK235.out 4
          have hfz68_5 := blk_frozen BK235.out 5
          have hfz68_6 := blk_frozen BK235.out 6
          have hfz68_7 := blk_frozen BK235.out 7
          have hfz68_8 := blk_frozen BK235.out 8
          have hfz68_9 := blk_frozen BK235.out 9
          go_upto_region 10 with (fail)
          obtain rfl := Option.some.inj H
          go_wp2
          go_ret
          exact ⟨by first | rfl | (simp [errW_none, errW_some] <;> rfl) | (simp [*, errW_none, errW_some] <;> rfl), by repeat (first | (with_reducible first | exact HB.out | apply below_alloc | apply pw_below_drewN | apply below_drew1 | refine below_set ?_ GE235.out) | exact HB.out)⟩

end Go.Proofs.Ytahhigniaepgeaa.QFnExactRaftNew
