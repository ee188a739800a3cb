-- Written by a program of this session (wip/opq/raftnew.py).
import Derived.Test.YtahhigniaepgeaaQFnExactRaftNewx14
namespace Go.Proofs.Ytahhigniaepgeaa.QFnExactRaftNew
open Go.RowKit Go.Proofs.YtahhigniaepgeaaW.PrintWords Go.Proofs.YtahhigniaepgeaaW.PrintLast Go.Proofs.YtahhigniaepgeaaW.PrintMore Go.Proofs.Ytahhigniaepgeaa.Pure
set_option linter.unusedVariables false
set_option linter.unusedSimpArgs false
attribute [local go_sem high] okB_ne nH_lt nR_lt nR_ne
/-! ### laws_FnExactRaftNew: function 4 -/
open Classical in
noncomputable def laws_FnExactRaftNew.f (k : Nat) (a0 a1 a2_0 a2_1 : Int) (l2_2 : List S70) : Option Bool := if l2_2.length ≤ 9223372036854775807 ∧ ∀ e ∈ l2_2, e.f1.f4.size ≤ 9223372036854775807 then some true else none
set_option maxHeartbeats 8000000 in
set_option maxRecDepth 100000 in
theorem law_o (id o : Int) (x : X24) (h1 : x.2.2.length ≤ 9223372036854775807) (hs : ∀ e ∈ x.2.2, e.f1.f4.size ≤ 9223372036854775807) (cs : Array Value) (w : World) (hx : M24 w x cs) :
    Calls Try.prog 4 #[.int .i64 id, .int .i64 o, .agg cs] w fun e w' => e = .returned (.bool true) ∧ Below w.heap.size w w' := by
  have X0 := Aside0.mk hx
  have Z0 := Aside0.mk hx.sz
  have H1 := Aside0.mk h1
  have HS := Aside0.mk hs
  clear hx h1 hs
  go_enter Try.func4, Try.ntmps4
  go_upto_if 22 with (first
    | ((with_reducible refine gate_dst (N := 5) rfl ?_); refine box_event ?hg (N := 5) ?hd (cs := cs) (t := 24) ?hr ?_; (case hd => rfl); (case hg => rfl); (case hr => first | (go_simp; done) | (go_simp; rfl)); intro b5 hg w1 hbox hb; have K5 := Aside0.mk hbox; have HB := Aside0.mk hb; clear hg hbox hb)
    | ((with_reducible refine gate_dst (N := 18) rfl ?_); refine wpList_load_row rfl 24 (.tmp 5) rfl b5 rfl 24 cs (0, 0) _ K5.out Try.underlying24 rfl Z0.out ?_; (try simp only [Act.put, List.setIfInBounds_toArray, List.set_cons_zero, List.set_cons_succ]))
    | ((with_reducible refine gate_dst (N := 20) rfl ?_); refine goesL_ (some 20) rfl rfl Try.func10 (by kernel_rfl) rfl #[.agg cs, .int .i64 1048576] rfl (by (try simp only [List.map_toArray, List.map_cons, List.map_nil]); first | done | rfl) ?_; refine (sz_t x H1.out HS.out cs _ (X0.out.below HB.out)).mono ?_; rintro e wq ⟨t, rfl, ht, hb⟩; refine ⟨_, rfl, ?_⟩; have HB_ := Aside0.mk (below_step HB.out hb); have K5_ := Aside0.mk (blk_below K5.out hb); clear HB K5; have HB := HB_; have K5 := K5_; clear HB_ K5_; have HT := Aside0.mk ht; clear ht; clear hb; (try simp only [Act.put, List.setIfInBounds_toArray, List.set_cons_zero, List.set_cons_succ])))
  by_cases q1 : t < 0
  · have qb : decide (t < 0) = true := decide_eq_true q1
    clear q1
    (first | rw [qb] | (simp only [i64_w, i32_w]; rw [qb]) | skip)
    go_wp2
    go_ret
    exact ⟨rfl, HB.out⟩
  have HL := Aside0.mk (HT.out q1)
  clear HT
  have qb : decide (t < 0) = false := decide_eq_false q1
  clear q1
  (first | rw [qb] | (simp only [i64_w, i32_w]; rw [qb]) | skip)
  have HY := Aside0.mk (show (toX x).2.2.length ≤ 1048576 by show (x.2.2.map cvE).length ≤ _; rw [List.length_map]; exact HL.out)
  go_upto_if 48 with (first
    | ((with_reducible refine gate_dst (N := 26) rfl ?_); refine wpList_load_row rfl 24 (.tmp 5) rfl b5 rfl 24 cs (0, 0) _ K5.out Try.underlying24 rfl Z0.out ?_; (try simp only [Act.put, List.setIfInBounds_toArray, List.set_cons_zero, List.set_cons_succ]))
    | ((with_reducible refine gate_dst (N := 27) rfl ?_); refine goesL_ (some 27) rfl rfl Try.func12 (by kernel_rfl) rfl #[.agg cs] rfl (by (try simp only [List.map_toArray, List.map_cons, List.map_nil]); first | done | rfl) ?_; refine (to_t x HL.out cs _ (X0.out.below HB.out)).mono ?_; rintro e wq ⟨dy, rfl, hm, hb⟩; refine ⟨_, rfl, ?_⟩; have HB_ := Aside0.mk (below_step HB.out hb); have K5_ := Aside0.mk (blk_below K5.out hb); clear HB K5; have HB := HB_; have K5 := K5_; clear HB_ K5_; have Y0 := Aside0.mk hm; clear hm; clear hb; (try simp only [Act.put, List.setIfInBounds_toArray, List.set_cons_zero, List.set_cons_succ]))
    | ((with_reducible refine gate_dst (N := 28) rfl ?_); refine goesL_ (some 28) rfl rfl Try.func11 (by kernel_rfl) rfl #[.int .i64 id, .int .i64 o, .agg dy] rfl (by (try simp only [List.map_toArray, List.map_cons, List.map_nil]); first | done | rfl) ?_; refine (sp_t id o (toX x) HY.out _ _ dy _ Y0.out).mono ?_; rintro e wq ⟨rs, rfl, hm, hb⟩; refine ⟨_, rfl, ?_⟩; have HB8 := HB.out.size; have HB_ := Aside0.mk (below_step HB.out hb); have K5_ := Aside0.mk (blk_below K5.out hb); clear HB K5; have HB := HB_; have K5 := K5_; clear HB_ K5_; have O8 := Aside0.mk (hm.mono (b' := w.heap.size) HB8 (ok' := fun _ => True) (fun _ _ _ _ => trivial)); clear hm Y0 HB8; clear hb; (try simp only [Act.put, List.setIfInBounds_toArray, List.set_cons_zero, List.set_cons_succ]))
    | ((with_reducible refine gate_dst (N := 8) rfl ?_); refine box_event ?hg (N := 8) ?hd (cs := #[.int .i64 0, .int .i64 0, .int .i64 0, .int .i64 0, .int .i64 0, .int .i64 0, .slice none 0 0, .slice none 0 0, .slice none 0 0, .slice none 0 0]) (t := 34) ?hr ?_; (case hd => rfl); (case hg => rfl); (case hr => first | (go_simp; done) | (go_simp; rfl)); intro b8 hg wq hbox hb; have P8 := Aside0.mk (And.intro hg (And.intro hbox hb)); clear hg hbox hb; (try simp only [Act.put, List.setIfInBounds_toArray, List.set_cons_zero, List.set_cons_succ]))
    | (refine wpList_store_row rfl 34 (.tmp 8) (.tmp 29) rfl b8 rs rfl rfl 34 _ P8.out.2.1 O8.out.sz O8.out.size.symm O8.out.one ?_; have sn := store_new (ds := rs) P8.out.1 P8.out.2.1 P8.out.2.2; have K8 := Aside0.mk sn.2; have L58 := Aside0.mk (show b5 < b8 by have := blk_lt K5.out; have := P8.out.1; omega); have O8_ := Aside0.mk (O8.out.mono (Nat.le_refl _) (ok' := fun k => k < b8) (fun k _ _ h => by have := P8.out.1; omega)); clear O8; have O8 := O8_; clear O8_; have HB_ := Aside0.mk (below_step HB.out sn.1); have K5_ := Aside0.mk (blk_below K5.out sn.1); have O8_ := Aside0.mk (O8.out.below sn.1); clear HB K5 O8; have HB := HB_; have K5 := K5_; have O8 := O8_; clear HB_ K5_ O8_; clear sn P8; generalize World.setRow _ b8 rs = wz at HB K5 O8 K8 ⊢; (try simp only [Act.put, List.setIfInBounds_toArray, List.set_cons_zero, List.set_cons_succ]))
    | ((with_reducible refine gate_dst (N := 31) rfl ?_); refine wpList_load_row rfl 24 (.tmp 5) rfl b5 rfl 24 cs (0, 0) _ K5.out Try.underlying24 rfl Z0.out ?_; (try simp only [Act.put, List.setIfInBounds_toArray, List.set_cons_zero, List.set_cons_succ]))
    | ((with_reducible refine gate_dst (N := 32) rfl ?_); refine goesL_ (some 32) rfl rfl Try.func12 (by kernel_rfl) rfl #[.agg cs] rfl (by (try simp only [List.map_toArray, List.map_cons, List.map_nil]); first | done | rfl) ?_; refine (to_t x HL.out cs _ (X0.out.below HB.out)).mono ?_; rintro e wq ⟨hs, rfl, hm, hb⟩; refine ⟨_, rfl, ?_⟩; have HB8 := HB.out.size; have HB9 := blk_lt K8.out; have HB_ := Aside0.mk (below_step HB.out hb); have K5_ := Aside0.mk (blk_below K5.out hb); have O8_ := Aside0.mk (O8.out.below hb); have K8_ := Aside0.mk (blk_below K8.out hb); clear HB K5 O8 K8; have HB := HB_; have K5 := K5_; have O8 := O8_; have K8 := K8_; clear HB_ K5_ O8_ K8_; have O10 := Aside0.mk (hm.mono (b' := w.heap.size) HB8 (ok' := fun k => b8 < k) (fun k _ h _ => by omega)); clear hm HB8 HB9; clear hb; (try simp only [Act.put, List.setIfInBounds_toArray, List.set_cons_zero, List.set_cons_succ]))
    | ((with_reducible refine gate_dst (N := 10) rfl ?_); refine box_event ?hg (N := 10) ?hd (cs := #[.int .i64 0, .int .i64 0, .slice none 0 0]) (t := 32) ?hr ?_; (case hd => rfl); (case hg => rfl); (case hr => first | (go_simp; done) | (go_simp; rfl)); intro b10 hg wq hbox hb; have P10 := Aside0.mk (And.intro hg (And.intro hbox hb)); clear hg hbox hb; (try simp only [Act.put, List.setIfInBounds_toArray, List.set_cons_zero, List.set_cons_succ]))
    | (refine wpList_store_row rfl 32 (.tmp 10) (.tmp 32) rfl b10 hs rfl rfl 32 _ P10.out.2.1 O10.out.sz O10.out.size.symm O10.out.one ?_; have sn := store_new (ds := hs) P10.out.1 P10.out.2.1 P10.out.2.2; have K10 := Aside0.mk sn.2; have L810 := Aside0.mk (show b8 < b10 by have := blk_lt K8.out; have := P10.out.1; omega); have O10_ := Aside0.mk (O10.out.mono (Nat.le_refl _) (ok' := fun k => b8 < k ∧ k < b10) (fun k h _ h2 => ⟨h, by have := P10.out.1; omega⟩)); clear O10; have O10 := O10_; clear O10_; have HB_ := Aside0.mk (below_step HB.out sn.1); have K5_ := Aside0.mk (blk_below K5.out sn.1); have O8_ := Aside0.mk (O8.out.below sn.1); have K8_ := Aside0.mk (blk_below K8.out sn.1); have O10_ := Aside0.mk (O10.out.below sn.1); clear HB K5 O8 K8 O10; have HB := HB_; have K5 := K5_; have O8 := O8_; have K8 := K8_; have O10 := O10_; clear HB_ K5_ O8_ K8_ O10_; clear sn P10; generalize World.setRow _ b10 hs = wz at HB K5 O8 K8 O10 K10 ⊢; (try simp only [Act.put, List.setIfInBounds_toArray, List.set_cons_zero, List.set_cons_succ]))
    | ((with_reducible refine gate_dst (N := 36) rfl ?_); refine wpList_load_row rfl 32 (.tmp 10) rfl b10 rfl 32 hs (0, 0) _ K10.out Try.underlying32 rfl O10.out.sz ?_; (try simp only [Act.put, List.setIfInBounds_toArray, List.set_cons_zero, List.set_cons_succ]))
    | ((with_reducible refine gate_dst (N := 37) rfl ?_); refine goesL_ (some 37) rfl rfl Try.func13 (by kernel_rfl) rfl #[.int .i64 id, .int .i64 o, .agg hs] rfl (by (try simp only [List.map_toArray, List.map_cons, List.map_nil]); first | done | rfl) ?_; refine (im_t id o (toX x) HY.out _ _ hs _ O10.out).mono ?_; rintro e wq ⟨gs, rfl, hm, hb⟩; refine ⟨_, rfl, ?_⟩; have HB8 := HB.out.size; have HB9 := blk_lt K10.out; have HB_ := Aside0.mk (below_step HB.out hb); have K5_ := Aside0.mk (blk_below K5.out hb); have O8_ := Aside0.mk (O8.out.below hb); have K8_ := Aside0.mk (blk_below K8.out hb); have O10_ := Aside0.mk (O10.out.below hb); have K10_ := Aside0.mk (blk_below K10.out hb); clear HB K5 O8 K8 O10 K10; have HB := HB_; have K5 := K5_; have O8 := O8_; have K8 := K8_; have O10 := O10_; have K10 := K10_; clear HB_ K5_ O8_ K8_ O10_ K10_; have O11 := Aside0.mk (hm.mono (b' := w.heap.size) HB8 (ok' := fun k => b10 < k) (fun k _ h _ => by omega)); clear hm HB8 HB9; clear hb; (try simp only [Act.put, List.setIfInBounds_toArray, List.set_cons_zero, List.set_cons_succ]))
    | ((with_reducible refine gate_dst (N := 11) rfl ?_); refine box_event ?hg (N := 11) ?hd (cs := #[.int .i64 0, .int .i64 0, .int .i64 0, .int .i64 0, .int .i64 0, .int .i64 0, .slice none 0 0, .slice none 0 0, .slice none 0 0, .slice none 0 0]) (t := 34) ?hr ?_; (case hd => rfl); (case hg => rfl); (case hr => first | (go_simp; done) | (go_simp; rfl)); intro b11 hg wq hbox hb; have P11 := Aside0.mk (And.intro hg (And.intro hbox hb)); clear hg hbox hb; (try simp only [Act.put, List.setIfInBounds_toArray, List.set_cons_zero, List.set_cons_succ]))
    | (refine wpList_store_row rfl 34 (.tmp 11) (.tmp 38) rfl b11 gs rfl rfl 34 _ P11.out.2.1 O11.out.sz O11.out.size.symm O11.out.one ?_; have sn := store_new (ds := gs) P11.out.1 P11.out.2.1 P11.out.2.2; have K11 := Aside0.mk sn.2; have L1011 := Aside0.mk (show b10 < b11 by have := blk_lt K10.out; have := P11.out.1; omega); have O11_ := Aside0.mk (O11.out.mono (Nat.le_refl _) (ok' := fun k => b10 < k ∧ k < b11) (fun k h _ h2 => ⟨h, by have := P11.out.1; omega⟩)); clear O11; have O11 := O11_; clear O11_; have HB_ := Aside0.mk (below_step HB.out sn.1); have K5_ := Aside0.mk (blk_below K5.out sn.1); have O8_ := Aside0.mk (O8.out.below sn.1); have K8_ := Aside0.mk (blk_below K8.out sn.1); have O10_ := Aside0.mk (O10.out.below sn.1); have K10_ := Aside0.mk (blk_below K10.out sn.1); have O11_ := Aside0.mk (O11.out.below sn.1); clear HB K5 O8 K8 O10 K10 O11; have HB := HB_; have K5 := K5_; have O8 := O8_; have K8 := K8_; have O10 := O10_; have K10 := K10_; have O11 := O11_; clear HB_ K5_ O8_ K8_ O10_ K10_ O11_; clear sn P11; generalize World.setRow _ b11 gs = wz at HB K5 O8 K8 O10 K10 O11 K11 ⊢; (try simp only [Act.put, List.setIfInBounds_toArray, List.set_cons_zero, List.set_cons_succ]))
    | ((with_reducible refine gate_dst (N := 40) rfl ?_); refine wpList_load_row rfl 34 (.tmp 11) rfl b11 rfl 34 gs (0, 0) _ K11.out Try.underlying34 rfl O11.out.sz ?_; (try simp only [Act.put, List.setIfInBounds_toArray, List.set_cons_zero, List.set_cons_succ]))
    | ((with_reducible refine gate_dst (N := 41) rfl ?_); refine wpList_load_row rfl 34 (.tmp 8) rfl b8 rfl 34 rs (0, 0) _ K8.out Try.underlying34 rfl O8.out.sz ?_; (try simp only [Act.put, List.setIfInBounds_toArray, List.set_cons_zero, List.set_cons_succ]))
    | ((with_reducible refine gate_dst (N := 42) rfl ?_); refine goesL_ (some 42) rfl rfl Try.func9 (by kernel_rfl) rfl #[.agg gs, .agg rs] rfl (by (try simp only [List.map_toArray, List.map_cons, List.map_nil]); first | done | rfl) ?_; refine (eqR_t id o (toX x) HY.out gs rs _ O11.out.M O8.out.M).mono ?_; rintro e wq ⟨rfl, hb⟩; refine ⟨_, rfl, ?_⟩; have HB_ := Aside0.mk (below_step HB.out hb); have K5_ := Aside0.mk (blk_below K5.out hb); have O8_ := Aside0.mk (O8.out.below hb); have K8_ := Aside0.mk (blk_below K8.out hb); have O10_ := Aside0.mk (O10.out.below hb); have K10_ := Aside0.mk (blk_below K10.out hb); have O11_ := Aside0.mk (O11.out.below hb); have K11_ := Aside0.mk (blk_below K11.out hb); clear HB K5 O8 K8 O10 K10 O11 K11; have HB := HB_; have K5 := K5_; have O8 := O8_; have K8 := K8_; have O10 := O10_; have K10 := K10_; have O11 := O11_; have K11 := K11_; clear HB_ K5_ O8_ K8_ O10_ K10_ O11_ K11_; clear hb; (try simp only [Act.put, List.setIfInBounds_toArray, List.set_cons_zero, List.set_cons_succ])))
  go_upto_region 10 with (fail)
  have HB_ := Aside0.mk (below_drew1 HB.out)
  have K5_ := Aside0.mk (blk_drew K5.out)
  have K8_ := Aside0.mk (blk_drew K8.out)
  have K10_ := Aside0.mk (blk_drew K10.out)
  have K11_ := Aside0.mk (blk_drew K11.out)
  have O8_ := Aside0.mk (O8.out.below (below_drew1 (Below.refl _ _)))
  have O10_ := Aside0.mk (O10.out.below (below_drew1 (Below.refl _ _)))
  have O11_ := Aside0.mk (O11.out.below (below_drew1 (Below.refl _ _)))
  clear HB K5 K8 K10 K11 O8 O10 O11
  have HB := HB_
  have K5 := K5_
  have K8 := K8_
  have K10 := K10_
  have K11 := K11_
  have O8 := O8_
  have O10 := O10_
  have O11 := O11_
  clear HB_ K5_ K8_ K10_ K11_ O8_ O10_ O11_
  refine start_ (n := 5) (S := (fun w' => w'.heap[b10]? = some (.cells hs 32 (0, 0)) ∧ w'.heap[b5]? = some (.cells cs 24 (0, 0)))) (ds := []) #[false, false, false, false, false] (by kernel_rfl) rfl rfl ⟨K10.out, K5.out⟩ ?_
  intro hS
  refine take_ (i := 0) (N := some 49) (v := .agg hs) #[true, false, false, false, false] rfl rfl (by kernel_rfl) (fun _ _ _ h => h) (Or.inl ⟨by rfl, fun w' hs_ => load_run 32 (.tmp 10) rfl b10 rfl 32 hs (0, 0) _ hs_.1 Try.underlying32 rfl O10.out.sz⟩) hS rfl ?_
  refine norm_ (a' := ?_) ?_ ?_
  rotate_left
  · show Act.put _ (some 49) _ = _
    simp only [Act.put, List.setIfInBounds_toArray, List.set_cons_zero, List.set_cons_succ, i64_w, i32_w]
    rfl
  refine take_ (i := 1) (N := some 50) (v := .agg cs) #[true, true, false, false, false] rfl rfl (by kernel_rfl) (fun _ _ _ h => h) (Or.inl ⟨by rfl, fun w' hs_ => load_run 24 (.tmp 5) rfl b5 rfl 24 cs (0, 0) _ hs_.2 Try.underlying24 rfl Z0.out⟩) hS rfl ?_
  refine norm_ (a' := ?_) ?_ ?_
  rotate_left
  · show Act.put _ (some 50) _ = _
    simp only [Act.put, List.setIfInBounds_toArray, List.set_cons_zero, List.set_cons_succ, i64_w, i32_w]
    rfl
  clear hS
  refine one_ (i := 2) (N := some 51) #[true, true, true, false, false] rfl rfl (by kernel_rfl) (by decide) (fun K hK => ?_)
  refine goes_ Try.func12 (by kernel_rfl) rfl #[.agg cs] (by first | rfl | (go_simp; done)) rfl rfl (by (try simp only [List.map_toArray, List.map_cons, List.map_nil]); first | done | rfl) ?_
  refine (to_t x HL.out cs _ (X0.out.below HB.out)).mono ?_
  rintro e wq ⟨du, rfl, hm, hb⟩
  refine ⟨_, rfl, ?_⟩
  have U := Aside0.mk hm
  clear hm
  have HB_ := Aside0.mk (below_step HB.out hb)
  have K5_ := Aside0.mk (blk_below K5.out hb)
  have O8_ := Aside0.mk (O8.out.below hb)
  have K8_ := Aside0.mk (blk_below K8.out hb)
  have O10_ := Aside0.mk (O10.out.below hb)
  have K10_ := Aside0.mk (blk_below K10.out hb)
  have O11_ := Aside0.mk (O11.out.below hb)
  have K11_ := Aside0.mk (blk_below K11.out hb)
  clear HB K5 O8 K8 O10 K10 O11 K11
  have HB := HB_
  have K5 := K5_
  have O8 := O8_
  have K8 := K8_
  have O10 := O10_
  have K10 := K10_
  have O11 := O11_
  have K11 := K11_
  clear HB_ K5_ O8_ K8_ O10_ K10_ O11_ K11_
  clear hb
  refine hK.out _ _ ⟨K10.out, K5.out⟩ (fun hS => ?_)
  clear hK K
  refine norm_ (a' := ?_) ?_ ?_
  rotate_left
  · show Act.put _ (some 51) _ = _
    simp only [Act.put, List.setIfInBounds_toArray, List.set_cons_zero, List.set_cons_succ, i64_w, i32_w]
    rfl
  clear hS
  refine one_ (i := 3) (N := some 52) #[true, true, true, true, false] rfl rfl (by kernel_rfl) (by decide) (fun K hK => ?_)
  refine goes_ Try.func14 (by kernel_rfl) rfl #[.agg hs, .agg du] (by first | rfl | (go_simp; done)) rfl rfl (by (try simp only [List.map_toArray, List.map_cons, List.map_nil]); first | done | rfl) ?_
  refine (eqH_t (toX x) HY.out _ _ _ _ hs du _ O10.out U.out).mono ?_
  rintro e wq ⟨rfl, hb⟩
  refine ⟨_, rfl, ?_⟩
  clear U
  have HB_ := Aside0.mk (below_step HB.out hb)
  have K5_ := Aside0.mk (blk_below K5.out hb)
  have O8_ := Aside0.mk (O8.out.below hb)
  have K8_ := Aside0.mk (blk_below K8.out hb)
  have O10_ := Aside0.mk (O10.out.below hb)
  have K10_ := Aside0.mk (blk_below K10.out hb)
  have O11_ := Aside0.mk (O11.out.below hb)
  have K11_ := Aside0.mk (blk_below K11.out hb)
  clear HB K5 O8 K8 O10 K10 O11 K11
  have HB := HB_
  have K5 := K5_
  have O8 := O8_
  have K8 := K8_
  have O10 := O10_
  have K10 := K10_
  have O11 := O11_
  have K11 := K11_
  clear HB_ K5_ O8_ K8_ O10_ K10_ O11_ K11_
  clear hb
  refine hK.out _ _ ⟨K10.out, K5.out⟩ (fun hS => ?_)
  clear hK K
  refine norm_ (a' := ?_) ?_ ?_
  rotate_left
  · show Act.put _ (some 52) _ = _
    simp only [Act.put, List.setIfInBounds_toArray, List.set_cons_zero, List.set_cons_succ, i64_w, i32_w]
    rfl
  clear hS
  refine pure_ (i := 4) (N := some 53) (v := .bool (!true)) #[true, true, true, true, true] rfl rfl (by kernel_rfl) (fun _ _ _ h => h) (Or.inl ⟨by rfl, fun w' => by go_simp⟩) rfl ?_
  refine norm_ (a' := ?_) ?_ ?_
  rotate_left
  · show Act.put _ (some 53) _ = _
    simp only [Act.put, List.setIfInBounds_toArray, List.set_cons_zero, List.set_cons_succ, i64_w, i32_w]
    rfl
  refine done_ (by kernel_rfl) ?_
  go_upto_if 69 with (first
    | ((with_reducible refine gate_dst (N := 54) rfl ?_); refine wpList_load_row rfl 32 (.tmp 10) rfl b10 rfl 32 hs (0, 0) _ K10.out Try.underlying32 rfl O10.out.sz ?_; (try simp only [Act.put, List.setIfInBounds_toArray, List.set_cons_zero, List.set_cons_succ]))
    | ((with_reducible refine gate_dst (N := 56) rfl ?_); refine goesL_ (some 56) rfl rfl Try.func15 (by kernel_rfl) rfl #[.agg hs, .int .i64 1] rfl (by (try simp only [List.map_toArray, List.map_cons, List.map_nil]); first | done | rfl) ?_; refine (mkH_t (toX x) HY.out _ hs w _ HB.out O10.out).mono ?_; rintro e wq ⟨rfl, hb, hk⟩; refine ⟨_, rfl, ?_⟩; have HB_ := Aside0.mk (hb); have K5_ := Aside0.mk (blk_kept K5.out hk (fun (h : b8 < b5 ∧ b5 < b10) => by have := L58.out; have := L810.out; have := L1011.out; omega)); have K8_ := Aside0.mk (blk_kept K8.out hk (fun (h : b8 < b8 ∧ b8 < b10) => by have := L58.out; have := L810.out; have := L1011.out; omega)); have K11_ := Aside0.mk (blk_kept K11.out hk (fun (h : b8 < b11 ∧ b11 < b10) => by have := L58.out; have := L810.out; have := L1011.out; omega)); have O8_ := Aside0.mk (O8.out.kept hk (fun k (h1 : k < b8) (h : b8 < k ∧ k < b10) => by have := L58.out; have := L810.out; have := L1011.out; omega)); have O11_ := Aside0.mk (O11.out.kept hk (fun k (h1 : b10 < k ∧ k < b11) (h : b8 < k ∧ k < b10) => by omega)); clear HB K5 K8 K11 O8 O11; have HB := HB_; have K5 := K5_; have K8 := K8_; have K11 := K11_; have O8 := O8_; have O11 := O11_; clear HB_ K5_ K8_ K11_ O8_ O11_; clear K10 O10; clear hk; clear hb; (try simp only [Act.put, List.setIfInBounds_toArray, List.set_cons_zero, List.set_cons_succ]))
    | ((with_reducible refine gate_dst (N := 60) rfl ?_); (try (refine gate_guard (by rfl) ?_; dsimp only)); refine wpList_load_row rfl 34 (.tmp 11) rfl b11 rfl 34 gs (0, 0) _ K11.out Try.underlying34 rfl O11.out.sz ?_; (try simp only [Act.put, List.setIfInBounds_toArray, List.set_cons_zero, List.set_cons_succ]))
    | ((with_reducible refine gate_dst (N := 61) rfl ?_); (try (refine gate_guard (by rfl) ?_; dsimp only)); refine wpList_load_row rfl 34 (.tmp 8) rfl b8 rfl 34 rs (0, 0) _ K8.out Try.underlying34 rfl O8.out.sz ?_; (try simp only [Act.put, List.setIfInBounds_toArray, List.set_cons_zero, List.set_cons_succ]))
    | ((with_reducible refine gate_dst (N := 62) rfl ?_); (try (refine gate_guard (by rfl) ?_; dsimp only)); refine goesL_ (some 62) rfl rfl Try.func9 (by kernel_rfl) rfl #[.agg gs, .agg rs] rfl (by (try simp only [List.map_toArray, List.map_cons, List.map_nil]); first | done | rfl) ?_; refine (eqR_t id o (toX x) HY.out gs rs _ O11.out.M O8.out.M).mono ?_; rintro e wq ⟨rfl, hb⟩; refine ⟨_, rfl, ?_⟩; have HB_ := Aside0.mk (below_step HB.out hb); have K5_ := Aside0.mk (blk_below K5.out hb); have K8_ := Aside0.mk (blk_below K8.out hb); have K11_ := Aside0.mk (blk_below K11.out hb); have O8_ := Aside0.mk (O8.out.below hb); have O11_ := Aside0.mk (O11.out.below hb); clear HB K5 K8 K11 O8 O11; have HB := HB_; have K5 := K5_; have K8 := K8_; have K11 := K11_; have O8 := O8_; have O11 := O11_; clear HB_ K5_ K8_ K11_ O8_ O11_; clear hb; (try simp only [Act.put, List.setIfInBounds_toArray, List.set_cons_zero, List.set_cons_succ])))
  go_upto_if 77 with (first
    | ((with_reducible refine gate_dst (N := 70) rfl ?_); refine wpList_load_row rfl 34 (.tmp 11) rfl b11 rfl 34 gs (0, 0) _ K11.out Try.underlying34 rfl O11.out.sz ?_; (try simp only [Act.put, List.setIfInBounds_toArray, List.set_cons_zero, List.set_cons_succ]))
    | ((with_reducible refine gate_dst (N := 72) rfl ?_); refine goesL_ (some 72) rfl rfl Try.func16 (by kernel_rfl) rfl #[.agg gs, .int .i64 1] rfl (by (try simp only [List.map_toArray, List.map_cons, List.map_nil]); first | done | rfl) ?_; refine (mkR_t id o (toX x) HY.out _ gs w _ HB.out O11.out).mono ?_; rintro e wq ⟨rfl, hm, hb, hk⟩; refine ⟨_, rfl, ?_⟩; have HB_ := Aside0.mk (hb); have K5_ := Aside0.mk (blk_kept K5.out hk (fun (h : b10 < b5 ∧ b5 < b11) => by have := L58.out; have := L810.out; have := L1011.out; omega)); have K8_ := Aside0.mk (blk_kept K8.out hk (fun (h : b10 < b8 ∧ b8 < b11) => by have := L58.out; have := L810.out; have := L1011.out; omega)); have K11_ := Aside0.mk (blk_kept K11.out hk (fun (h : b10 < b11 ∧ b11 < b11) => by have := L58.out; have := L810.out; have := L1011.out; omega)); have O8_ := Aside0.mk (O8.out.kept hk (fun k (h1 : k < b8) (h : b10 < k ∧ k < b11) => by have := L58.out; have := L810.out; have := L1011.out; omega)); clear HB K5 K8 K11 O8; have HB := HB_; have K5 := K5_; have K8 := K8_; have K11 := K11_; have O8 := O8_; clear HB_ K5_ K8_ K11_ O8_; clear O11; have G := Aside0.mk hm; clear hm hk; clear hb; (try simp only [Act.put, List.setIfInBounds_toArray, List.set_cons_zero, List.set_cons_succ]))
    | ((with_reducible refine gate_dst (N := 73) rfl ?_); refine wpList_load_row rfl 34 (.tmp 11) rfl b11 rfl 34 gs (0, 0) _ K11.out Try.underlying34 rfl G.out.sz ?_; (try simp only [Act.put, List.setIfInBounds_toArray, List.set_cons_zero, List.set_cons_succ]))
    | ((with_reducible refine gate_dst (N := 75) rfl ?_); refine goesL_ (some 75) rfl rfl Try.func17 (by kernel_rfl) rfl #[.agg gs, .int .i64 1] rfl (by (try simp only [List.map_toArray, List.map_cons, List.map_nil]); first | done | rfl) ?_; refine (hdR_t (nw id o (toX x)) (rNew_len id o (toX x).1 (toX x).2.1 (toX x).2.2 HY.out).1 gs _ G.out).mono ?_; rintro e wq ⟨rfl, hb⟩; refine ⟨_, rfl, ?_⟩; have HB_ := Aside0.mk (below_step HB.out hb); have K5_ := Aside0.mk (blk_below K5.out hb); have K8_ := Aside0.mk (blk_below K8.out hb); have K11_ := Aside0.mk (blk_below K11.out hb); have O8_ := Aside0.mk (O8.out.below hb); have G_ := Aside0.mk (G.out.below hb); clear HB K5 K8 K11 O8 G; have HB := HB_; have K5 := K5_; have K8 := K8_; have K11 := K11_; have O8 := O8_; have G := G_; clear HB_ K5_ K8_ K11_ O8_ G_; clear hb; (try simp only [Act.put, List.setIfInBounds_toArray, List.set_cons_zero, List.set_cons_succ])))
  go_upto_if 80 with (fail)
  go_upto_if 97 with (first
    | ((with_reducible refine gate_dst (N := 84) rfl ?_); refine wpList_load_row rfl 24 (.tmp 5) rfl b5 rfl 24 cs (0, 0) _ K5.out Try.underlying24 rfl Z0.out ?_; (try simp only [Act.put, List.setIfInBounds_toArray, List.set_cons_zero, List.set_cons_succ]))
    | ((with_reducible refine gate_dst (N := 85) rfl ?_); refine goesL_ (some 85) rfl rfl Try.func12 (by kernel_rfl) rfl #[.agg cs] rfl (by (try simp only [List.map_toArray, List.map_cons, List.map_nil]); first | done | rfl) ?_; refine (to_t x HL.out cs _ (X0.out.below HB.out)).mono ?_; rintro e wq ⟨h2, rfl, hm, hb⟩; refine ⟨_, rfl, ?_⟩; have HB_ := Aside0.mk (below_step HB.out hb); have K5_ := Aside0.mk (blk_below K5.out hb); have K8_ := Aside0.mk (blk_below K8.out hb); have K11_ := Aside0.mk (blk_below K11.out hb); have O8_ := Aside0.mk (O8.out.below hb); have G_ := Aside0.mk (G.out.below hb); clear HB K5 K8 K11 O8 G; have HB := HB_; have K5 := K5_; have K8 := K8_; have K11 := K11_; have O8 := O8_; have G := G_; clear HB_ K5_ K8_ K11_ O8_ G_; have Y1 := Aside0.mk hm; clear hm; clear hb; (try simp only [Act.put, List.setIfInBounds_toArray, List.set_cons_zero, List.set_cons_succ]))
    | ((with_reducible refine gate_dst (N := 86) rfl ?_); refine goesL_ (some 86) rfl rfl Try.func13 (by kernel_rfl) rfl #[.int .i64 id, .int .i64 o, .agg h2] rfl (by (try simp only [List.map_toArray, List.map_cons, List.map_nil]); first | done | rfl) ?_; refine (im_t id o (toX x) HY.out _ _ h2 _ Y1.out).mono ?_; rintro e wq ⟨g2, rfl, hm, hb⟩; refine ⟨_, rfl, ?_⟩; have HB_ := Aside0.mk (below_step HB.out hb); have K5_ := Aside0.mk (blk_below K5.out hb); have K8_ := Aside0.mk (blk_below K8.out hb); have K11_ := Aside0.mk (blk_below K11.out hb); have O8_ := Aside0.mk (O8.out.below hb); have G_ := Aside0.mk (G.out.below hb); clear HB K5 K8 K11 O8 G; have HB := HB_; have K5 := K5_; have K8 := K8_; have K11 := K11_; have O8 := O8_; have G := G_; clear HB_ K5_ K8_ K11_ O8_ G_; have O16 := Aside0.mk hm; clear hm Y1; clear hb; (try simp only [Act.put, List.setIfInBounds_toArray, List.set_cons_zero, List.set_cons_succ]))
    | ((with_reducible refine gate_dst (N := 16) rfl ?_); refine box_event ?hg (N := 16) ?hd (cs := #[.int .i64 0, .int .i64 0, .int .i64 0, .int .i64 0, .int .i64 0, .int .i64 0, .slice none 0 0, .slice none 0 0, .slice none 0 0, .slice none 0 0]) (t := 34) ?hr ?_; (case hd => rfl); (case hg => rfl); (case hr => first | (go_simp; done) | (go_simp; rfl)); intro b16 hg wq hbox hb; have P16 := Aside0.mk (And.intro hg (And.intro hbox hb)); clear hg hbox hb; (try simp only [Act.put, List.setIfInBounds_toArray, List.set_cons_zero, List.set_cons_succ]))
    | (refine wpList_store_row rfl 34 (.tmp 16) (.tmp 87) rfl b16 g2 rfl rfl 34 _ P16.out.2.1 O16.out.sz O16.out.size.symm O16.out.one ?_; have sn := store_new (ds := g2) P16.out.1 P16.out.2.1 P16.out.2.2; have K16 := Aside0.mk sn.2; have HB_ := Aside0.mk (below_step HB.out sn.1); have K5_ := Aside0.mk (blk_below K5.out sn.1); have K8_ := Aside0.mk (blk_below K8.out sn.1); have K11_ := Aside0.mk (blk_below K11.out sn.1); have O8_ := Aside0.mk (O8.out.below sn.1); have G_ := Aside0.mk (G.out.below sn.1); have O16_ := Aside0.mk (O16.out.below sn.1); clear HB K5 K8 K11 O8 G O16; have HB := HB_; have K5 := K5_; have K8 := K8_; have K11 := K11_; have O8 := O8_; have G := G_; have O16 := O16_; clear HB_ K5_ K8_ K11_ O8_ G_ O16_; clear sn P16; generalize World.setRow _ b16 g2 = wz at HB K5 K8 K11 O8 G O16 K16 ⊢; (try simp only [Act.put, List.setIfInBounds_toArray, List.set_cons_zero, List.set_cons_succ]))
    | ((with_reducible refine gate_dst (N := 89) rfl ?_); refine wpList_load_row rfl 34 (.tmp 16) rfl b16 rfl 34 g2 (0, 0) _ K16.out Try.underlying34 rfl O16.out.sz ?_; (try simp only [Act.put, List.setIfInBounds_toArray, List.set_cons_zero, List.set_cons_succ]))
    | ((with_reducible refine gate_dst (N := 90) rfl ?_); refine wpList_load_row rfl 34 (.tmp 8) rfl b8 rfl 34 rs (0, 0) _ K8.out Try.underlying34 rfl O8.out.sz ?_; (try simp only [Act.put, List.setIfInBounds_toArray, List.set_cons_zero, List.set_cons_succ]))
    | ((with_reducible refine gate_dst (N := 91) rfl ?_); refine goesL_ (some 91) rfl rfl Try.func9 (by kernel_rfl) rfl #[.agg g2, .agg rs] rfl (by (try simp only [List.map_toArray, List.map_cons, List.map_nil]); first | done | rfl) ?_; refine (eqR_t id o (toX x) HY.out g2 rs _ O16.out.M O8.out.M).mono ?_; rintro e wq ⟨rfl, hb⟩; refine ⟨_, rfl, ?_⟩; have HB_ := Aside0.mk (below_step HB.out hb); have K5_ := Aside0.mk (blk_below K5.out hb); have K8_ := Aside0.mk (blk_below K8.out hb); have K11_ := Aside0.mk (blk_below K11.out hb); have O8_ := Aside0.mk (O8.out.below hb); have G_ := Aside0.mk (G.out.below hb); have O16_ := Aside0.mk (O16.out.below hb); have K16_ := Aside0.mk (blk_below K16.out hb); clear HB K5 K8 K11 O8 G O16 K16; have HB := HB_; have K5 := K5_; have K8 := K8_; have K11 := K11_; have O8 := O8_; have G := G_; have O16 := O16_; have K16 := K16_; clear HB_ K5_ K8_ K11_ O8_ G_ O16_ K16_; clear hb; (try simp only [Act.put, List.setIfInBounds_toArray, List.set_cons_zero, List.set_cons_succ])))
  go_upto_if 102 with (first
    | ((with_reducible refine gate_dst (N := 98) rfl ?_); refine wpList_load_row rfl 34 (.tmp 11) rfl b11 rfl 34 gs (0, 0) _ K11.out Try.underlying34 rfl G.out.sz ?_; (try simp only [Act.put, List.setIfInBounds_toArray, List.set_cons_zero, List.set_cons_succ]))
    | ((with_reducible refine gate_dst (N := 100) rfl ?_); refine goesL_ (some 100) rfl rfl Try.func17 (by kernel_rfl) rfl #[.agg gs, .int .i64 1] rfl (by (try simp only [List.map_toArray, List.map_cons, List.map_nil]); first | done | rfl) ?_; refine (hdR_t (nw id o (toX x)) (rNew_len id o (toX x).1 (toX x).2.1 (toX x).2.2 HY.out).1 gs _ G.out).mono ?_; rintro e wq ⟨rfl, hb⟩; refine ⟨_, rfl, ?_⟩; have HB_ := Aside0.mk (below_step HB.out hb); have K5_ := Aside0.mk (blk_below K5.out hb); have K8_ := Aside0.mk (blk_below K8.out hb); have K11_ := Aside0.mk (blk_below K11.out hb); have O8_ := Aside0.mk (O8.out.below hb); have G_ := Aside0.mk (G.out.below hb); have O16_ := Aside0.mk (O16.out.below hb); have K16_ := Aside0.mk (blk_below K16.out hb); clear HB K5 K8 K11 O8 G O16 K16; have HB := HB_; have K5 := K5_; have K8 := K8_; have K11 := K11_; have O8 := O8_; have G := G_; have O16 := O16_; have K16 := K16_; clear HB_ K5_ K8_ K11_ O8_ G_ O16_ K16_; clear hb; (try simp only [Act.put, List.setIfInBounds_toArray, List.set_cons_zero, List.set_cons_succ])))
  go_wp2
  go_ret
  exact ⟨rfl, HB.out⟩
theorem laws_FnExactRaftNew.calls (k : Nat) (a0 a1 a2_0 a2_1 : Int) (A2_2 : Option Addr) (c2_2 : Nat) (l2_2 : List S70) (r : Bool) (w : World) (hr2_2 : Kd.C k70 w A2_2 l2_2.length l2_2) (hc2_2 : l2_2.length ≤ c2_2) (h : laws_FnExactRaftNew.f k a0 a1 a2_0 a2_1 l2_2 = some r) :
    Calls Try.prog 4 #[.int .i64 a0, .int .i64 a1, .agg #[.int .i64 a2_0, .int .i64 a2_1, .slice A2_2 l2_2.length c2_2]] w fun e w' => e = .returned (.bool r) ∧ Below w.heap.size w w' := by
  unfold laws_FnExactRaftNew.f at h
  by_cases hp : l2_2.length ≤ 9223372036854775807 ∧ ∀ e ∈ l2_2, e.f1.f4.size ≤ 9223372036854775807
  · rw [if_pos hp] at h
    obtain rfl := Option.some.inj h
    exact law_o a0 a1 (a2_0, a2_1, l2_2) hp.1 hp.2 _ w ⟨A2_2, c2_2, rfl, hc2_2, hr2_2⟩
  · rw [if_neg hp] at h
    cases h

end Go.Proofs.Ytahhigniaepgeaa.QFnExactRaftNew
