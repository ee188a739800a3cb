/- The contracts of the functions that FnExactOnYes reaches (each: what it answers, said over values), printed by a program of this session (wip/sy/g/gen.py). -/
import Derived.Test.YtlmadhahghiedaaGreatFFnExactOnYes1
set_option linter.unusedVariables false
set_option linter.unusedSimpArgs false
namespace Go.Proofs.YtlmadhahghiedaaGreat
open Go Go.Sy Go.Proofs
set_option maxRecDepth 100000 in
set_option maxHeartbeats 4000000 in
theorem spec_l7Put_spec  (list : List Int) (v : Int) (hl : list.length ≤ 1000) (hs : list.Pairwise (· < ·)) : FnSpec Tryz.prog 139 [.sl false 1 (list.map encI), .int .i64 v] [] (.ref 0) [.arr 3 1 ((putA v list).map encI)] := by
  refine FnSpec.of 49 Tryz.func139 rfl Tryz.ntmps139 (by simp) (AW.weakK ?_)
  refine AW.r ?_
  refine At.a 1 ?_
  refine At.done rfl ?_
  refine AW.r ?_
  refine At.lit0 (t := 27) (d := 8) (e := 3) (es := 1) (bytes := 8) 108 (by kernel_rfl) (by kernel_rfl) (by kernel_rfl) (by kernel_rfl) ?_
  refine At.a 1 ?_
  refine At.done rfl ?_
  refine AW.r ?_
  refine At.a 1 ?_
  refine At.done rfl ?_
  refine AW.seq ?_
  refine AW.r ?_
  refine At.a 1 ?_
  refine At.done rfl ?_
  refine AW.block ?_
  refine AW.loopW (fun (x : Nat × Bool × List Int) => match x with | (k, d, o) => Go.Sy.mk [.sl false 1 (list.map encI), .int .i64 v, .un, .un, .un, .ref 108, .bool d, .int .i64 (k : Int)] [(108, .arr 3 1 (o.map encI))]) (fun (x : Nat × Bool × List Int) => match x with | (k, d, o) => (k ≤ list.length ∧ o.length ≤ 2 * k) ∧ l7G v false list = o ++ l7G v d (list.drop k)) (fun (x : Nat × Bool × List Int) => match x with | (k, d, o) => list.length - k) (0, false, []) ⟨by simp, by rw [List.drop_zero]; rfl⟩ (Sub.o [(108, 108)] [true, true, false, false, false, true, true, true]) ?_
  rintro ⟨k, d, o⟩ ⟨hk, hR⟩
  refine AW.seq ?_
  refine AW.r ?_
  refine At.a 3 ?_
  refine At.sL 11 encI list ?_
  refine At.a 1 ?_
  refine At.done rfl ?_
  refine AW.cD ((k : Int) < (list.length : Int)) (fun h1 => ?_) (fun h1 => ?_)
  · skip
    refine AW.skip ?_
    refine AW.seq ?_
    refine AW.block ?_
    refine AW.seq ?_
    refine AW.r ?_
    refine At.a 3 ?_
    by_cases h2 : d = true
    · refine At.sB 17 (!d) false (sayNF (sayB h2)) ?_
      refine At.a 7 ?_
      refine At.done rfl ?_
      refine AW.cond false (by kernel_rfl) (fun h => by cases h) (fun _ => ?_)
      refine AW.skip ?_
      refine AW.r ?_
      refine At.a 2 ?_
      refine At.iSl 27 31 (.tmp 29) (.tmp 30) false 1 (list.map encI) .i64 (k : Int) 3 (by omega) (by simp only [List.length_map, List.length_append, List.length_take, List.length_drop, List.length_replicate, List.length_set, List.length_cons, List.length_nil]; omega) ?_
      refine Exists.elim (show ∃ e, list[k]? = some e from ⟨_, List.getElem?_eq_getElem (by omega)⟩) fun e1 he1 => ?_
      refine At.lVp 3 32 (.tmp 31) false 1 (list.map encI) k 0 false 1 (encI e1) (.int .i64 e1) (mapGet he1) ?_
      refine At.a 2 ?_
      refine At.done rfl ?_
      refine AW.cU e1 v (fun h3 => ?_) (fun h3 => ?_)
      · skip
        refine AW.region (At.start ?_)
        refine At.a 3 ?_
        refine At.iSl 27 38 (.tmp 36) (.tmp 37) false 1 (list.map encI) .i64 (k : Int) 3 (by omega) (by simp only [List.length_map, List.length_append, List.length_take, List.length_drop, List.length_replicate, List.length_set, List.length_cons, List.length_nil]; omega) ?_
        refine At.lVp 3 39 (.tmp 38) false 1 (list.map encI) k 0 false 1 (encI e1) (.int .i64 e1) (mapGet he1) ?_
        refine At.litK (t := 27) (d := 40) (e := 3) (es := 1) (bytes := 8) (n := 1) (parts := #[(0, .tmp 39)]) (45, 6) 140 [] [.int .i64 e1] [.int .i64 e1] [.int .i64 0] [.int .i64 e1] [] (by kernel_rfl) (by kernel_rfl) (by kernel_rfl) (by kernel_rfl) rfl (fun p hp => by cases hp) (by kernel_rfl) ?_
        refine At.append (t := 27) (d := 41) (e := 3) (es := 1) (bytes := 8) (s := .tmp 35) (x := .tmp 40) (S := .ref 108) (T := .ref 140) (xs := (o.map encI)) (ys := (([e1]).map encI)) 141 [108] [140] ((o ++ ([e1])).map encI) (by kernel_rfl) (by kernel_rfl) (by kernel_rfl) (by kernel_rfl) ⟨by kernel_rfl, rfl⟩ ⟨by kernel_rfl, .inr rfl⟩ (by kernel_rfl) (by kernel_rfl) (by simp) (by simp only [List.length_map, List.length_append, List.length_take, List.length_drop, List.length_replicate, List.length_set, List.length_cons, List.length_nil]; omega) (by simp only [List.length_map, List.length_append, List.length_take, List.length_drop, List.length_replicate, List.length_set, List.length_cons, List.length_nil]; omega) ?_
        refine At.a 1 ?_
        refine At.done rfl ?_
        refine AW.region (At.start ?_)
        refine At.a 2 ?_
        refine At.sI 14 ((k : Int) + 1) (by omega) ?_
        refine At.a 1 ?_
        refine At.done rfl ?_
        exact ⟨(k + 1, d, (o ++ ([e1]))), ⟨by simp only [List.length_append, List.length_cons, List.length_nil]; omega, by rw [hR, dropCons (by assumption), l7G]; simp [h1, h2, h3]⟩, (by simp only; omega), Sub.o [(141, 108)] [true, true, false, false, false, true, true, true]⟩
      · skip
        refine AW.skip ?_
        refine AW.region (At.start ?_)
        refine At.a 2 ?_
        refine At.sI 14 ((k : Int) + 1) (by omega) ?_
        refine At.a 1 ?_
        refine At.done rfl ?_
        exact ⟨(k + 1, d, o), ⟨by omega, by rw [hR, dropCons (by assumption), l7G]; simp [h1, h2, h3]⟩, (by simp only; omega), Sub.o [(108, 108)] [true, true, false, false, false, true, true, true]⟩
    · refine At.sB 17 (!d) true (sayNT (sayB (Bool.eq_false_iff.2 h2))) ?_
      replace h2 := Bool.eq_false_iff.2 h2
      refine At.a 2 ?_
      refine At.iSl 27 20 (.tmp 18) (.tmp 19) false 1 (list.map encI) .i64 (k : Int) 3 (by omega) (by simp only [List.length_map, List.length_append, List.length_take, List.length_drop, List.length_replicate, List.length_set, List.length_cons, List.length_nil]; omega) ?_
      refine Exists.elim (show ∃ e, list[k]? = some e from ⟨_, List.getElem?_eq_getElem (by omega)⟩) fun e2 he2 => ?_
      refine At.lVp 3 21 (.tmp 20) false 1 (list.map encI) k 0 false 1 (encI e2) (.int .i64 e2) (mapGet he2) ?_
      refine At.a 3 ?_
      refine At.done rfl ?_
      refine AW.cD (e2 ≥ v) (fun h4 => ?_) (fun h4 => ?_)
      · skip
        refine AW.r ?_
        refine At.a 2 ?_
        refine At.litK (t := 27) (d := 27) (e := 3) (es := 1) (bytes := 8) (n := 1) (parts := #[(0, .tmp 26)]) (45, 6) 127 [] [.int .i64 v] [.int .i64 v] [.int .i64 0] [.int .i64 v] [] (by kernel_rfl) (by kernel_rfl) (by kernel_rfl) (by kernel_rfl) rfl (fun p hp => by cases hp) (by kernel_rfl) ?_
        refine At.append (t := 27) (d := 28) (e := 3) (es := 1) (bytes := 8) (s := .tmp 25) (x := .tmp 27) (S := .ref 108) (T := .ref 127) (xs := (o.map encI)) (ys := (([v]).map encI)) 128 [108] [127] ((o ++ ([v])).map encI) (by kernel_rfl) (by kernel_rfl) (by kernel_rfl) (by kernel_rfl) ⟨by kernel_rfl, rfl⟩ ⟨by kernel_rfl, .inr rfl⟩ (by kernel_rfl) (by kernel_rfl) (by simp) (by simp only [List.length_map, List.length_append, List.length_take, List.length_drop, List.length_replicate, List.length_set, List.length_cons, List.length_nil]; omega) (by simp only [List.length_map, List.length_append, List.length_take, List.length_drop, List.length_replicate, List.length_set, List.length_cons, List.length_nil]; omega) ?_
        refine At.a 1 ?_
        refine At.done rfl ?_
        refine AW.region (At.start ?_)
        refine At.a 1 ?_
        refine At.done rfl ?_
        refine AW.r ?_
        refine At.a 2 ?_
        refine At.iSl 27 31 (.tmp 29) (.tmp 30) false 1 (list.map encI) .i64 (k : Int) 3 (by omega) (by simp only [List.length_map, List.length_append, List.length_take, List.length_drop, List.length_replicate, List.length_set, List.length_cons, List.length_nil]; omega) ?_
        refine At.lVp 3 32 (.tmp 31) false 1 (list.map encI) k 0 false 1 (encI e2) (.int .i64 e2) (mapGet he2) ?_
        refine At.a 2 ?_
        refine At.done rfl ?_
        refine AW.cU e2 v (fun h5 => ?_) (fun h5 => ?_)
        · skip
          refine AW.region (At.start ?_)
          refine At.a 3 ?_
          refine At.iSl 27 38 (.tmp 36) (.tmp 37) false 1 (list.map encI) .i64 (k : Int) 3 (by omega) (by simp only [List.length_map, List.length_append, List.length_take, List.length_drop, List.length_replicate, List.length_set, List.length_cons, List.length_nil]; omega) ?_
          refine At.lVp 3 39 (.tmp 38) false 1 (list.map encI) k 0 false 1 (encI e2) (.int .i64 e2) (mapGet he2) ?_
          refine At.litK (t := 27) (d := 40) (e := 3) (es := 1) (bytes := 8) (n := 1) (parts := #[(0, .tmp 39)]) (45, 6) 140 [] [.int .i64 e2] [.int .i64 e2] [.int .i64 0] [.int .i64 e2] [] (by kernel_rfl) (by kernel_rfl) (by kernel_rfl) (by kernel_rfl) rfl (fun p hp => by cases hp) (by kernel_rfl) ?_
          refine At.append (t := 27) (d := 41) (e := 3) (es := 1) (bytes := 8) (s := .tmp 35) (x := .tmp 40) (S := .ref 128) (T := .ref 140) (xs := ((o ++ ([v])).map encI)) (ys := (([e2]).map encI)) 141 [128] [140] (((o ++ ([v])) ++ ([e2])).map encI) (by kernel_rfl) (by kernel_rfl) (by kernel_rfl) (by kernel_rfl) ⟨by kernel_rfl, rfl⟩ ⟨by kernel_rfl, .inr rfl⟩ (by kernel_rfl) (by kernel_rfl) (by simp) (by simp only [List.length_map, List.length_append, List.length_take, List.length_drop, List.length_replicate, List.length_set, List.length_cons, List.length_nil]; omega) (by simp only [List.length_map, List.length_append, List.length_take, List.length_drop, List.length_replicate, List.length_set, List.length_cons, List.length_nil]; omega) ?_
          refine At.a 1 ?_
          refine At.done rfl ?_
          refine AW.region (At.start ?_)
          refine At.a 2 ?_
          refine At.sI 14 ((k : Int) + 1) (by omega) ?_
          refine At.a 1 ?_
          refine At.done rfl ?_
          exact ⟨(k + 1, true, ((o ++ ([v])) ++ ([e2]))), ⟨by simp only [List.length_append, List.length_cons, List.length_nil]; omega, by rw [hR, dropCons (by assumption), l7G]; simp [h1, h2, h4, h5]⟩, (by simp only; omega), Sub.o [(141, 108)] [true, true, false, false, false, true, true, true]⟩
        · skip
          refine AW.skip ?_
          refine AW.region (At.start ?_)
          refine At.a 2 ?_
          refine At.sI 14 ((k : Int) + 1) (by omega) ?_
          refine At.a 1 ?_
          refine At.done rfl ?_
          exact ⟨(k + 1, true, (o ++ ([v]))), ⟨by simp only [List.length_append, List.length_cons, List.length_nil]; omega, by rw [hR, dropCons (by assumption), l7G]; simp [h1, h2, h4, h5]⟩, (by simp only; omega), Sub.o [(128, 108)] [true, true, false, false, false, true, true, true]⟩
      · skip
        refine AW.skip ?_
        refine AW.r ?_
        refine At.a 2 ?_
        refine At.iSl 27 31 (.tmp 29) (.tmp 30) false 1 (list.map encI) .i64 (k : Int) 3 (by omega) (by simp only [List.length_map, List.length_append, List.length_take, List.length_drop, List.length_replicate, List.length_set, List.length_cons, List.length_nil]; omega) ?_
        refine At.lVp 3 32 (.tmp 31) false 1 (list.map encI) k 0 false 1 (encI e2) (.int .i64 e2) (mapGet he2) ?_
        refine At.a 2 ?_
        refine At.done rfl ?_
        refine AW.cU e2 v (fun h6 => ?_) (fun h6 => ?_)
        · skip
          refine AW.region (At.start ?_)
          refine At.a 3 ?_
          refine At.iSl 27 38 (.tmp 36) (.tmp 37) false 1 (list.map encI) .i64 (k : Int) 3 (by omega) (by simp only [List.length_map, List.length_append, List.length_take, List.length_drop, List.length_replicate, List.length_set, List.length_cons, List.length_nil]; omega) ?_
          refine At.lVp 3 39 (.tmp 38) false 1 (list.map encI) k 0 false 1 (encI e2) (.int .i64 e2) (mapGet he2) ?_
          refine At.litK (t := 27) (d := 40) (e := 3) (es := 1) (bytes := 8) (n := 1) (parts := #[(0, .tmp 39)]) (45, 6) 140 [] [.int .i64 e2] [.int .i64 e2] [.int .i64 0] [.int .i64 e2] [] (by kernel_rfl) (by kernel_rfl) (by kernel_rfl) (by kernel_rfl) rfl (fun p hp => by cases hp) (by kernel_rfl) ?_
          refine At.append (t := 27) (d := 41) (e := 3) (es := 1) (bytes := 8) (s := .tmp 35) (x := .tmp 40) (S := .ref 108) (T := .ref 140) (xs := (o.map encI)) (ys := (([e2]).map encI)) 141 [108] [140] ((o ++ ([e2])).map encI) (by kernel_rfl) (by kernel_rfl) (by kernel_rfl) (by kernel_rfl) ⟨by kernel_rfl, rfl⟩ ⟨by kernel_rfl, .inr rfl⟩ (by kernel_rfl) (by kernel_rfl) (by simp) (by simp only [List.length_map, List.length_append, List.length_take, List.length_drop, List.length_replicate, List.length_set, List.length_cons, List.length_nil]; omega) (by simp only [List.length_map, List.length_append, List.length_take, List.length_drop, List.length_replicate, List.length_set, List.length_cons, List.length_nil]; omega) ?_
          refine At.a 1 ?_
          refine At.done rfl ?_
          refine AW.region (At.start ?_)
          refine At.a 2 ?_
          refine At.sI 14 ((k : Int) + 1) (by omega) ?_
          refine At.a 1 ?_
          refine At.done rfl ?_
          exact ⟨(k + 1, d, (o ++ ([e2]))), ⟨by simp only [List.length_append, List.length_cons, List.length_nil]; omega, by rw [hR, dropCons (by assumption), l7G]; simp [h1, h2, h4, h6]⟩, (by simp only; omega), Sub.o [(141, 108)] [true, true, false, false, false, true, true, true]⟩
        · skip
          refine AW.skip ?_
          refine AW.region (At.start ?_)
          refine At.a 2 ?_
          refine At.sI 14 ((k : Int) + 1) (by omega) ?_
          refine At.a 1 ?_
          refine At.done rfl ?_
          exact ⟨(k + 1, d, o), ⟨by omega, by exfalso; omega⟩, (by simp only; omega), Sub.o [(108, 108)] [true, true, false, false, false, true, true, true]⟩
  · skip
    refine AW.exit ?_
    refine AW.seq ?_
    refine AW.r ?_
    refine At.a 2 ?_
    refine At.done rfl ?_
    refine AW.cNB (d) (fun h7 => ?_) (fun h7 => ?_)
    · skip
      refine AW.region (At.start ?_)
      refine At.a 2 ?_
      refine At.litK (t := 27) (d := 46) (e := 3) (es := 1) (bytes := 8) (n := 1) (parts := #[(0, .tmp 45)]) (45, 6) 146 [] [.int .i64 v] [.int .i64 v] [.int .i64 0] [.int .i64 v] [] (by kernel_rfl) (by kernel_rfl) (by kernel_rfl) (by kernel_rfl) rfl (fun p hp => by cases hp) (by kernel_rfl) ?_
      refine At.append (t := 27) (d := 47) (e := 3) (es := 1) (bytes := 8) (s := .tmp 44) (x := .tmp 46) (S := .ref 108) (T := .ref 146) (xs := (o.map encI)) (ys := (([v]).map encI)) 147 [108] [146] ((o ++ ([v])).map encI) (by kernel_rfl) (by kernel_rfl) (by kernel_rfl) (by kernel_rfl) ⟨by kernel_rfl, rfl⟩ ⟨by kernel_rfl, .inr rfl⟩ (by kernel_rfl) (by kernel_rfl) (by simp) (by simp only [List.length_map, List.length_append, List.length_take, List.length_drop, List.length_replicate, List.length_set, List.length_cons, List.length_nil]; omega) (by simp only [List.length_map, List.length_append, List.length_take, List.length_drop, List.length_replicate, List.length_set, List.length_cons, List.length_nil]; omega) ?_
      refine At.a 1 ?_
      refine At.done rfl ?_
      refine AW.r ?_
      refine At.a 2 ?_
      refine At.done rfl ?_
      refine AW.ret ?_
      refine ⟨_, Sub.refl _ _, ?_⟩
      refine KF.conv (fun w => .ref 0) (fun w => [.arr 3 1 (w.map encI)]) (show (o ++ ([v])) = (putA v list) from by rw [← l7G_put list hs, hR, List.drop_of_length_le (by omega), l7G]; simp [h1, h7]) ?_
      exact KF.m [(147, 0)] [.ref 147]
    · skip
      refine AW.skip ?_
      refine AW.r ?_
      refine At.a 2 ?_
      refine At.done rfl ?_
      refine AW.ret ?_
      refine ⟨_, Sub.refl _ _, ?_⟩
      refine KF.conv (fun w => .ref 0) (fun w => [.arr 3 1 (w.map encI)]) (show (o) = (putA v list) from by rw [← l7G_put list hs, hR, List.drop_of_length_le (by omega), l7G]; simp [h1, h7]) ?_
      exact KF.m [(108, 0)] [.ref 108]
set_option maxRecDepth 100000 in
set_option maxHeartbeats 4000000 in
theorem spec_l10Put_spec  (r : Raft) (e : Ent) (recs : List Rec) (hl : r.hard.log.length ≤ 1048576) (hr : recs.length ≤ 1048576) : FnSpec Tryz.prog 105 [.agg [.int .i64 r.id, .int .i64 r.of_, .int .i64 r.role, .int .i64 r.commit, .int .i64 r.hard.term, .int .i64 r.hard.vote, .ref 0, .ref 1, .ref 2, .ref 3], .agg [.int .i64 e.term, .int .i64 e.cmd.kind, .int .i64 e.cmd.release, .int .i64 e.cmd.node, .int .i64 e.cmd.size, .str e.cmd.digest], .ref 4] [.arr 45 6 (r.hard.log.map encEnt), .arr 3 1 (r.yes.map encI), .arr 3 1 (r.next.map encI), .arr 3 1 (r.match_.map encI), .arr 47 10 (recs.map encRec)] (.tup [.agg [.int .i64 r.id, .int .i64 r.of_, .int .i64 r.role, .int .i64 r.commit, .int .i64 r.hard.term, .int .i64 r.hard.vote, .ref 5, .ref 1, .ref 2, .ref 3], .ref 6]) [.arr 45 6 (r.hard.log.map encEnt), .arr 3 1 (r.yes.map encI), .arr 3 1 (r.next.map encI), .arr 3 1 (r.match_.map encI), .dead, .arr 45 6 ((r.hard.log ++ [e]).map encEnt), .arr 47 10 ((recs ++ [(⟨2, 0, 0, ((r.hard.log ++ [e]).length : Int), e⟩ : Rec)]).map encRec)] := by
  refine FnSpec.of 26 Tryz.func105 rfl Tryz.ntmps105 (by simp) (AW.weakK ?_)
  refine AW.r ?_
  refine At.a 4 ?_
  refine At.done rfl ?_
  refine AW.seq ?_
  refine AW.weak (Sub.nils [⟨true, 106, some 6, 5001, 45, 6⟩, ⟨true, 106, some 7, 5002, 3, 1⟩, ⟨true, 106, some 8, 5003, 3, 1⟩, ⟨true, 106, some 9, 5004, 3, 1⟩] (by kernel_rfl)) ?_
  refine AW.regionD Tryz_mix (At.start ?_)
  refine At.lit0 (t := 24) (d := 8) (e := 45) (es := 6) (bytes := 56) 108 (by kernel_rfl) (by kernel_rfl) (by kernel_rfl) (by kernel_rfl) ?_
  refine At.a 3 ?_
  refine At.append (t := 24) (d := 12) (e := 45) (es := 6) (bytes := 56) (s := .tmp 8) (x := .tmp 11) (S := .ref 108) (T := .ref 0) (xs := []) (ys := (r.hard.log.map encEnt)) 112 [108] [] (r.hard.log.map encEnt) (by kernel_rfl) (by kernel_rfl) (by kernel_rfl) (by kernel_rfl) ⟨by kernel_rfl, rfl⟩ ⟨by kernel_rfl, .inl ⟨rfl, (allP_encEnt _)⟩⟩ (by kernel_rfl) (by kernel_rfl) (by simp) (by simp only [List.length_map, List.length_append, List.length_take, List.length_drop, List.length_replicate, List.length_set, List.length_cons, List.length_nil]; omega) (by simp only [List.length_map, List.length_append, List.length_take, List.length_drop, List.length_replicate, List.length_set, List.length_cons, List.length_nil]; omega) ?_
  refine At.a 1 ?_
  refine At.litK (t := 24) (d := 14) (e := 45) (es := 6) (bytes := 56) (n := 1) (parts := #[(0, .tmp 13)]) (45, 6) 114 [] [.int .i64 e.term, .int .i64 e.cmd.kind, .int .i64 e.cmd.release, .int .i64 e.cmd.node, .int .i64 e.cmd.size, .str e.cmd.digest] [.int .i64 e.term, .int .i64 e.cmd.kind, .int .i64 e.cmd.release, .int .i64 e.cmd.node, .int .i64 e.cmd.size, .str e.cmd.digest] [.int .i64 0, .int .i64 0, .int .i64 0, .int .i64 0, .int .i64 0, .str (⟨#[]⟩ : ByteArray)] [.agg [.int .i64 e.term, .int .i64 e.cmd.kind, .int .i64 e.cmd.release, .int .i64 e.cmd.node, .int .i64 e.cmd.size, .str e.cmd.digest]] [] (by kernel_rfl) (by kernel_rfl) (by kernel_rfl) (by kernel_rfl) rfl (fun p hp => by cases hp) (by kernel_rfl) ?_
  refine At.append (t := 24) (d := 15) (e := 45) (es := 6) (bytes := 56) (s := .tmp 12) (x := .tmp 14) (S := .ref 112) (T := .ref 114) (xs := (r.hard.log.map encEnt)) (ys := (([e]).map encEnt)) 115 [112] [114] ((r.hard.log ++ ([e])).map encEnt) (by kernel_rfl) (by kernel_rfl) (by kernel_rfl) (by kernel_rfl) ⟨by kernel_rfl, rfl⟩ ⟨by kernel_rfl, .inr rfl⟩ (by kernel_rfl) (by kernel_rfl) (by simp) (by simp only [List.length_map, List.length_append, List.length_take, List.length_drop, List.length_replicate, List.length_set, List.length_cons, List.length_nil]; omega) (by simp only [List.length_map, List.length_append, List.length_take, List.length_drop, List.length_replicate, List.length_set, List.length_cons, List.length_nil]; omega) ?_
  refine At.a 3 ?_
  refine At.done rfl ⟨by kernel_rfl, ?_⟩
  refine AW.seq ?_
  refine AW.regionD Tryz_mix (At.start ?_)
  refine At.a 3 ?_
  refine At.c (spec_l10End_spec  (⟨r.id, r.of_, r.role, r.commit, ⟨r.hard.term, r.hard.vote, r.hard.log ++ ([e])⟩, r.yes, r.next, r.match_⟩ : Raft) ) Tryz.call65 false [] [] [(115, 6, ((r.hard.log ++ ([e])).map encEnt)), (1, 1, (r.yes.map encI)), (2, 1, (r.next.map encI)), (3, 1, (r.match_.map encI))] ⟨rfl, ⟨45, ((r.hard.log ++ ([e])).map encEnt), by kernel_rfl, FrzIs.same (allP_encEnt _)⟩, rfl, ⟨3, (r.yes.map encI), by kernel_rfl, FrzIs.same (allP_encI _)⟩, rfl, ⟨3, (r.next.map encI), by kernel_rfl, FrzIs.same (allP_encI _)⟩, rfl, ⟨3, (r.match_.map encI), by kernel_rfl, FrzIs.same (allP_encI _)⟩, trivial⟩ ?_
  refine At.a 2 ?_
  refine At.litK (t := 37) (d := 24) (e := 47) (es := 10) (bytes := 88) (n := 1) (parts := #[(0, .tmp 23)]) (45, 6) 124 [] [.int .i64 2, .int .i64 0, .int .i64 0, .int .i64 ((r.hard.log ++ ([e])).length : Int), .int .i64 e.term, .int .i64 e.cmd.kind, .int .i64 e.cmd.release, .int .i64 e.cmd.node, .int .i64 e.cmd.size, .str e.cmd.digest] [.int .i64 2, .int .i64 0, .int .i64 0, .int .i64 ((r.hard.log ++ ([e])).length : Int), .int .i64 e.term, .int .i64 e.cmd.kind, .int .i64 e.cmd.release, .int .i64 e.cmd.node, .int .i64 e.cmd.size, .str e.cmd.digest] [.int .i64 0, .int .i64 0, .int .i64 0, .int .i64 0, .int .i64 0, .int .i64 0, .int .i64 0, .int .i64 0, .int .i64 0, .str (⟨#[]⟩ : ByteArray)] [.agg [.int .i64 2, .int .i64 0, .int .i64 0, .int .i64 ((r.hard.log ++ ([e])).length : Int), .int .i64 e.term, .int .i64 e.cmd.kind, .int .i64 e.cmd.release, .int .i64 e.cmd.node, .int .i64 e.cmd.size, .str e.cmd.digest]] [] (by kernel_rfl) (by kernel_rfl) (by kernel_rfl) (by kernel_rfl) rfl (fun p hp => by cases hp) (by kernel_rfl) ?_
  refine At.append (t := 37) (d := 25) (e := 47) (es := 10) (bytes := 88) (s := .tmp 19) (x := .tmp 24) (S := .ref 4) (T := .ref 124) (xs := (recs.map encRec)) (ys := (([(⟨2, 0, 0, ((r.hard.log ++ ([e])).length : Int), e⟩ : Rec)]).map encRec)) 125 [4] [124] ((recs ++ ([(⟨2, 0, 0, ((r.hard.log ++ ([e])).length : Int), e⟩ : Rec)])).map encRec) (by kernel_rfl) (by kernel_rfl) (by kernel_rfl) (by kernel_rfl) ⟨by kernel_rfl, rfl⟩ ⟨by kernel_rfl, .inr rfl⟩ (by kernel_rfl) (by kernel_rfl) (by simp) (by simp only [List.length_map, List.length_append, List.length_take, List.length_drop, List.length_replicate, List.length_set, List.length_cons, List.length_nil]; omega) (by simp only [List.length_map, List.length_append, List.length_take, List.length_drop, List.length_replicate, List.length_set, List.length_cons, List.length_nil]; omega) ?_
  refine At.a 2 ?_
  refine At.done rfl ⟨by kernel_rfl, ?_⟩
  refine AW.ret ?_
  refine ⟨_, Sub.refl _ _, ?_⟩
  refine KF.conv (fun w => .tup [.agg [.int .i64 w.id, .int .i64 w.of_, .int .i64 w.role, .int .i64 w.commit, .int .i64 w.hard.term, .int .i64 w.hard.vote, .ref 5, .ref 1, .ref 2, .ref 3], .ref 6]) (fun w => [.arr 45 6 (r.hard.log.map encEnt), .arr 3 1 (r.yes.map encI), .arr 3 1 (r.next.map encI), .arr 3 1 (r.match_.map encI), .dead, .arr 45 6 (w.hard.log.map encEnt), .arr 47 10 ((recs ++ [(⟨2, 0, 0, ((r.hard.log ++ [e]).length : Int), e⟩ : Rec)]).map encRec)]) (show ((⟨r.id, r.of_, r.role, r.commit, ⟨r.hard.term, r.hard.vote, r.hard.log ++ ([e])⟩, r.yes, r.next, r.match_⟩ : Raft)) = (({ r with hard := { r.hard with log := r.hard.log ++ [e] } } : Raft)) from by rfl) ?_
  refine KF.conv (fun w => .tup [.agg [.int .i64 r.id, .int .i64 r.of_, .int .i64 r.role, .int .i64 r.commit, .int .i64 r.hard.term, .int .i64 r.hard.vote, .ref 5, .ref 1, .ref 2, .ref 3], .ref 6]) (fun w => [.arr 45 6 (r.hard.log.map encEnt), .arr 3 1 (r.yes.map encI), .arr 3 1 (r.next.map encI), .arr 3 1 (r.match_.map encI), .dead, .arr 45 6 ((r.hard.log ++ ([e])).map encEnt), .arr 47 10 (w.map encRec)]) (show (recs ++ ([(⟨2, 0, 0, ((r.hard.log ++ ([e])).length : Int), e⟩ : Rec)])) = (recs ++ [(⟨2, 0, 0, ((r.hard.log ++ [e]).length : Int), e⟩ : Rec)]) from by rfl) ?_
  exact KF.m [(0, 0), (1, 1), (2, 2), (3, 3), (4, 4), (115, 5), (125, 6)] [.agg [.int .i64 r.id, .int .i64 r.of_, .int .i64 r.role, .int .i64 r.commit, .int .i64 r.hard.term, .int .i64 r.hard.vote, .ref 115, .ref 1, .ref 2, .ref 3], .ref 125]
set_option maxRecDepth 100000 in
set_option maxHeartbeats 4000000 in
theorem spec_l10Term_spec  (h : Hard) (at_ : Int) (hl : h.log.length ≤ 1048576) : FnSpec Tryz.prog 115 [.agg [.int .i64 h.term, .int .i64 h.vote, .sl false 6 (h.log.map encEnt)], .int .i64 at_] [] (.int .i64 (termAt h.log at_)) [] := by
  refine FnSpec.of 21 Tryz.func115 rfl Tryz.ntmps115 (by simp) (AW.weakK ?_)
  refine AW.r ?_
  refine At.a 2 ?_
  refine At.done rfl ?_
  refine AW.seq ?_
  refine AW.r ?_
  refine At.a 3 ?_
  by_cases h1 : at_ < 1
  · refine At.sB 7 (decide (at_ < 1)) true (sayT h1) ?_
    refine At.a 6 ?_
    refine At.done rfl ?_
    refine AW.cond true (by kernel_rfl) (fun _ => ?_) (fun h => by cases h)
    refine AW.r ?_
    refine At.a 1 ?_
    refine At.done rfl ?_
    refine AW.ret ?_
    refine ⟨_, Sub.refl _ _, ?_⟩
    refine KF.conv (fun w => .int .i64 w) (fun w => []) (show (0) = (termAt h.log at_) from by unfold termAt; first | (rw [if_pos (by omega)]; done) | (rw [if_neg (by omega), he1]; rfl)) ?_
    exact KF.m [] [.int .i64 0]
  · refine At.sB 7 (decide (at_ < 1)) false (sayF h1) ?_
    refine At.a 4 ?_
    refine At.sL 11 encEnt h.log ?_
    refine At.a 2 ?_
    refine At.done rfl ?_
    refine AW.cD (at_ > (h.log.length : Int)) (fun h2 => ?_) (fun h2 => ?_)
    · skip
      refine AW.r ?_
      refine At.a 1 ?_
      refine At.done rfl ?_
      refine AW.ret ?_
      refine ⟨_, Sub.refl _ _, ?_⟩
      refine KF.conv (fun w => .int .i64 w) (fun w => []) (show (0) = (termAt h.log at_) from by unfold termAt; first | (rw [if_pos (by omega)]; done) | (rw [if_neg (by omega), he1]; rfl)) ?_
      exact KF.m [] [.int .i64 0]
    · skip
      refine AW.skip ?_
      refine AW.r ?_
      refine At.a 4 ?_
      refine At.sI 17 (at_ - 1) (by omega) ?_
      refine At.iSl 24 18 (.tmp 15) (.tmp 17) false 6 (h.log.map encEnt) .i64 (at_ - 1) 45 (by omega) (by simp only [List.length_map, List.length_append, List.length_take, List.length_drop, List.length_replicate, List.length_set, List.length_cons, List.length_nil]; omega) ?_
      refine At.a 1 ?_
      refine Exists.elim (show ∃ e, h.log[(at_ - 1).toNat]? = some e from ⟨_, List.getElem?_eq_getElem (by omega)⟩) fun e1 he1 => ?_
      refine At.lVp 3 20 (.tmp 19) false 6 (h.log.map encEnt) ((at_ - 1).toNat) 0 false 1 (encEnt e1) (.int .i64 e1.term) (mapGet he1) ?_
      refine At.a 1 ?_
      refine At.done rfl ?_
      refine AW.ret ?_
      refine ⟨_, Sub.refl _ _, ?_⟩
      refine KF.conv (fun w => .int .i64 w) (fun w => []) (show (e1.term) = (termAt h.log at_) from by unfold termAt; first | (rw [if_pos (by omega)]; done) | (rw [if_neg (by omega), he1]; rfl)) ?_
      exact KF.m [] [.int .i64 e1.term]
set_option maxRecDepth 100000 in
set_option maxHeartbeats 4000000 in
theorem spec_l1Min_spec  (a : Int) (b : Int) : FnSpec Tryz.prog 111 [.int .i64 a, .int .i64 b] [] (.int .i64 (min a b)) [] := by
  refine FnSpec.of 10 Tryz.func111 rfl Tryz.ntmps111 (by simp) (AW.weakK ?_)
  refine AW.r ?_
  refine At.a 1 ?_
  refine At.done rfl ?_
  refine AW.seq ?_
  refine AW.r ?_
  refine At.a 3 ?_
  refine At.done rfl ?_
  refine AW.cD (a < b) (fun h1 => ?_) (fun h1 => ?_)
  · skip
    refine AW.r ?_
    refine At.a 2 ?_
    refine At.done rfl ?_
    refine AW.ret ?_
    refine ⟨_, Sub.refl _ _, ?_⟩
    refine KF.conv (fun w => .int .i64 w) (fun w => []) (show (a) = (min a b) from by omega) ?_
    exact KF.m [] [.int .i64 a]
  · skip
    refine AW.skip ?_
    refine AW.r ?_
    refine At.a 2 ?_
    refine At.done rfl ?_
    refine AW.ret ?_
    refine ⟨_, Sub.refl _ _, ?_⟩
    refine KF.conv (fun w => .int .i64 w) (fun w => []) (show (b) = (min a b) from by omega) ?_
    exact KF.m [] [.int .i64 b]
set_option maxRecDepth 100000 in
set_option maxHeartbeats 4000000 in
theorem spec_l10Send_spec  (r : Raft) (i : Int) (hz : SmallR r) (hi : 0 ≤ i ∧ i < r.next.length) (hn : NextOk r) : FnSpec Tryz.prog 112 [.agg [.int .i64 r.id, .int .i64 r.of_, .int .i64 r.role, .int .i64 r.commit, .int .i64 r.hard.term, .int .i64 r.hard.vote, .sl false 6 (r.hard.log.map encEnt), .sl false 1 (r.yes.map encI), .sl false 1 (r.next.map encI), .sl false 1 (r.match_.map encI)], .int .i64 i] [] (.agg [.int .i64 ((sendOf r i).to), .int .i64 ((sendOf r i).msg.kind), .int .i64 ((sendOf r i).msg.from_), .int .i64 ((sendOf r i).msg.term), .int .i64 ((sendOf r i).msg.at_), .int .i64 ((sendOf r i).msg.atTerm), .int .i64 ((sendOf r i).msg.commit), .bool ((sendOf r i).msg.yes), .int .i64 ((sendOf r i).msg.release), .int .i64 ((sendOf r i).msg.part), .str ((sendOf r i).msg.bytes), .int .i64 ((sendOf r i).msg.cmd.kind), .int .i64 ((sendOf r i).msg.cmd.release), .int .i64 ((sendOf r i).msg.cmd.node), .int .i64 ((sendOf r i).msg.cmd.size), .str ((sendOf r i).msg.cmd.digest), .ref 0]) [.arr 45 6 (((sendOf r i).msg.entries).map encEnt)] := by
  obtain ⟨z1, z2, z3, z4⟩ := id hz
  refine FnSpec.of 42 Tryz.func112 rfl Tryz.ntmps112 (by simp) (AW.weakK ?_)
  refine AW.r ?_
  refine At.a 2 ?_
  refine At.done rfl ?_
  refine AW.seq ?_
  refine AW.weak (Sub.nils [⟨true, 104, some 16, 5001, 45, 6⟩] (by kernel_rfl)) ?_
  refine AW.region (At.start ?_)
  refine At.a 3 ?_
  refine At.iSl 27 10 (.tmp 8) (.tmp 9) false 1 (r.next.map encI) .i64 i 3 (by omega) (by simp only [List.length_map, List.length_append, List.length_take, List.length_drop, List.length_replicate, List.length_set, List.length_cons, List.length_nil]; omega) ?_
  refine Exists.elim (show ∃ e, r.next[(i).toNat]? = some e from ⟨_, List.getElem?_eq_getElem (by omega)⟩) fun e1 he1 => ?_
  have hxe1 := hn _ (List.mem_of_getElem? he1)
  refine At.lVp 3 11 (.tmp 10) false 1 (r.next.map encI) ((i).toNat) 0 false 1 (encI e1) (.int .i64 e1) (mapGet he1) ?_
  refine At.a 1 ?_
  refine At.sI 12 (e1 - 1) (by omega) ?_
  refine At.a 1 ?_
  refine At.done rfl ?_
  refine AW.seq ?_
  refine AW.regionD Tryz_mix (At.start ?_)
  refine At.a 9 ?_
  refine At.c (spec_l10Term_spec  r.hard (e1 - 1) (by omega)) Tryz.call115 true [] [] [] trivial ?_
  refine At.a 5 ?_
  refine At.done rfl ⟨by kernel_rfl, ?_⟩
  refine AW.seq ?_
  refine AW.weak (Sub.nils [⟨true, 106, some 15, 5002, 45, 6⟩] (by kernel_rfl)) ?_
  refine AW.regionD Tryz_mix (At.start ?_)
  refine At.lit0 (t := 24) (d := 26) (e := 45) (es := 6) (bytes := 56) 126 (by kernel_rfl) (by kernel_rfl) (by kernel_rfl) (by kernel_rfl) ?_
  refine At.a 6 ?_
  refine At.sJ 32 ((e1 - 1) + 6) (e1 + 5) (by omega) (by omega) ?_
  refine At.a 1 ?_
  refine At.c (spec_l10End_spec  r ) Tryz.call65 true [] [] [] trivial ?_
  refine At.c (spec_l1Min_spec  (e1 + 5) (r.hard.log.length : Int) ) Tryz.call111 true [] [] [] trivial ?_
  refine At.sliceSl (t := 24) (d := 36) (e := 45) (es := 6) (x := .tmp 29) (lx := some (.tmp 30)) (hx := some (.tmp 35)) (p := false) (xs := (r.hard.log.map encEnt)) (vl := .int .i64 (e1 - 1)) (vh := .int .i64 (min (e1 + 5) (r.hard.log.length : Int))) ((e1 - 1).toNat) ((min (e1 + 5) (r.hard.log.length : Int)).toNat) (((r.hard.log.drop ((e1 - 1).toNat)).take (((min (e1 + 5) (r.hard.log.length : Int)).toNat) - ((e1 - 1).toNat))).map encEnt) (by kernel_rfl) (by kernel_rfl) (by kernel_rfl) (by kernel_rfl) (.inr ⟨_, _, rfl, sayNat (by omega)⟩) (.inr ⟨_, _, rfl, sayNat (by omega)⟩) (by omega) (by simp only [List.length_map, List.length_append, List.length_take, List.length_drop, List.length_replicate, List.length_set, List.length_cons, List.length_nil]; omega) (by simp [List.map_take, List.map_drop]) ?_
  refine At.append (t := 24) (d := 37) (e := 45) (es := 6) (bytes := 56) (s := .tmp 26) (x := .tmp 36) (S := .ref 126) (T := .sl false 6 (((r.hard.log.drop ((e1 - 1).toNat)).take (((min (e1 + 5) (r.hard.log.length : Int)).toNat) - ((e1 - 1).toNat))).map encEnt)) (xs := []) (ys := (((r.hard.log.drop ((e1 - 1).toNat)).take (((min (e1 + 5) (r.hard.log.length : Int)).toNat) - ((e1 - 1).toNat))).map encEnt)) 137 [126] [] (((r.hard.log.drop ((e1 - 1).toNat)).take (((min (e1 + 5) (r.hard.log.length : Int)).toNat) - ((e1 - 1).toNat))).map encEnt) (by kernel_rfl) (by kernel_rfl) (by kernel_rfl) (by kernel_rfl) ⟨by kernel_rfl, rfl⟩ ⟨rfl, rfl, (allP_encEnt _), rfl⟩ (by kernel_rfl) (by kernel_rfl) (by simp) (by simp only [List.length_map, List.length_append, List.length_take, List.length_drop, List.length_replicate, List.length_set, List.length_cons, List.length_nil]; omega) (by simp only [List.length_map, List.length_append, List.length_take, List.length_drop, List.length_replicate, List.length_set, List.length_cons, List.length_nil]; omega) ?_
  refine At.a 2 ?_
  refine At.done rfl ⟨by kernel_rfl, ?_⟩
  refine AW.r ?_
  refine At.a 4 ?_
  refine At.done rfl ?_
  refine AW.ret ?_
  refine ⟨_, Sub.refl _ _, ?_⟩
  refine KF.conv (fun w => .agg [.int .i64 w.to, .int .i64 w.msg.kind, .int .i64 w.msg.from_, .int .i64 w.msg.term, .int .i64 w.msg.at_, .int .i64 w.msg.atTerm, .int .i64 w.msg.commit, .bool w.msg.yes, .int .i64 w.msg.release, .int .i64 w.msg.part, .str w.msg.bytes, .int .i64 w.msg.cmd.kind, .int .i64 w.msg.cmd.release, .int .i64 w.msg.cmd.node, .int .i64 w.msg.cmd.size, .str w.msg.cmd.digest, .ref 0]) (fun w => [.arr 45 6 (w.msg.entries.map encEnt)]) (show ((⟨i, ⟨3, r.id, r.hard.term, e1 - 1, termAt r.hard.log (e1 - 1), r.commit, false, 0, 0, (⟨#[]⟩ : ByteArray), ⟨0, 0, 0, 0, (⟨#[]⟩ : ByteArray)⟩, (r.hard.log.drop ((e1 - 1).toNat)).take (((min (e1 + 5) (r.hard.log.length : Int)).toNat) - ((e1 - 1).toNat))⟩⟩ : Out)) = (sendOf r i) from by simp only [sendOf, nextOf, he1, Option.getD_some]; rw [takeMin _ _ 6 _ (by omega)]; rfl) ?_
  exact KF.m [(137, 0)] [.agg [.int .i64 i, .int .i64 3, .int .i64 r.id, .int .i64 r.hard.term, .int .i64 (e1 - 1), .int .i64 (termAt r.hard.log (e1 - 1)), .int .i64 r.commit, .bool false, .int .i64 0, .int .i64 0, .str (⟨#[]⟩ : ByteArray), .int .i64 0, .int .i64 0, .int .i64 0, .int .i64 0, .str (⟨#[]⟩ : ByteArray), .ref 137]]
set_option maxRecDepth 100000 in
set_option maxHeartbeats 4000000 in
theorem spec_l10SendAll_spec  (r : Raft) (hz : SmallR r) (ho : 0 ≤ r.of_ ∧ r.of_ ≤ 5) (hx : r.of_ ≤ r.next.length) (hn : NextOk r) : FnSpec Tryz.prog 83 [.agg [.int .i64 r.id, .int .i64 r.of_, .int .i64 r.role, .int .i64 r.commit, .int .i64 r.hard.term, .int .i64 r.hard.vote, .sl false 6 (r.hard.log.map encEnt), .sl false 1 (r.yes.map encI), .sl false 1 (r.next.map encI), .sl false 1 (r.match_.map encI)]] [] (.ref 0) [.arr 51 17 ((sendAll r).map encOut)] := by
  obtain ⟨z1, z2, z3, z4⟩ := id hz
  refine FnSpec.of 23 Tryz.func83 rfl Tryz.ntmps83 (by simp) (AW.weakK ?_)
  refine AW.r ?_
  refine At.a 2 ?_
  refine At.done rfl ?_
  refine AW.r ?_
  refine At.lit0 (t := 38) (d := 5) (e := 51) (es := 17) (bytes := 168) 105 (by kernel_rfl) (by kernel_rfl) (by kernel_rfl) (by kernel_rfl) ?_
  refine At.a 1 ?_
  refine At.done rfl ?_
  refine AW.seq ?_
  refine AW.r ?_
  refine At.a 1 ?_
  refine At.done rfl ?_
  refine AW.block ?_
  refine AW.loopW (fun (x : Nat × List Out) => match x with | (k, o) => Go.Sy.mk [.un, .ptr 101 0 0, .un, .ref 105, .int .i64 (k : Int)] [(101, .box 29 [.int .i64 r.id, .int .i64 r.of_, .int .i64 r.role, .int .i64 r.commit, .int .i64 r.hard.term, .int .i64 r.hard.vote, .sl false 6 (r.hard.log.map encEnt), .sl false 1 (r.yes.map encI), .sl false 1 (r.next.map encI), .sl false 1 (r.match_.map encI)]), (105, .arr 51 17 (o.map encOut))]) (fun (x : Nat × List Out) => match x with | (k, o) => (k : Int) ≤ r.of_ ∧ o = sendUp r k) (fun (x : Nat × List Out) => match x with | (k, o) => r.of_.toNat - k) (0, []) ⟨by omega, by simp [sendUp]⟩ (Sub.o [(101, 101), (105, 105)] [false, true, false, true, true]) ?_
  rintro ⟨k, o⟩ ⟨hk, hR⟩
  have hlen := sendUp_len r k
  have hlen2 := congrArg List.length hR
  try rw [List.length_append] at hlen2
  refine AW.seq ?_
  refine AW.r ?_
  refine At.a 4 ?_
  refine At.done rfl ?_
  refine AW.cD ((k : Int) < r.of_) (fun h1 => ?_) (fun h1 => ?_)
  · skip
    refine AW.skip ?_
    refine AW.seq ?_
    refine AW.block ?_
    refine AW.r ?_
    refine At.a 4 ?_
    refine At.done rfl ?_
    refine AW.cU (k : Int) r.id (fun h2 => ?_) (fun h2 => ?_)
    · skip
      refine AW.region (At.start ?_)
      refine At.a 3 ?_
      refine At.c (spec_l10Send_spec  r (k : Int) hz (by omega) hn) Tryz.call112 true [] [(1380, 0)] [] trivial ?_
      refine At.litK (t := 38) (d := 20) (e := 51) (es := 17) (bytes := 168) (n := 1) (parts := #[(0, .tmp 19)]) (45, 6) 120 [1380] [.int .i64 ((sendOf r (k : Int)).to), .int .i64 ((sendOf r (k : Int)).msg.kind), .int .i64 ((sendOf r (k : Int)).msg.from_), .int .i64 ((sendOf r (k : Int)).msg.term), .int .i64 ((sendOf r (k : Int)).msg.at_), .int .i64 ((sendOf r (k : Int)).msg.atTerm), .int .i64 ((sendOf r (k : Int)).msg.commit), .bool ((sendOf r (k : Int)).msg.yes), .int .i64 ((sendOf r (k : Int)).msg.release), .int .i64 ((sendOf r (k : Int)).msg.part), .str ((sendOf r (k : Int)).msg.bytes), .int .i64 ((sendOf r (k : Int)).msg.cmd.kind), .int .i64 ((sendOf r (k : Int)).msg.cmd.release), .int .i64 ((sendOf r (k : Int)).msg.cmd.node), .int .i64 ((sendOf r (k : Int)).msg.cmd.size), .str ((sendOf r (k : Int)).msg.cmd.digest), .ref 1380] [.int .i64 ((sendOf r (k : Int)).to), .int .i64 ((sendOf r (k : Int)).msg.kind), .int .i64 ((sendOf r (k : Int)).msg.from_), .int .i64 ((sendOf r (k : Int)).msg.term), .int .i64 ((sendOf r (k : Int)).msg.at_), .int .i64 ((sendOf r (k : Int)).msg.atTerm), .int .i64 ((sendOf r (k : Int)).msg.commit), .bool ((sendOf r (k : Int)).msg.yes), .int .i64 ((sendOf r (k : Int)).msg.release), .int .i64 ((sendOf r (k : Int)).msg.part), .str ((sendOf r (k : Int)).msg.bytes), .int .i64 ((sendOf r (k : Int)).msg.cmd.kind), .int .i64 ((sendOf r (k : Int)).msg.cmd.release), .int .i64 ((sendOf r (k : Int)).msg.cmd.node), .int .i64 ((sendOf r (k : Int)).msg.cmd.size), .str ((sendOf r (k : Int)).msg.cmd.digest), .own 45 6 (((sendOf r (k : Int)).msg.entries).map encEnt)] [.int .i64 0, .int .i64 0, .int .i64 0, .int .i64 0, .int .i64 0, .int .i64 0, .int .i64 0, .bool false, .int .i64 0, .int .i64 0, .str (⟨#[]⟩ : ByteArray), .int .i64 0, .int .i64 0, .int .i64 0, .int .i64 0, .str (⟨#[]⟩ : ByteArray), .nil] [.agg [.int .i64 ((sendOf r (k : Int)).to), .int .i64 ((sendOf r (k : Int)).msg.kind), .int .i64 ((sendOf r (k : Int)).msg.from_), .int .i64 ((sendOf r (k : Int)).msg.term), .int .i64 ((sendOf r (k : Int)).msg.at_), .int .i64 ((sendOf r (k : Int)).msg.atTerm), .int .i64 ((sendOf r (k : Int)).msg.commit), .bool ((sendOf r (k : Int)).msg.yes), .int .i64 ((sendOf r (k : Int)).msg.release), .int .i64 ((sendOf r (k : Int)).msg.part), .str ((sendOf r (k : Int)).msg.bytes), .int .i64 ((sendOf r (k : Int)).msg.cmd.kind), .int .i64 ((sendOf r (k : Int)).msg.cmd.release), .int .i64 ((sendOf r (k : Int)).msg.cmd.node), .int .i64 ((sendOf r (k : Int)).msg.cmd.size), .str ((sendOf r (k : Int)).msg.cmd.digest), .own 45 6 (((sendOf r (k : Int)).msg.entries).map encEnt)]] [(45, 6, (((sendOf r (k : Int)).msg.entries).map encEnt))] (by kernel_rfl) (by kernel_rfl) (by kernel_rfl) (by kernel_rfl) (by kernel_rfl) (by intro p hp; simp only [List.mem_cons, List.not_mem_nil, or_false] at hp; subst hp; all_goals first | exact flatEnts | (intro x hx; cases hx)) (by kernel_rfl) ?_
      refine At.append (t := 38) (d := 21) (e := 51) (es := 17) (bytes := 168) (s := .tmp 16) (x := .tmp 20) (S := .ref 105) (T := .ref 120) (xs := (o.map encOut)) (ys := (([(sendOf r (k : Int))]).map encOut)) 121 [105] [120] ((o ++ ([(sendOf r (k : Int))])).map encOut) (by kernel_rfl) (by kernel_rfl) (by kernel_rfl) (by kernel_rfl) ⟨by kernel_rfl, rfl⟩ ⟨by kernel_rfl, .inr rfl⟩ (by kernel_rfl) (by kernel_rfl) (by simp) (by simp only [List.length_map, List.length_append, List.length_take, List.length_drop, List.length_replicate, List.length_set, List.length_cons, List.length_nil]; omega) (by simp only [List.length_map, List.length_append, List.length_take, List.length_drop, List.length_replicate, List.length_set, List.length_cons, List.length_nil]; omega) ?_
      refine At.a 1 ?_
      refine At.done rfl ?_
      refine AW.region (At.start ?_)
      refine At.a 2 ?_
      refine At.sI 11 ((k : Int) + 1) (by omega) ?_
      refine At.a 1 ?_
      refine At.done rfl ?_
      exact ⟨(k + 1, (o ++ ([(sendOf r (k : Int))]))), ⟨by omega, by rw [hR, sendUp, if_neg (by grind)]⟩, (by simp only; omega), Sub.o [(101, 101), (121, 105)] [false, true, false, true, true]⟩
    · skip
      refine AW.skip ?_
      refine AW.region (At.start ?_)
      refine At.a 2 ?_
      refine At.sI 11 ((k : Int) + 1) (by omega) ?_
      refine At.a 1 ?_
      refine At.done rfl ?_
      exact ⟨(k + 1, o), ⟨by omega, by rw [hR, sendUp, if_pos (by grind)]; simp⟩, (by simp only; omega), Sub.o [(101, 101), (105, 105)] [false, true, false, true, true]⟩
  · skip
    refine AW.exit ?_
    refine AW.r ?_
    refine At.a 2 ?_
    refine At.done rfl ?_
    refine AW.ret ?_
    refine ⟨_, Sub.refl _ _, ?_⟩
    refine KF.conv (fun w => .ref 0) (fun w => [.arr 51 17 (w.map encOut)]) (show (o) = (sendAll r) from by rw [hR, sendAll, show r.of_.toNat = k from by omega]) ?_
    exact KF.m [(105, 0)] [.ref 105]
set_option maxRecDepth 100000 in
set_option maxHeartbeats 4000000 in
theorem spec_l10Lead_T_spec  (r : Raft) (recs : List Rec) (hz : SmallR r) (ho : 0 ≤ r.of_ ∧ r.of_ ≤ 5) (hi : 0 ≤ r.id ∧ r.id < r.of_) (hr : recs.length ≤ 1000) (hlt : r.hard.log.length < 80) : FnSpec Tryz.prog 99 [.agg [.int .i64 r.id, .int .i64 r.of_, .int .i64 r.role, .int .i64 r.commit, .int .i64 r.hard.term, .int .i64 r.hard.vote, .ref 0, .ref 1, .ref 2, .ref 3], .ref 4] [.arr 45 6 (r.hard.log.map encEnt), .arr 3 1 (r.yes.map encI), .arr 3 1 (r.next.map encI), .arr 3 1 (r.match_.map encI), .arr 47 10 (recs.map encRec)] (.tup [.agg [.int .i64 ((leadR r).id), .int .i64 ((leadR r).of_), .int .i64 ((leadR r).role), .int .i64 ((leadR r).commit), .int .i64 ((leadR r).hard.term), .int .i64 ((leadR r).hard.vote), .ref 5, .ref 6, .ref 7, .ref 8], .ref 9, .ref 10]) [.arr 45 6 (r.hard.log.map encEnt), .arr 3 1 (r.yes.map encI), .arr 3 1 (r.next.map encI), .arr 3 1 (r.match_.map encI), .dead, .arr 45 6 (((leadR r).hard.log).map encEnt), .arr 3 1 (((leadR r).yes).map encI), .arr 3 1 (((leadR r).next).map encI), .arr 3 1 (((leadR r).match_).map encI), .arr 47 10 ((recs ++ leadRecs r).map encRec), .arr 51 17 ((sendAll (leadR r)).map encOut)] := by
  obtain ⟨z1, z2, z3, z4⟩ := id hz
  refine FnSpec.of 64 Tryz.func99 rfl Tryz.ntmps99 (by simp) (AW.weakK ?_)
  refine AW.r ?_
  refine At.a 4 ?_
  refine At.done rfl ?_
  refine AW.seq ?_
  refine AW.weak (Sub.nils [⟨true, 104, some 6, 5001, 45, 6⟩, ⟨true, 104, some 7, 5002, 3, 1⟩, ⟨true, 104, some 8, 5003, 3, 1⟩, ⟨true, 104, some 9, 5004, 3, 1⟩] (by kernel_rfl)) ?_
  refine AW.region (At.start ?_)
  refine At.a 2 ?_
  refine At.done rfl ?_
  refine AW.r ?_
  refine At.a 2 ?_
  refine At.done rfl ?_
  refine AW.seq ?_
  refine AW.weak (Sub.nils [⟨true, 102, some 7, 5005, 3, 1⟩] (by kernel_rfl)) ?_
  refine AW.region (At.start ?_)
  refine At.lit0 (t := 27) (d := 10) (e := 3) (es := 1) (bytes := 8) 110 (by kernel_rfl) (by kernel_rfl) (by kernel_rfl) (by kernel_rfl) ?_
  refine At.a 2 ?_
  refine At.done rfl ?_
  refine AW.r ?_
  refine At.lit0 (t := 27) (d := 12) (e := 3) (es := 1) (bytes := 8) 112 (by kernel_rfl) (by kernel_rfl) (by kernel_rfl) (by kernel_rfl) ?_
  refine At.a 2 ?_
  refine At.done rfl ?_
  refine AW.seq ?_
  refine AW.r ?_
  refine At.a 1 ?_
  refine At.done rfl ?_
  refine AW.block ?_
  refine AW.loopW (fun (k : Nat) => Go.Sy.mk [.un, .ref 4, .ptr 102 0 0, .un, .ptr 104 0 0, .un, .un, .int .i64 (k : Int)] [(0, .arr 45 6 (r.hard.log.map encEnt)), (1, .arr 3 1 (r.yes.map encI)), (2, .arr 3 1 (r.next.map encI)), (3, .arr 3 1 (r.match_.map encI)), (4, .arr 47 10 (recs.map encRec)), (102, .box 29 [.int .i64 r.id, .int .i64 r.of_, .int .i64 3, .int .i64 r.commit, .int .i64 r.hard.term, .int .i64 r.hard.vote, .ref 0, .ref 5005, .ref 110, .ref 112]), (104, .box 29 [.int .i64 0, .int .i64 0, .int .i64 0, .int .i64 0, .int .i64 0, .int .i64 0, .ref 5001, .ref 5002, .ref 5003, .ref 5004]), (110, .arr 3 1 ((List.replicate k ((r.hard.log.length : Int) + 1)).map encI)), (112, .arr 3 1 ((List.replicate k (0 : Int)).map encI)), (5001, .arr 45 6 []), (5002, .arr 3 1 []), (5003, .arr 3 1 []), (5004, .arr 3 1 []), (5005, .arr 3 1 [])]) (fun (k : Nat) => k ≤ r.of_.toNat) (fun (k : Nat) => r.of_.toNat - k) 0 (by omega) (Sub.o [(0, 0), (1, 1), (2, 2), (3, 3), (4, 4), (102, 102), (104, 104), (110, 110), (112, 112), (5001, 5001), (5002, 5002), (5003, 5003), (5004, 5004), (5005, 5005)] [false, true, true, false, true, false, false, true]) ?_
  rintro k hk
  refine AW.seq ?_
  refine AW.r ?_
  refine At.a 4 ?_
  refine At.done rfl ?_
  refine AW.cD ((k : Int) < r.of_) (fun h1 => ?_) (fun h1 => ?_)
  · skip
    refine AW.skip ?_
    refine AW.seq ?_
    refine AW.block ?_
    refine AW.seq ?_
    refine AW.regionD Tryz_mix (At.start ?_)
    refine At.a 3 ?_
    refine At.c (spec_l10End_spec  (⟨r.id, r.of_, 3, r.commit, r.hard, [], List.replicate k ((r.hard.log.length : Int) + 1), List.replicate k (0 : Int)⟩ : Raft) ) Tryz.call65 false [] [] [(0, 6, (r.hard.log.map encEnt)), (5005, 1, []), (110, 1, ((List.replicate k ((r.hard.log.length : Int) + 1)).map encI)), (112, 1, ((List.replicate k (0 : Int)).map encI))] ⟨rfl, ⟨45, (r.hard.log.map encEnt), by kernel_rfl, FrzIs.same (allP_encEnt _)⟩, rfl, ⟨3, [], by kernel_rfl, FrzIs.same (fun _ h => by cases h)⟩, rfl, ⟨3, ((List.replicate k ((r.hard.log.length : Int) + 1)).map encI), by kernel_rfl, FrzIs.same (allP_encI _)⟩, rfl, ⟨3, ((List.replicate k (0 : Int)).map encI), by kernel_rfl, FrzIs.same (allP_encI _)⟩, trivial⟩ ?_
    refine At.a 1 ?_
    refine At.sI 24 ((r.hard.log.length : Int) + 1) (by omega) ?_
    refine At.litK (t := 27) (d := 25) (e := 3) (es := 1) (bytes := 8) (n := 1) (parts := #[(0, .tmp 24)]) (45, 6) 125 [] [.int .i64 ((r.hard.log.length : Int) + 1)] [.int .i64 ((r.hard.log.length : Int) + 1)] [.int .i64 0] [.int .i64 ((r.hard.log.length : Int) + 1)] [] (by kernel_rfl) (by kernel_rfl) (by kernel_rfl) (by kernel_rfl) rfl (fun p hp => by cases hp) (by kernel_rfl) ?_
    refine At.append (t := 27) (d := 26) (e := 3) (es := 1) (bytes := 8) (s := .tmp 21) (x := .tmp 25) (S := .ref 110) (T := .ref 125) (xs := ((List.replicate k ((r.hard.log.length : Int) + 1)).map encI)) (ys := (([(r.hard.log.length : Int) + 1]).map encI)) 126 [110] [125] ((List.replicate (k + 1) ((r.hard.log.length : Int) + 1)).map encI) (by kernel_rfl) (by kernel_rfl) (by kernel_rfl) (by kernel_rfl) ⟨by kernel_rfl, rfl⟩ ⟨by kernel_rfl, .inr rfl⟩ (by kernel_rfl) (by kernel_rfl) (by rw [List.replicate_succ', List.map_append]; try rfl) (by simp only [List.length_map, List.length_append, List.length_take, List.length_drop, List.length_replicate, List.length_set, List.length_cons, List.length_nil]; omega) (by simp only [List.length_map, List.length_append, List.length_take, List.length_drop, List.length_replicate, List.length_set, List.length_cons, List.length_nil]; omega) ?_
    refine At.a 2 ?_
    refine At.done rfl ⟨by kernel_rfl, ?_⟩
    refine AW.region (At.start ?_)
    refine At.a 2 ?_
    refine At.litK (t := 27) (d := 30) (e := 3) (es := 1) (bytes := 8) (n := 1) (parts := #[(0, .const (.int .i64 0))]) (45, 6) 130 [] [.int .i64 0] [.int .i64 0] [.int .i64 0] [.int .i64 0] [] (by kernel_rfl) (by kernel_rfl) (by kernel_rfl) (by kernel_rfl) rfl (fun p hp => by cases hp) (by kernel_rfl) ?_
    refine At.append (t := 27) (d := 31) (e := 3) (es := 1) (bytes := 8) (s := .tmp 29) (x := .tmp 30) (S := .ref 112) (T := .ref 130) (xs := ((List.replicate k (0 : Int)).map encI)) (ys := (([0]).map encI)) 131 [112] [130] ((List.replicate (k + 1) (0 : Int)).map encI) (by kernel_rfl) (by kernel_rfl) (by kernel_rfl) (by kernel_rfl) ⟨by kernel_rfl, rfl⟩ ⟨by kernel_rfl, .inr rfl⟩ (by kernel_rfl) (by kernel_rfl) (by rw [List.replicate_succ', List.map_append]; try rfl) (by simp only [List.length_map, List.length_append, List.length_take, List.length_drop, List.length_replicate, List.length_set, List.length_cons, List.length_nil]; omega) (by simp only [List.length_map, List.length_append, List.length_take, List.length_drop, List.length_replicate, List.length_set, List.length_cons, List.length_nil]; omega) ?_
    refine At.a 2 ?_
    refine At.done rfl ?_
    refine AW.region (At.start ?_)
    refine At.a 2 ?_
    refine At.sI 19 ((k : Int) + 1) (by omega) ?_
    refine At.a 1 ?_
    refine At.done rfl ?_
    exact ⟨k + 1, (by omega), (by omega), Sub.o [(0, 0), (1, 1), (2, 2), (3, 3), (4, 4), (102, 102), (104, 104), (126, 110), (131, 112), (5001, 5001), (5002, 5002), (5003, 5003), (5004, 5004), (5005, 5005)] [false, true, true, false, true, false, false, true]⟩
  · skip
    refine AW.exit ?_
    refine AW.seq ?_
    refine AW.r ?_
    refine At.a 1 ?_
    refine At.c (spec_l10End_spec  (⟨r.id, r.of_, 3, r.commit, r.hard, [], List.replicate k ((r.hard.log.length : Int) + 1), List.replicate k (0 : Int)⟩ : Raft) ) Tryz.call65 false [] [] [(0, 6, (r.hard.log.map encEnt)), (5005, 1, []), (110, 1, ((List.replicate k ((r.hard.log.length : Int) + 1)).map encI)), (112, 1, ((List.replicate k (0 : Int)).map encI))] ⟨rfl, ⟨45, (r.hard.log.map encEnt), by kernel_rfl, FrzIs.same (allP_encEnt _)⟩, rfl, ⟨3, [], by kernel_rfl, FrzIs.same (fun _ h => by cases h)⟩, rfl, ⟨3, ((List.replicate k ((r.hard.log.length : Int) + 1)).map encI), by kernel_rfl, FrzIs.same (allP_encI _)⟩, rfl, ⟨3, ((List.replicate k (0 : Int)).map encI), by kernel_rfl, FrzIs.same (allP_encI _)⟩, trivial⟩ ?_
    refine At.a 1 ?_
    refine At.done rfl ?_
    refine AW.condT (decide ((r.hard.log.length : Int) < 80)) (by kernel_rfl) (decide_eq_true (by omega)) ?_
    refine AW.region (At.start ?_)
    refine At.a 7 ?_
    refine At.c (spec_l10Put_spec  (⟨r.id, r.of_, 3, r.commit, r.hard, [], List.replicate k ((r.hard.log.length : Int) + 1), List.replicate k (0 : Int)⟩ : Raft) (⟨r.hard.term, ⟨1, 0, 0, 0, (⟨#[]⟩ : ByteArray)⟩⟩ : Ent) recs (by omega) (by omega)) Tryz.call105 true [(0, 0), (5005, 1), (110, 2), (112, 3), (4, 4)] [(1880, 5), (1881, 6)] [] trivial ?_
    refine At.a 5 ?_
    refine At.done rfl ?_
    refine AW.seq ?_
    refine AW.regionD Tryz_mix (At.start ?_)
    refine At.a 5 ?_
    refine At.c (spec_l10End_spec  (⟨r.id, r.of_, 3, r.commit, ⟨r.hard.term, r.hard.vote, r.hard.log ++ [(⟨r.hard.term, ⟨1, 0, 0, 0, (⟨#[]⟩ : ByteArray)⟩⟩ : Ent)]⟩, [], List.replicate k ((r.hard.log.length : Int) + 1), List.replicate k (0 : Int)⟩ : Raft) ) Tryz.call65 false [] [] [(1880, 6, ((r.hard.log ++ [(⟨r.hard.term, ⟨1, 0, 0, 0, (⟨#[]⟩ : ByteArray)⟩⟩ : Ent)]).map encEnt)), (5005, 1, []), (110, 1, ((List.replicate k ((r.hard.log.length : Int) + 1)).map encI)), (112, 1, ((List.replicate k (0 : Int)).map encI))] ⟨rfl, ⟨45, ((r.hard.log ++ [(⟨r.hard.term, ⟨1, 0, 0, 0, (⟨#[]⟩ : ByteArray)⟩⟩ : Ent)]).map encEnt), by kernel_rfl, FrzIs.same (allP_encEnt _)⟩, rfl, ⟨3, [], by kernel_rfl, FrzIs.same (fun _ h => by cases h)⟩, rfl, ⟨3, ((List.replicate k ((r.hard.log.length : Int) + 1)).map encI), by kernel_rfl, FrzIs.same (allP_encI _)⟩, rfl, ⟨3, ((List.replicate k (0 : Int)).map encI), by kernel_rfl, FrzIs.same (allP_encI _)⟩, trivial⟩ ?_
    refine At.iRf 27 53 (.tmp 48) (.tmp 50) 112 ((List.replicate k (0 : Int)).map encI) .i64 r.id 3 1 (by omega) (by simp only [List.length_map, List.length_append, List.length_take, List.length_drop, List.length_replicate, List.length_set, List.length_cons, List.length_nil]; omega) ?_
    refine Exists.elim (show ∃ e, (List.replicate k (0 : Int))[(r.id).toNat]? = some e from ⟨_, List.getElem?_eq_getElem (by simp only [List.length_map, List.length_append, List.length_take, List.length_drop, List.length_replicate, List.length_set, List.length_cons, List.length_nil]; omega)⟩) fun e1 he1 => ?_
    refine At.sEl 3 112 3 1 ((r.id).toNat) 0 (.tmp 53) (.tmp 52) ((List.replicate k (0 : Int)).map encI) (((List.replicate k (0 : Int)).set ((r.id).toNat) ((r.hard.log ++ [(⟨r.hard.term, ⟨1, 0, 0, 0, (⟨#[]⟩ : ByteArray)⟩⟩ : Ent)]).length : Int)).map encI) [.int .i64 ((r.hard.log ++ [(⟨r.hard.term, ⟨1, 0, 0, 0, (⟨#[]⟩ : ByteArray)⟩⟩ : Ent)]).length : Int)] (.int .i64 ((r.hard.log ++ [(⟨r.hard.term, ⟨1, 0, 0, 0, (⟨#[]⟩ : ByteArray)⟩⟩ : Ent)]).length : Int)) (encI e1) (encI ((r.hard.log ++ [(⟨r.hard.term, ⟨1, 0, 0, 0, (⟨#[]⟩ : ByteArray)⟩⟩ : Ent)]).length : Int)) (mapGet he1) setV ?_
    refine At.done rfl ⟨by kernel_rfl, ?_⟩
    refine AW.seq ?_
    refine AW.r ?_
    refine At.a 3 ?_
    refine At.done rfl ?_
    refine AW.cE r.of_ (1 : Int) (fun h2 => ?_) (fun h2 => ?_)
    · skip
      refine AW.region (At.start ?_)
      refine At.a 1 ?_
      refine At.c (spec_l10End_spec  (⟨r.id, r.of_, 3, r.commit, ⟨r.hard.term, r.hard.vote, r.hard.log ++ [(⟨r.hard.term, ⟨1, 0, 0, 0, (⟨#[]⟩ : ByteArray)⟩⟩ : Ent)]⟩, [], List.replicate k ((r.hard.log.length : Int) + 1), (List.replicate k (0 : Int)).set ((r.id).toNat) ((r.hard.log ++ [(⟨r.hard.term, ⟨1, 0, 0, 0, (⟨#[]⟩ : ByteArray)⟩⟩ : Ent)]).length : Int)⟩ : Raft) ) Tryz.call65 false [] [] [(1880, 6, ((r.hard.log ++ [(⟨r.hard.term, ⟨1, 0, 0, 0, (⟨#[]⟩ : ByteArray)⟩⟩ : Ent)]).map encEnt)), (5005, 1, []), (110, 1, ((List.replicate k ((r.hard.log.length : Int) + 1)).map encI)), (112, 1, (((List.replicate k (0 : Int)).set ((r.id).toNat) ((r.hard.log ++ [(⟨r.hard.term, ⟨1, 0, 0, 0, (⟨#[]⟩ : ByteArray)⟩⟩ : Ent)]).length : Int)).map encI))] ⟨rfl, ⟨45, ((r.hard.log ++ [(⟨r.hard.term, ⟨1, 0, 0, 0, (⟨#[]⟩ : ByteArray)⟩⟩ : Ent)]).map encEnt), by kernel_rfl, FrzIs.same (allP_encEnt _)⟩, rfl, ⟨3, [], by kernel_rfl, FrzIs.same (fun _ h => by cases h)⟩, rfl, ⟨3, ((List.replicate k ((r.hard.log.length : Int) + 1)).map encI), by kernel_rfl, FrzIs.same (allP_encI _)⟩, rfl, ⟨3, (((List.replicate k (0 : Int)).set ((r.id).toNat) ((r.hard.log ++ [(⟨r.hard.term, ⟨1, 0, 0, 0, (⟨#[]⟩ : ByteArray)⟩⟩ : Ent)]).length : Int)).map encI), by kernel_rfl, FrzIs.same (allP_encI _)⟩, trivial⟩ ?_
      refine At.a 2 ?_
      refine At.done rfl ?_
      refine AW.seq ?_
      refine AW.regionD Tryz_mix (At.start ?_)
      refine At.a 3 ?_
      refine At.c (spec_l10SendAll_spec  (⟨r.id, r.of_, 3, ((r.hard.log ++ [(⟨r.hard.term, ⟨1, 0, 0, 0, (⟨#[]⟩ : ByteArray)⟩⟩ : Ent)]).length : Int), ⟨r.hard.term, r.hard.vote, r.hard.log ++ [(⟨r.hard.term, ⟨1, 0, 0, 0, (⟨#[]⟩ : ByteArray)⟩⟩ : Ent)]⟩, [], List.replicate k ((r.hard.log.length : Int) + 1), (List.replicate k (0 : Int)).set ((r.id).toNat) ((r.hard.log ++ [(⟨r.hard.term, ⟨1, 0, 0, 0, (⟨#[]⟩ : ByteArray)⟩⟩ : Ent)]).length : Int)⟩ : Raft) (by unfold SmallR; simp only [List.length_append, List.length_set, List.length_replicate, List.length_cons, List.length_nil]; omega) (by dsimp only; omega) (by dsimp only; simp only [List.length_replicate]; omega) (nextOk_rep rfl ⟨by omega, by dsimp only; (try simp only [List.length_append]); omega⟩)) Tryz.call83 false [] [(2260, 0)] [(1880, 6, ((r.hard.log ++ [(⟨r.hard.term, ⟨1, 0, 0, 0, (⟨#[]⟩ : ByteArray)⟩⟩ : Ent)]).map encEnt)), (5005, 1, []), (110, 1, ((List.replicate k ((r.hard.log.length : Int) + 1)).map encI)), (112, 1, (((List.replicate k (0 : Int)).set ((r.id).toNat) ((r.hard.log ++ [(⟨r.hard.term, ⟨1, 0, 0, 0, (⟨#[]⟩ : ByteArray)⟩⟩ : Ent)]).length : Int)).map encI))] ⟨rfl, ⟨45, ((r.hard.log ++ [(⟨r.hard.term, ⟨1, 0, 0, 0, (⟨#[]⟩ : ByteArray)⟩⟩ : Ent)]).map encEnt), by kernel_rfl, FrzIs.same (allP_encEnt _)⟩, rfl, ⟨3, [], by kernel_rfl, FrzIs.same (fun _ h => by cases h)⟩, rfl, ⟨3, ((List.replicate k ((r.hard.log.length : Int) + 1)).map encI), by kernel_rfl, FrzIs.same (allP_encI _)⟩, rfl, ⟨3, (((List.replicate k (0 : Int)).set ((r.id).toNat) ((r.hard.log ++ [(⟨r.hard.term, ⟨1, 0, 0, 0, (⟨#[]⟩ : ByteArray)⟩⟩ : Ent)]).length : Int)).map encI), by kernel_rfl, FrzIs.same (allP_encI _)⟩, trivial⟩ ?_
      refine At.a 3 ?_
      refine At.done rfl ⟨by kernel_rfl, ?_⟩
      refine AW.ret ?_
      refine ⟨_, Sub.refl _ _, ?_⟩
      refine KF.conv (fun w => .tup [.agg [.int .i64 w.id, .int .i64 w.of_, .int .i64 w.role, .int .i64 w.commit, .int .i64 w.hard.term, .int .i64 w.hard.vote, .ref 5, .ref 6, .ref 7, .ref 8], .ref 9, .ref 10]) (fun w => [.arr 45 6 (r.hard.log.map encEnt), .arr 3 1 (r.yes.map encI), .arr 3 1 (r.next.map encI), .arr 3 1 (r.match_.map encI), .dead, .arr 45 6 (w.hard.log.map encEnt), .arr 3 1 (w.yes.map encI), .arr 3 1 (w.next.map encI), .arr 3 1 (w.match_.map encI), .arr 47 10 ((recs ++ leadRecs r).map encRec), .arr 51 17 ((sendAll (leadR r)).map encOut)]) (show ((⟨r.id, r.of_, 3, ((r.hard.log ++ [(⟨r.hard.term, ⟨1, 0, 0, 0, (⟨#[]⟩ : ByteArray)⟩⟩ : Ent)]).length : Int), ⟨r.hard.term, r.hard.vote, r.hard.log ++ [(⟨r.hard.term, ⟨1, 0, 0, 0, (⟨#[]⟩ : ByteArray)⟩⟩ : Ent)]⟩, [], List.replicate k ((r.hard.log.length : Int) + 1), (List.replicate k (0 : Int)).set ((r.id).toNat) ((r.hard.log ++ [(⟨r.hard.term, ⟨1, 0, 0, 0, (⟨#[]⟩ : ByteArray)⟩⟩ : Ent)]).length : Int)⟩ : Raft)) = (leadR r) from by obtain rfl : k = r.of_.toNat := (by omega); have hlt2 := hlt; simp [leadR, leadRecs, had, put, lead0, noneE, putRec, hlt2, h1, h2]) ?_
      refine KF.conv (fun w => .tup [.agg [.int .i64 r.id, .int .i64 r.of_, .int .i64 3, .int .i64 ((r.hard.log ++ [(⟨r.hard.term, ⟨1, 0, 0, 0, (⟨#[]⟩ : ByteArray)⟩⟩ : Ent)]).length : Int), .int .i64 r.hard.term, .int .i64 r.hard.vote, .ref 5, .ref 6, .ref 7, .ref 8], .ref 9, .ref 10]) (fun w => [.arr 45 6 (r.hard.log.map encEnt), .arr 3 1 (r.yes.map encI), .arr 3 1 (r.next.map encI), .arr 3 1 (r.match_.map encI), .dead, .arr 45 6 ((r.hard.log ++ [(⟨r.hard.term, ⟨1, 0, 0, 0, (⟨#[]⟩ : ByteArray)⟩⟩ : Ent)]).map encEnt), .arr 3 1 [], .arr 3 1 ((List.replicate k ((r.hard.log.length : Int) + 1)).map encI), .arr 3 1 (((List.replicate k (0 : Int)).set ((r.id).toNat) ((r.hard.log ++ [(⟨r.hard.term, ⟨1, 0, 0, 0, (⟨#[]⟩ : ByteArray)⟩⟩ : Ent)]).length : Int)).map encI), .arr 47 10 (w.map encRec), .arr 51 17 ((sendAll (leadR r)).map encOut)]) (show (recs ++ [(⟨2, 0, 0, ((r.hard.log ++ [(⟨r.hard.term, ⟨1, 0, 0, 0, (⟨#[]⟩ : ByteArray)⟩⟩ : Ent)]).length : Int), (⟨r.hard.term, ⟨1, 0, 0, 0, (⟨#[]⟩ : ByteArray)⟩⟩ : Ent)⟩ : Rec)]) = (recs ++ leadRecs r) from by obtain rfl : k = r.of_.toNat := (by omega); have hlt2 := hlt; simp [leadR, leadRecs, had, put, lead0, noneE, putRec, hlt2, h1, h2]) ?_
      refine KF.conv (fun w => .tup [.agg [.int .i64 r.id, .int .i64 r.of_, .int .i64 3, .int .i64 ((r.hard.log ++ [(⟨r.hard.term, ⟨1, 0, 0, 0, (⟨#[]⟩ : ByteArray)⟩⟩ : Ent)]).length : Int), .int .i64 r.hard.term, .int .i64 r.hard.vote, .ref 5, .ref 6, .ref 7, .ref 8], .ref 9, .ref 10]) (fun w => [.arr 45 6 (r.hard.log.map encEnt), .arr 3 1 (r.yes.map encI), .arr 3 1 (r.next.map encI), .arr 3 1 (r.match_.map encI), .dead, .arr 45 6 ((r.hard.log ++ [(⟨r.hard.term, ⟨1, 0, 0, 0, (⟨#[]⟩ : ByteArray)⟩⟩ : Ent)]).map encEnt), .arr 3 1 [], .arr 3 1 ((List.replicate k ((r.hard.log.length : Int) + 1)).map encI), .arr 3 1 (((List.replicate k (0 : Int)).set ((r.id).toNat) ((r.hard.log ++ [(⟨r.hard.term, ⟨1, 0, 0, 0, (⟨#[]⟩ : ByteArray)⟩⟩ : Ent)]).length : Int)).map encI), .arr 47 10 ((recs ++ [(⟨2, 0, 0, ((r.hard.log ++ [(⟨r.hard.term, ⟨1, 0, 0, 0, (⟨#[]⟩ : ByteArray)⟩⟩ : Ent)]).length : Int), (⟨r.hard.term, ⟨1, 0, 0, 0, (⟨#[]⟩ : ByteArray)⟩⟩ : Ent)⟩ : Rec)]).map encRec), .arr 51 17 (w.map encOut)]) (show (sendAll (⟨r.id, r.of_, 3, ((r.hard.log ++ [(⟨r.hard.term, ⟨1, 0, 0, 0, (⟨#[]⟩ : ByteArray)⟩⟩ : Ent)]).length : Int), ⟨r.hard.term, r.hard.vote, r.hard.log ++ [(⟨r.hard.term, ⟨1, 0, 0, 0, (⟨#[]⟩ : ByteArray)⟩⟩ : Ent)]⟩, [], List.replicate k ((r.hard.log.length : Int) + 1), (List.replicate k (0 : Int)).set ((r.id).toNat) ((r.hard.log ++ [(⟨r.hard.term, ⟨1, 0, 0, 0, (⟨#[]⟩ : ByteArray)⟩⟩ : Ent)]).length : Int)⟩ : Raft)) = (sendAll (leadR r)) from by obtain rfl : k = r.of_.toNat := (by omega); have hlt2 := hlt; simp [leadR, leadRecs, had, put, lead0, noneE, putRec, hlt2, h1, h2]) ?_
      exact KF.m [(0, 0), (1, 1), (2, 2), (3, 3), (4, 4), (1880, 5), (5005, 6), (110, 7), (112, 8), (1881, 9), (2260, 10)] [.agg [.int .i64 r.id, .int .i64 r.of_, .int .i64 3, .int .i64 ((r.hard.log ++ [(⟨r.hard.term, ⟨1, 0, 0, 0, (⟨#[]⟩ : ByteArray)⟩⟩ : Ent)]).length : Int), .int .i64 r.hard.term, .int .i64 r.hard.vote, .ref 1880, .ref 5005, .ref 110, .ref 112], .ref 1881, .ref 2260]
    · skip
      refine AW.skip ?_
      refine AW.seq ?_
      refine AW.regionD Tryz_mix (At.start ?_)
      refine At.a 3 ?_
      refine At.c (spec_l10SendAll_spec  (⟨r.id, r.of_, 3, r.commit, ⟨r.hard.term, r.hard.vote, r.hard.log ++ [(⟨r.hard.term, ⟨1, 0, 0, 0, (⟨#[]⟩ : ByteArray)⟩⟩ : Ent)]⟩, [], List.replicate k ((r.hard.log.length : Int) + 1), (List.replicate k (0 : Int)).set ((r.id).toNat) ((r.hard.log ++ [(⟨r.hard.term, ⟨1, 0, 0, 0, (⟨#[]⟩ : ByteArray)⟩⟩ : Ent)]).length : Int)⟩ : Raft) (by unfold SmallR; simp only [List.length_append, List.length_set, List.length_replicate, List.length_cons, List.length_nil]; omega) (by dsimp only; omega) (by dsimp only; simp only [List.length_replicate]; omega) (nextOk_rep rfl ⟨by omega, by dsimp only; (try simp only [List.length_append]); omega⟩)) Tryz.call83 false [] [(2260, 0)] [(1880, 6, ((r.hard.log ++ [(⟨r.hard.term, ⟨1, 0, 0, 0, (⟨#[]⟩ : ByteArray)⟩⟩ : Ent)]).map encEnt)), (5005, 1, []), (110, 1, ((List.replicate k ((r.hard.log.length : Int) + 1)).map encI)), (112, 1, (((List.replicate k (0 : Int)).set ((r.id).toNat) ((r.hard.log ++ [(⟨r.hard.term, ⟨1, 0, 0, 0, (⟨#[]⟩ : ByteArray)⟩⟩ : Ent)]).length : Int)).map encI))] ⟨rfl, ⟨45, ((r.hard.log ++ [(⟨r.hard.term, ⟨1, 0, 0, 0, (⟨#[]⟩ : ByteArray)⟩⟩ : Ent)]).map encEnt), by kernel_rfl, FrzIs.same (allP_encEnt _)⟩, rfl, ⟨3, [], by kernel_rfl, FrzIs.same (fun _ h => by cases h)⟩, rfl, ⟨3, ((List.replicate k ((r.hard.log.length : Int) + 1)).map encI), by kernel_rfl, FrzIs.same (allP_encI _)⟩, rfl, ⟨3, (((List.replicate k (0 : Int)).set ((r.id).toNat) ((r.hard.log ++ [(⟨r.hard.term, ⟨1, 0, 0, 0, (⟨#[]⟩ : ByteArray)⟩⟩ : Ent)]).length : Int)).map encI), by kernel_rfl, FrzIs.same (allP_encI _)⟩, trivial⟩ ?_
      refine At.a 3 ?_
      refine At.done rfl ⟨by kernel_rfl, ?_⟩
      refine AW.ret ?_
      refine ⟨_, Sub.refl _ _, ?_⟩
      refine KF.conv (fun w => .tup [.agg [.int .i64 w.id, .int .i64 w.of_, .int .i64 w.role, .int .i64 w.commit, .int .i64 w.hard.term, .int .i64 w.hard.vote, .ref 5, .ref 6, .ref 7, .ref 8], .ref 9, .ref 10]) (fun w => [.arr 45 6 (r.hard.log.map encEnt), .arr 3 1 (r.yes.map encI), .arr 3 1 (r.next.map encI), .arr 3 1 (r.match_.map encI), .dead, .arr 45 6 (w.hard.log.map encEnt), .arr 3 1 (w.yes.map encI), .arr 3 1 (w.next.map encI), .arr 3 1 (w.match_.map encI), .arr 47 10 ((recs ++ leadRecs r).map encRec), .arr 51 17 ((sendAll (leadR r)).map encOut)]) (show ((⟨r.id, r.of_, 3, r.commit, ⟨r.hard.term, r.hard.vote, r.hard.log ++ [(⟨r.hard.term, ⟨1, 0, 0, 0, (⟨#[]⟩ : ByteArray)⟩⟩ : Ent)]⟩, [], List.replicate k ((r.hard.log.length : Int) + 1), (List.replicate k (0 : Int)).set ((r.id).toNat) ((r.hard.log ++ [(⟨r.hard.term, ⟨1, 0, 0, 0, (⟨#[]⟩ : ByteArray)⟩⟩ : Ent)]).length : Int)⟩ : Raft)) = (leadR r) from by obtain rfl : k = r.of_.toNat := (by omega); have hlt2 := hlt; simp [leadR, leadRecs, had, put, lead0, noneE, putRec, hlt2, h1, h2]) ?_
      refine KF.conv (fun w => .tup [.agg [.int .i64 r.id, .int .i64 r.of_, .int .i64 3, .int .i64 r.commit, .int .i64 r.hard.term, .int .i64 r.hard.vote, .ref 5, .ref 6, .ref 7, .ref 8], .ref 9, .ref 10]) (fun w => [.arr 45 6 (r.hard.log.map encEnt), .arr 3 1 (r.yes.map encI), .arr 3 1 (r.next.map encI), .arr 3 1 (r.match_.map encI), .dead, .arr 45 6 ((r.hard.log ++ [(⟨r.hard.term, ⟨1, 0, 0, 0, (⟨#[]⟩ : ByteArray)⟩⟩ : Ent)]).map encEnt), .arr 3 1 [], .arr 3 1 ((List.replicate k ((r.hard.log.length : Int) + 1)).map encI), .arr 3 1 (((List.replicate k (0 : Int)).set ((r.id).toNat) ((r.hard.log ++ [(⟨r.hard.term, ⟨1, 0, 0, 0, (⟨#[]⟩ : ByteArray)⟩⟩ : Ent)]).length : Int)).map encI), .arr 47 10 (w.map encRec), .arr 51 17 ((sendAll (leadR r)).map encOut)]) (show (recs ++ [(⟨2, 0, 0, ((r.hard.log ++ [(⟨r.hard.term, ⟨1, 0, 0, 0, (⟨#[]⟩ : ByteArray)⟩⟩ : Ent)]).length : Int), (⟨r.hard.term, ⟨1, 0, 0, 0, (⟨#[]⟩ : ByteArray)⟩⟩ : Ent)⟩ : Rec)]) = (recs ++ leadRecs r) from by obtain rfl : k = r.of_.toNat := (by omega); have hlt2 := hlt; simp [leadR, leadRecs, had, put, lead0, noneE, putRec, hlt2, h1, h2]) ?_
      refine KF.conv (fun w => .tup [.agg [.int .i64 r.id, .int .i64 r.of_, .int .i64 3, .int .i64 r.commit, .int .i64 r.hard.term, .int .i64 r.hard.vote, .ref 5, .ref 6, .ref 7, .ref 8], .ref 9, .ref 10]) (fun w => [.arr 45 6 (r.hard.log.map encEnt), .arr 3 1 (r.yes.map encI), .arr 3 1 (r.next.map encI), .arr 3 1 (r.match_.map encI), .dead, .arr 45 6 ((r.hard.log ++ [(⟨r.hard.term, ⟨1, 0, 0, 0, (⟨#[]⟩ : ByteArray)⟩⟩ : Ent)]).map encEnt), .arr 3 1 [], .arr 3 1 ((List.replicate k ((r.hard.log.length : Int) + 1)).map encI), .arr 3 1 (((List.replicate k (0 : Int)).set ((r.id).toNat) ((r.hard.log ++ [(⟨r.hard.term, ⟨1, 0, 0, 0, (⟨#[]⟩ : ByteArray)⟩⟩ : Ent)]).length : Int)).map encI), .arr 47 10 ((recs ++ [(⟨2, 0, 0, ((r.hard.log ++ [(⟨r.hard.term, ⟨1, 0, 0, 0, (⟨#[]⟩ : ByteArray)⟩⟩ : Ent)]).length : Int), (⟨r.hard.term, ⟨1, 0, 0, 0, (⟨#[]⟩ : ByteArray)⟩⟩ : Ent)⟩ : Rec)]).map encRec), .arr 51 17 (w.map encOut)]) (show (sendAll (⟨r.id, r.of_, 3, r.commit, ⟨r.hard.term, r.hard.vote, r.hard.log ++ [(⟨r.hard.term, ⟨1, 0, 0, 0, (⟨#[]⟩ : ByteArray)⟩⟩ : Ent)]⟩, [], List.replicate k ((r.hard.log.length : Int) + 1), (List.replicate k (0 : Int)).set ((r.id).toNat) ((r.hard.log ++ [(⟨r.hard.term, ⟨1, 0, 0, 0, (⟨#[]⟩ : ByteArray)⟩⟩ : Ent)]).length : Int)⟩ : Raft)) = (sendAll (leadR r)) from by obtain rfl : k = r.of_.toNat := (by omega); have hlt2 := hlt; simp [leadR, leadRecs, had, put, lead0, noneE, putRec, hlt2, h1, h2]) ?_
      exact KF.m [(0, 0), (1, 1), (2, 2), (3, 3), (4, 4), (1880, 5), (5005, 6), (110, 7), (112, 8), (1881, 9), (2260, 10)] [.agg [.int .i64 r.id, .int .i64 r.of_, .int .i64 3, .int .i64 r.commit, .int .i64 r.hard.term, .int .i64 r.hard.vote, .ref 1880, .ref 5005, .ref 110, .ref 112], .ref 1881, .ref 2260]
set_option maxRecDepth 100000 in
set_option maxHeartbeats 4000000 in
theorem spec_l10Lead_F_spec  (r : Raft) (recs : List Rec) (hz : SmallR r) (ho : 0 ≤ r.of_ ∧ r.of_ ≤ 5) (hi : 0 ≤ r.id ∧ r.id < r.of_) (hr : recs.length ≤ 1000) (hlt : ¬ r.hard.log.length < 80) : FnSpec Tryz.prog 99 [.agg [.int .i64 r.id, .int .i64 r.of_, .int .i64 r.role, .int .i64 r.commit, .int .i64 r.hard.term, .int .i64 r.hard.vote, .ref 0, .ref 1, .ref 2, .ref 3], .ref 4] [.arr 45 6 (r.hard.log.map encEnt), .arr 3 1 (r.yes.map encI), .arr 3 1 (r.next.map encI), .arr 3 1 (r.match_.map encI), .arr 47 10 (recs.map encRec)] (.tup [.agg [.int .i64 ((leadR r).id), .int .i64 ((leadR r).of_), .int .i64 ((leadR r).role), .int .i64 ((leadR r).commit), .int .i64 ((leadR r).hard.term), .int .i64 ((leadR r).hard.vote), .ref 0, .ref 5, .ref 6, .ref 7], .ref 4, .ref 8]) [.arr 45 6 (r.hard.log.map encEnt), .arr 3 1 (r.yes.map encI), .arr 3 1 (r.next.map encI), .arr 3 1 (r.match_.map encI), .arr 47 10 (recs.map encRec), .arr 3 1 (((leadR r).yes).map encI), .arr 3 1 (((leadR r).next).map encI), .arr 3 1 (((leadR r).match_).map encI), .arr 51 17 ((sendAll (leadR r)).map encOut)] := by
  obtain ⟨z1, z2, z3, z4⟩ := id hz
  refine FnSpec.of 64 Tryz.func99 rfl Tryz.ntmps99 (by simp) (AW.weakK ?_)
  refine AW.r ?_
  refine At.a 4 ?_
  refine At.done rfl ?_
  refine AW.seq ?_
  refine AW.weak (Sub.nils [⟨true, 104, some 6, 5001, 45, 6⟩, ⟨true, 104, some 7, 5002, 3, 1⟩, ⟨true, 104, some 8, 5003, 3, 1⟩, ⟨true, 104, some 9, 5004, 3, 1⟩] (by kernel_rfl)) ?_
  refine AW.region (At.start ?_)
  refine At.a 2 ?_
  refine At.done rfl ?_
  refine AW.r ?_
  refine At.a 2 ?_
  refine At.done rfl ?_
  refine AW.seq ?_
  refine AW.weak (Sub.nils [⟨true, 102, some 7, 5005, 3, 1⟩] (by kernel_rfl)) ?_
  refine AW.region (At.start ?_)
  refine At.lit0 (t := 27) (d := 10) (e := 3) (es := 1) (bytes := 8) 110 (by kernel_rfl) (by kernel_rfl) (by kernel_rfl) (by kernel_rfl) ?_
  refine At.a 2 ?_
  refine At.done rfl ?_
  refine AW.r ?_
  refine At.lit0 (t := 27) (d := 12) (e := 3) (es := 1) (bytes := 8) 112 (by kernel_rfl) (by kernel_rfl) (by kernel_rfl) (by kernel_rfl) ?_
  refine At.a 2 ?_
  refine At.done rfl ?_
  refine AW.seq ?_
  refine AW.r ?_
  refine At.a 1 ?_
  refine At.done rfl ?_
  refine AW.block ?_
  refine AW.loopW (fun (k : Nat) => Go.Sy.mk [.un, .ref 4, .ptr 102 0 0, .un, .ptr 104 0 0, .un, .un, .int .i64 (k : Int)] [(0, .arr 45 6 (r.hard.log.map encEnt)), (1, .arr 3 1 (r.yes.map encI)), (2, .arr 3 1 (r.next.map encI)), (3, .arr 3 1 (r.match_.map encI)), (4, .arr 47 10 (recs.map encRec)), (102, .box 29 [.int .i64 r.id, .int .i64 r.of_, .int .i64 3, .int .i64 r.commit, .int .i64 r.hard.term, .int .i64 r.hard.vote, .ref 0, .ref 5005, .ref 110, .ref 112]), (104, .box 29 [.int .i64 0, .int .i64 0, .int .i64 0, .int .i64 0, .int .i64 0, .int .i64 0, .ref 5001, .ref 5002, .ref 5003, .ref 5004]), (110, .arr 3 1 ((List.replicate k ((r.hard.log.length : Int) + 1)).map encI)), (112, .arr 3 1 ((List.replicate k (0 : Int)).map encI)), (5001, .arr 45 6 []), (5002, .arr 3 1 []), (5003, .arr 3 1 []), (5004, .arr 3 1 []), (5005, .arr 3 1 [])]) (fun (k : Nat) => k ≤ r.of_.toNat) (fun (k : Nat) => r.of_.toNat - k) 0 (by omega) (Sub.o [(0, 0), (1, 1), (2, 2), (3, 3), (4, 4), (102, 102), (104, 104), (110, 110), (112, 112), (5001, 5001), (5002, 5002), (5003, 5003), (5004, 5004), (5005, 5005)] [false, true, true, false, true, false, false, true]) ?_
  rintro k hk
  refine AW.seq ?_
  refine AW.r ?_
  refine At.a 4 ?_
  refine At.done rfl ?_
  refine AW.cD ((k : Int) < r.of_) (fun h1 => ?_) (fun h1 => ?_)
  · skip
    refine AW.skip ?_
    refine AW.seq ?_
    refine AW.block ?_
    refine AW.seq ?_
    refine AW.regionD Tryz_mix (At.start ?_)
    refine At.a 3 ?_
    refine At.c (spec_l10End_spec  (⟨r.id, r.of_, 3, r.commit, r.hard, [], List.replicate k ((r.hard.log.length : Int) + 1), List.replicate k (0 : Int)⟩ : Raft) ) Tryz.call65 false [] [] [(0, 6, (r.hard.log.map encEnt)), (5005, 1, []), (110, 1, ((List.replicate k ((r.hard.log.length : Int) + 1)).map encI)), (112, 1, ((List.replicate k (0 : Int)).map encI))] ⟨rfl, ⟨45, (r.hard.log.map encEnt), by kernel_rfl, FrzIs.same (allP_encEnt _)⟩, rfl, ⟨3, [], by kernel_rfl, FrzIs.same (fun _ h => by cases h)⟩, rfl, ⟨3, ((List.replicate k ((r.hard.log.length : Int) + 1)).map encI), by kernel_rfl, FrzIs.same (allP_encI _)⟩, rfl, ⟨3, ((List.replicate k (0 : Int)).map encI), by kernel_rfl, FrzIs.same (allP_encI _)⟩, trivial⟩ ?_
    refine At.a 1 ?_
    refine At.sI 24 ((r.hard.log.length : Int) + 1) (by omega) ?_
    refine At.litK (t := 27) (d := 25) (e := 3) (es := 1) (bytes := 8) (n := 1) (parts := #[(0, .tmp 24)]) (45, 6) 125 [] [.int .i64 ((r.hard.log.length : Int) + 1)] [.int .i64 ((r.hard.log.length : Int) + 1)] [.int .i64 0] [.int .i64 ((r.hard.log.length : Int) + 1)] [] (by kernel_rfl) (by kernel_rfl) (by kernel_rfl) (by kernel_rfl) rfl (fun p hp => by cases hp) (by kernel_rfl) ?_
    refine At.append (t := 27) (d := 26) (e := 3) (es := 1) (bytes := 8) (s := .tmp 21) (x := .tmp 25) (S := .ref 110) (T := .ref 125) (xs := ((List.replicate k ((r.hard.log.length : Int) + 1)).map encI)) (ys := (([(r.hard.log.length : Int) + 1]).map encI)) 126 [110] [125] ((List.replicate (k + 1) ((r.hard.log.length : Int) + 1)).map encI) (by kernel_rfl) (by kernel_rfl) (by kernel_rfl) (by kernel_rfl) ⟨by kernel_rfl, rfl⟩ ⟨by kernel_rfl, .inr rfl⟩ (by kernel_rfl) (by kernel_rfl) (by rw [List.replicate_succ', List.map_append]; try rfl) (by simp only [List.length_map, List.length_append, List.length_take, List.length_drop, List.length_replicate, List.length_set, List.length_cons, List.length_nil]; omega) (by simp only [List.length_map, List.length_append, List.length_take, List.length_drop, List.length_replicate, List.length_set, List.length_cons, List.length_nil]; omega) ?_
    refine At.a 2 ?_
    refine At.done rfl ⟨by kernel_rfl, ?_⟩
    refine AW.region (At.start ?_)
    refine At.a 2 ?_
    refine At.litK (t := 27) (d := 30) (e := 3) (es := 1) (bytes := 8) (n := 1) (parts := #[(0, .const (.int .i64 0))]) (45, 6) 130 [] [.int .i64 0] [.int .i64 0] [.int .i64 0] [.int .i64 0] [] (by kernel_rfl) (by kernel_rfl) (by kernel_rfl) (by kernel_rfl) rfl (fun p hp => by cases hp) (by kernel_rfl) ?_
    refine At.append (t := 27) (d := 31) (e := 3) (es := 1) (bytes := 8) (s := .tmp 29) (x := .tmp 30) (S := .ref 112) (T := .ref 130) (xs := ((List.replicate k (0 : Int)).map encI)) (ys := (([0]).map encI)) 131 [112] [130] ((List.replicate (k + 1) (0 : Int)).map encI) (by kernel_rfl) (by kernel_rfl) (by kernel_rfl) (by kernel_rfl) ⟨by kernel_rfl, rfl⟩ ⟨by kernel_rfl, .inr rfl⟩ (by kernel_rfl) (by kernel_rfl) (by rw [List.replicate_succ', List.map_append]; try rfl) (by simp only [List.length_map, List.length_append, List.length_take, List.length_drop, List.length_replicate, List.length_set, List.length_cons, List.length_nil]; omega) (by simp only [List.length_map, List.length_append, List.length_take, List.length_drop, List.length_replicate, List.length_set, List.length_cons, List.length_nil]; omega) ?_
    refine At.a 2 ?_
    refine At.done rfl ?_
    refine AW.region (At.start ?_)
    refine At.a 2 ?_
    refine At.sI 19 ((k : Int) + 1) (by omega) ?_
    refine At.a 1 ?_
    refine At.done rfl ?_
    exact ⟨k + 1, (by omega), (by omega), Sub.o [(0, 0), (1, 1), (2, 2), (3, 3), (4, 4), (102, 102), (104, 104), (126, 110), (131, 112), (5001, 5001), (5002, 5002), (5003, 5003), (5004, 5004), (5005, 5005)] [false, true, true, false, true, false, false, true]⟩
  · skip
    refine AW.exit ?_
    refine AW.seq ?_
    refine AW.r ?_
    refine At.a 1 ?_
    refine At.c (spec_l10End_spec  (⟨r.id, r.of_, 3, r.commit, r.hard, [], List.replicate k ((r.hard.log.length : Int) + 1), List.replicate k (0 : Int)⟩ : Raft) ) Tryz.call65 false [] [] [(0, 6, (r.hard.log.map encEnt)), (5005, 1, []), (110, 1, ((List.replicate k ((r.hard.log.length : Int) + 1)).map encI)), (112, 1, ((List.replicate k (0 : Int)).map encI))] ⟨rfl, ⟨45, (r.hard.log.map encEnt), by kernel_rfl, FrzIs.same (allP_encEnt _)⟩, rfl, ⟨3, [], by kernel_rfl, FrzIs.same (fun _ h => by cases h)⟩, rfl, ⟨3, ((List.replicate k ((r.hard.log.length : Int) + 1)).map encI), by kernel_rfl, FrzIs.same (allP_encI _)⟩, rfl, ⟨3, ((List.replicate k (0 : Int)).map encI), by kernel_rfl, FrzIs.same (allP_encI _)⟩, trivial⟩ ?_
    refine At.a 1 ?_
    refine At.done rfl ?_
    refine AW.condF (decide ((r.hard.log.length : Int) < 80)) (by kernel_rfl) (decide_eq_false (by omega)) ?_
    refine AW.skip ?_
    refine AW.seq ?_
    refine AW.regionD Tryz_mix (At.start ?_)
    refine At.a 5 ?_
    refine At.c (spec_l10End_spec  (⟨r.id, r.of_, 3, r.commit, r.hard, [], List.replicate k ((r.hard.log.length : Int) + 1), List.replicate k (0 : Int)⟩ : Raft) ) Tryz.call65 false [] [] [(0, 6, (r.hard.log.map encEnt)), (5005, 1, []), (110, 1, ((List.replicate k ((r.hard.log.length : Int) + 1)).map encI)), (112, 1, ((List.replicate k (0 : Int)).map encI))] ⟨rfl, ⟨45, (r.hard.log.map encEnt), by kernel_rfl, FrzIs.same (allP_encEnt _)⟩, rfl, ⟨3, [], by kernel_rfl, FrzIs.same (fun _ h => by cases h)⟩, rfl, ⟨3, ((List.replicate k ((r.hard.log.length : Int) + 1)).map encI), by kernel_rfl, FrzIs.same (allP_encI _)⟩, rfl, ⟨3, ((List.replicate k (0 : Int)).map encI), by kernel_rfl, FrzIs.same (allP_encI _)⟩, trivial⟩ ?_
    refine At.iRf 27 53 (.tmp 48) (.tmp 50) 112 ((List.replicate k (0 : Int)).map encI) .i64 r.id 3 1 (by omega) (by simp only [List.length_map, List.length_append, List.length_take, List.length_drop, List.length_replicate, List.length_set, List.length_cons, List.length_nil]; omega) ?_
    refine Exists.elim (show ∃ e, (List.replicate k (0 : Int))[(r.id).toNat]? = some e from ⟨_, List.getElem?_eq_getElem (by simp only [List.length_map, List.length_append, List.length_take, List.length_drop, List.length_replicate, List.length_set, List.length_cons, List.length_nil]; omega)⟩) fun e1 he1 => ?_
    refine At.sEl 3 112 3 1 ((r.id).toNat) 0 (.tmp 53) (.tmp 52) ((List.replicate k (0 : Int)).map encI) (((List.replicate k (0 : Int)).set ((r.id).toNat) (r.hard.log.length : Int)).map encI) [.int .i64 (r.hard.log.length : Int)] (.int .i64 (r.hard.log.length : Int)) (encI e1) (encI (r.hard.log.length : Int)) (mapGet he1) setV ?_
    refine At.done rfl ⟨by kernel_rfl, ?_⟩
    refine AW.seq ?_
    refine AW.r ?_
    refine At.a 3 ?_
    refine At.done rfl ?_
    refine AW.cE r.of_ (1 : Int) (fun h2 => ?_) (fun h2 => ?_)
    · skip
      refine AW.region (At.start ?_)
      refine At.a 1 ?_
      refine At.c (spec_l10End_spec  (⟨r.id, r.of_, 3, r.commit, r.hard, [], List.replicate k ((r.hard.log.length : Int) + 1), (List.replicate k (0 : Int)).set ((r.id).toNat) (r.hard.log.length : Int)⟩ : Raft) ) Tryz.call65 false [] [] [(0, 6, (r.hard.log.map encEnt)), (5005, 1, []), (110, 1, ((List.replicate k ((r.hard.log.length : Int) + 1)).map encI)), (112, 1, (((List.replicate k (0 : Int)).set ((r.id).toNat) (r.hard.log.length : Int)).map encI))] ⟨rfl, ⟨45, (r.hard.log.map encEnt), by kernel_rfl, FrzIs.same (allP_encEnt _)⟩, rfl, ⟨3, [], by kernel_rfl, FrzIs.same (fun _ h => by cases h)⟩, rfl, ⟨3, ((List.replicate k ((r.hard.log.length : Int) + 1)).map encI), by kernel_rfl, FrzIs.same (allP_encI _)⟩, rfl, ⟨3, (((List.replicate k (0 : Int)).set ((r.id).toNat) (r.hard.log.length : Int)).map encI), by kernel_rfl, FrzIs.same (allP_encI _)⟩, trivial⟩ ?_
      refine At.a 2 ?_
      refine At.done rfl ?_
      refine AW.seq ?_
      refine AW.regionD Tryz_mix (At.start ?_)
      refine At.a 3 ?_
      refine At.c (spec_l10SendAll_spec  (⟨r.id, r.of_, 3, (r.hard.log.length : Int), r.hard, [], List.replicate k ((r.hard.log.length : Int) + 1), (List.replicate k (0 : Int)).set ((r.id).toNat) (r.hard.log.length : Int)⟩ : Raft) (by unfold SmallR; simp only [List.length_append, List.length_set, List.length_replicate, List.length_cons, List.length_nil]; omega) (by dsimp only; omega) (by dsimp only; simp only [List.length_replicate]; omega) (nextOk_rep rfl ⟨by omega, by dsimp only; (try simp only [List.length_append]); omega⟩)) Tryz.call83 false [] [(2260, 0)] [(0, 6, (r.hard.log.map encEnt)), (5005, 1, []), (110, 1, ((List.replicate k ((r.hard.log.length : Int) + 1)).map encI)), (112, 1, (((List.replicate k (0 : Int)).set ((r.id).toNat) (r.hard.log.length : Int)).map encI))] ⟨rfl, ⟨45, (r.hard.log.map encEnt), by kernel_rfl, FrzIs.same (allP_encEnt _)⟩, rfl, ⟨3, [], by kernel_rfl, FrzIs.same (fun _ h => by cases h)⟩, rfl, ⟨3, ((List.replicate k ((r.hard.log.length : Int) + 1)).map encI), by kernel_rfl, FrzIs.same (allP_encI _)⟩, rfl, ⟨3, (((List.replicate k (0 : Int)).set ((r.id).toNat) (r.hard.log.length : Int)).map encI), by kernel_rfl, FrzIs.same (allP_encI _)⟩, trivial⟩ ?_
      refine At.a 3 ?_
      refine At.done rfl ⟨by kernel_rfl, ?_⟩
      refine AW.ret ?_
      refine ⟨_, Sub.refl _ _, ?_⟩
      refine KF.conv (fun w => .tup [.agg [.int .i64 w.id, .int .i64 w.of_, .int .i64 w.role, .int .i64 w.commit, .int .i64 w.hard.term, .int .i64 w.hard.vote, .ref 0, .ref 5, .ref 6, .ref 7], .ref 4, .ref 8]) (fun w => [.arr 45 6 (r.hard.log.map encEnt), .arr 3 1 (r.yes.map encI), .arr 3 1 (r.next.map encI), .arr 3 1 (r.match_.map encI), .arr 47 10 (recs.map encRec), .arr 3 1 (w.yes.map encI), .arr 3 1 (w.next.map encI), .arr 3 1 (w.match_.map encI), .arr 51 17 ((sendAll (leadR r)).map encOut)]) (show ((⟨r.id, r.of_, 3, (r.hard.log.length : Int), r.hard, [], List.replicate k ((r.hard.log.length : Int) + 1), (List.replicate k (0 : Int)).set ((r.id).toNat) (r.hard.log.length : Int)⟩ : Raft)) = (leadR r) from by obtain rfl : k = r.of_.toNat := (by omega); have hlt2 := hlt; simp [leadR, leadRecs, had, put, lead0, noneE, putRec, hlt2, h1, h2]) ?_
      refine KF.conv (fun w => .tup [.agg [.int .i64 r.id, .int .i64 r.of_, .int .i64 3, .int .i64 (r.hard.log.length : Int), .int .i64 r.hard.term, .int .i64 r.hard.vote, .ref 0, .ref 5, .ref 6, .ref 7], .ref 4, .ref 8]) (fun w => [.arr 45 6 (r.hard.log.map encEnt), .arr 3 1 (r.yes.map encI), .arr 3 1 (r.next.map encI), .arr 3 1 (r.match_.map encI), .arr 47 10 (recs.map encRec), .arr 3 1 [], .arr 3 1 ((List.replicate k ((r.hard.log.length : Int) + 1)).map encI), .arr 3 1 (((List.replicate k (0 : Int)).set ((r.id).toNat) (r.hard.log.length : Int)).map encI), .arr 51 17 ((sendAll (leadR r)).map encOut)]) (show (recs) = (recs ++ leadRecs r) from by obtain rfl : k = r.of_.toNat := (by omega); have hlt2 := hlt; simp [leadR, leadRecs, had, put, lead0, noneE, putRec, hlt2, h1, h2]) ?_
      refine KF.conv (fun w => .tup [.agg [.int .i64 r.id, .int .i64 r.of_, .int .i64 3, .int .i64 (r.hard.log.length : Int), .int .i64 r.hard.term, .int .i64 r.hard.vote, .ref 0, .ref 5, .ref 6, .ref 7], .ref 4, .ref 8]) (fun w => [.arr 45 6 (r.hard.log.map encEnt), .arr 3 1 (r.yes.map encI), .arr 3 1 (r.next.map encI), .arr 3 1 (r.match_.map encI), .arr 47 10 (recs.map encRec), .arr 3 1 [], .arr 3 1 ((List.replicate k ((r.hard.log.length : Int) + 1)).map encI), .arr 3 1 (((List.replicate k (0 : Int)).set ((r.id).toNat) (r.hard.log.length : Int)).map encI), .arr 51 17 (w.map encOut)]) (show (sendAll (⟨r.id, r.of_, 3, (r.hard.log.length : Int), r.hard, [], List.replicate k ((r.hard.log.length : Int) + 1), (List.replicate k (0 : Int)).set ((r.id).toNat) (r.hard.log.length : Int)⟩ : Raft)) = (sendAll (leadR r)) from by obtain rfl : k = r.of_.toNat := (by omega); have hlt2 := hlt; simp [leadR, leadRecs, had, put, lead0, noneE, putRec, hlt2, h1, h2]) ?_
      exact KF.m [(0, 0), (1, 1), (2, 2), (3, 3), (4, 4), (5005, 5), (110, 6), (112, 7), (2260, 8)] [.agg [.int .i64 r.id, .int .i64 r.of_, .int .i64 3, .int .i64 (r.hard.log.length : Int), .int .i64 r.hard.term, .int .i64 r.hard.vote, .ref 0, .ref 5005, .ref 110, .ref 112], .ref 4, .ref 2260]
    · skip
      refine AW.skip ?_
      refine AW.seq ?_
      refine AW.regionD Tryz_mix (At.start ?_)
      refine At.a 3 ?_
      refine At.c (spec_l10SendAll_spec  (⟨r.id, r.of_, 3, r.commit, r.hard, [], List.replicate k ((r.hard.log.length : Int) + 1), (List.replicate k (0 : Int)).set ((r.id).toNat) (r.hard.log.length : Int)⟩ : Raft) (by unfold SmallR; simp only [List.length_append, List.length_set, List.length_replicate, List.length_cons, List.length_nil]; omega) (by dsimp only; omega) (by dsimp only; simp only [List.length_replicate]; omega) (nextOk_rep rfl ⟨by omega, by dsimp only; (try simp only [List.length_append]); omega⟩)) Tryz.call83 false [] [(2260, 0)] [(0, 6, (r.hard.log.map encEnt)), (5005, 1, []), (110, 1, ((List.replicate k ((r.hard.log.length : Int) + 1)).map encI)), (112, 1, (((List.replicate k (0 : Int)).set ((r.id).toNat) (r.hard.log.length : Int)).map encI))] ⟨rfl, ⟨45, (r.hard.log.map encEnt), by kernel_rfl, FrzIs.same (allP_encEnt _)⟩, rfl, ⟨3, [], by kernel_rfl, FrzIs.same (fun _ h => by cases h)⟩, rfl, ⟨3, ((List.replicate k ((r.hard.log.length : Int) + 1)).map encI), by kernel_rfl, FrzIs.same (allP_encI _)⟩, rfl, ⟨3, (((List.replicate k (0 : Int)).set ((r.id).toNat) (r.hard.log.length : Int)).map encI), by kernel_rfl, FrzIs.same (allP_encI _)⟩, trivial⟩ ?_
      refine At.a 3 ?_
      refine At.done rfl ⟨by kernel_rfl, ?_⟩
      refine AW.ret ?_
      refine ⟨_, Sub.refl _ _, ?_⟩
      refine KF.conv (fun w => .tup [.agg [.int .i64 w.id, .int .i64 w.of_, .int .i64 w.role, .int .i64 w.commit, .int .i64 w.hard.term, .int .i64 w.hard.vote, .ref 0, .ref 5, .ref 6, .ref 7], .ref 4, .ref 8]) (fun w => [.arr 45 6 (r.hard.log.map encEnt), .arr 3 1 (r.yes.map encI), .arr 3 1 (r.next.map encI), .arr 3 1 (r.match_.map encI), .arr 47 10 (recs.map encRec), .arr 3 1 (w.yes.map encI), .arr 3 1 (w.next.map encI), .arr 3 1 (w.match_.map encI), .arr 51 17 ((sendAll (leadR r)).map encOut)]) (show ((⟨r.id, r.of_, 3, r.commit, r.hard, [], List.replicate k ((r.hard.log.length : Int) + 1), (List.replicate k (0 : Int)).set ((r.id).toNat) (r.hard.log.length : Int)⟩ : Raft)) = (leadR r) from by obtain rfl : k = r.of_.toNat := (by omega); have hlt2 := hlt; simp [leadR, leadRecs, had, put, lead0, noneE, putRec, hlt2, h1, h2]) ?_
      refine KF.conv (fun w => .tup [.agg [.int .i64 r.id, .int .i64 r.of_, .int .i64 3, .int .i64 r.commit, .int .i64 r.hard.term, .int .i64 r.hard.vote, .ref 0, .ref 5, .ref 6, .ref 7], .ref 4, .ref 8]) (fun w => [.arr 45 6 (r.hard.log.map encEnt), .arr 3 1 (r.yes.map encI), .arr 3 1 (r.next.map encI), .arr 3 1 (r.match_.map encI), .arr 47 10 (recs.map encRec), .arr 3 1 [], .arr 3 1 ((List.replicate k ((r.hard.log.length : Int) + 1)).map encI), .arr 3 1 (((List.replicate k (0 : Int)).set ((r.id).toNat) (r.hard.log.length : Int)).map encI), .arr 51 17 ((sendAll (leadR r)).map encOut)]) (show (recs) = (recs ++ leadRecs r) from by obtain rfl : k = r.of_.toNat := (by omega); have hlt2 := hlt; simp [leadR, leadRecs, had, put, lead0, noneE, putRec, hlt2, h1, h2]) ?_
      refine KF.conv (fun w => .tup [.agg [.int .i64 r.id, .int .i64 r.of_, .int .i64 3, .int .i64 r.commit, .int .i64 r.hard.term, .int .i64 r.hard.vote, .ref 0, .ref 5, .ref 6, .ref 7], .ref 4, .ref 8]) (fun w => [.arr 45 6 (r.hard.log.map encEnt), .arr 3 1 (r.yes.map encI), .arr 3 1 (r.next.map encI), .arr 3 1 (r.match_.map encI), .arr 47 10 (recs.map encRec), .arr 3 1 [], .arr 3 1 ((List.replicate k ((r.hard.log.length : Int) + 1)).map encI), .arr 3 1 (((List.replicate k (0 : Int)).set ((r.id).toNat) (r.hard.log.length : Int)).map encI), .arr 51 17 (w.map encOut)]) (show (sendAll (⟨r.id, r.of_, 3, r.commit, r.hard, [], List.replicate k ((r.hard.log.length : Int) + 1), (List.replicate k (0 : Int)).set ((r.id).toNat) (r.hard.log.length : Int)⟩ : Raft)) = (sendAll (leadR r)) from by obtain rfl : k = r.of_.toNat := (by omega); have hlt2 := hlt; simp [leadR, leadRecs, had, put, lead0, noneE, putRec, hlt2, h1, h2]) ?_
      exact KF.m [(0, 0), (1, 1), (2, 2), (3, 3), (4, 4), (5005, 5), (110, 6), (112, 7), (2260, 8)] [.agg [.int .i64 r.id, .int .i64 r.of_, .int .i64 3, .int .i64 r.commit, .int .i64 r.hard.term, .int .i64 r.hard.vote, .ref 0, .ref 5005, .ref 110, .ref 112], .ref 4, .ref 2260]
set_option maxRecDepth 100000 in
set_option maxHeartbeats 4000000 in
theorem spec_OnYes_spec  (r : Raft) (m : Msg) (hz : SmallR r) (hm : m.entries.length ≤ 1048576) : FnSpec Tryz.prog 54 [.agg [.int .i64 r.id, .int .i64 r.of_, .int .i64 r.role, .int .i64 r.commit, .int .i64 r.hard.term, .int .i64 r.hard.vote, .sl false 6 (r.hard.log.map encEnt), .sl false 1 (r.yes.map encI), .sl false 1 (r.next.map encI), .sl false 1 (r.match_.map encI)], .agg [.int .i64 m.kind, .int .i64 m.from_, .int .i64 m.term, .int .i64 m.at_, .int .i64 m.atTerm, .int .i64 m.commit, .bool m.yes, .int .i64 m.release, .int .i64 m.part, .str m.bytes, .int .i64 m.cmd.kind, .int .i64 m.cmd.release, .int .i64 m.cmd.node, .int .i64 m.cmd.size, .str m.cmd.digest, .sl false 6 (m.entries.map encEnt)]] [] (.tup [.agg [.int .i64 (((yess r m).1).id), .int .i64 (((yess r m).1).of_), .int .i64 (((yess r m).1).role), .int .i64 (((yess r m).1).commit), .int .i64 (((yess r m).1).hard.term), .int .i64 (((yess r m).1).hard.vote), .ref 0, .ref 1, .ref 2, .ref 3], .ref 4, .ref 5]) [.arr 45 6 ((((yess r m).1).hard.log).map encEnt), .arr 3 1 ((((yess r m).1).yes).map encI), .arr 3 1 ((((yess r m).1).next).map encI), .arr 3 1 ((((yess r m).1).match_).map encI), .arr 47 10 (((yess r m).2.1).map encRec), .arr 51 17 (((yess r m).2.2).map encOut)] := by
  obtain ⟨z1, z2, z3, z4⟩ := id hz
  refine FnSpec.of 80 Tryz.func54 rfl Tryz.ntmps54 (by simp) (AW.weakK ?_)
  by_cases hok : raftOk r = true
  · skip
    have hokn := raftOk1_nums (raftOk_1 hok)
    refine AW.r ?_
    refine At.a 5 ?_
    refine At.done rfl ?_
    refine AW.seq ?_
    refine AW.weak (Sub.nils [⟨true, 104, some 6, 5001, 45, 6⟩, ⟨true, 104, some 7, 5002, 3, 1⟩, ⟨true, 104, some 8, 5003, 3, 1⟩, ⟨true, 104, some 9, 5004, 3, 1⟩] (by kernel_rfl)) ?_
    refine AW.region (At.start ?_)
    refine At.a 1 ?_
    refine At.c (spec_l10Same_T_spec  r (by exact hz) hok) Tryz.call97 true [] [(1220, 0), (1221, 1), (1222, 2), (1223, 3)] [] trivial ?_
    refine At.lit0 (t := 37) (d := 12) (e := 47) (es := 10) (bytes := 88) 112 (by kernel_rfl) (by kernel_rfl) (by kernel_rfl) (by kernel_rfl) ?_
    refine At.lit0 (t := 38) (d := 13) (e := 51) (es := 17) (bytes := 168) 113 (by kernel_rfl) (by kernel_rfl) (by kernel_rfl) (by kernel_rfl) ?_
    refine At.a 4 ?_
    refine At.done rfl ?_
    refine AW.seq ?_
    refine AW.r ?_
    refine At.a 2 ?_
    refine At.c (spec_l10Hears_spec  r m 2 (by exact hz) hm) Tryz.call108 true [] [] [] trivial ?_
    refine At.a 1 ?_
    refine At.done rfl ?_
    refine AW.cNB (hears r m 2) (fun h1 => ?_) (fun h1 => ?_)
    · skip
      refine AW.r ?_
      refine At.a 6 ?_
      refine At.done rfl ?_
      refine AW.ret ?_
      refine ⟨_, Sub.refl _ _, ?_⟩
      refine KF.conv (fun w => .tup [.agg [.int .i64 w.id, .int .i64 w.of_, .int .i64 w.role, .int .i64 w.commit, .int .i64 w.hard.term, .int .i64 w.hard.vote, .ref 0, .ref 1, .ref 2, .ref 3], .ref 4, .ref 5]) (fun w => [.arr 45 6 (w.hard.log.map encEnt), .arr 3 1 (w.yes.map encI), .arr 3 1 (w.next.map encI), .arr 3 1 (w.match_.map encI), .arr 47 10 (((yess r m).2.1).map encRec), .arr 51 17 (((yess r m).2.2).map encOut)]) (show (r) = ((yess r m).1) from by rw [yess_un (by assumption) hok]; first | done | rfl | (simp only [leadRecs]; rw [if_neg (by assumption)]; done) | (rw [endRecs_ne (by dsimp only; omega)]; rfl) | (rw [endRecs_eq rfl rfl]; done) | (rw [endRecs_eq rfl rfl]; rfl) | (rw [endRecs_eq (by dsimp only; exact leadR_term _) (by dsimp only; exact leadR_vote _)]; first | done | rfl) | (simp only [leadR, if_neg (by assumption)]; rfl) | (rw [endRecs_eq (by dsimp only; first | rfl | exact leadR_term _) (by dsimp only; first | rfl | exact leadR_vote _)]; first | done | rfl)) ?_
      refine KF.conv (fun w => .tup [.agg [.int .i64 r.id, .int .i64 r.of_, .int .i64 r.role, .int .i64 r.commit, .int .i64 r.hard.term, .int .i64 r.hard.vote, .ref 0, .ref 1, .ref 2, .ref 3], .ref 4, .ref 5]) (fun w => [.arr 45 6 (r.hard.log.map encEnt), .arr 3 1 (r.yes.map encI), .arr 3 1 (r.next.map encI), .arr 3 1 (r.match_.map encI), .arr 47 10 (w.map encRec), .arr 51 17 (((yess r m).2.2).map encOut)]) (show ([]) = ((yess r m).2.1) from by rw [yess_un (by assumption) hok]; first | done | rfl | (simp only [leadRecs]; rw [if_neg (by assumption)]; done) | (rw [endRecs_ne (by dsimp only; omega)]; rfl) | (rw [endRecs_eq rfl rfl]; done) | (rw [endRecs_eq rfl rfl]; rfl) | (rw [endRecs_eq (by dsimp only; exact leadR_term _) (by dsimp only; exact leadR_vote _)]; first | done | rfl) | (simp only [leadR, if_neg (by assumption)]; rfl) | (rw [endRecs_eq (by dsimp only; first | rfl | exact leadR_term _) (by dsimp only; first | rfl | exact leadR_vote _)]; first | done | rfl)) ?_
      refine KF.conv (fun w => .tup [.agg [.int .i64 r.id, .int .i64 r.of_, .int .i64 r.role, .int .i64 r.commit, .int .i64 r.hard.term, .int .i64 r.hard.vote, .ref 0, .ref 1, .ref 2, .ref 3], .ref 4, .ref 5]) (fun w => [.arr 45 6 (r.hard.log.map encEnt), .arr 3 1 (r.yes.map encI), .arr 3 1 (r.next.map encI), .arr 3 1 (r.match_.map encI), .arr 47 10 [], .arr 51 17 (w.map encOut)]) (show ([]) = ((yess r m).2.2) from by rw [yess_un (by assumption) hok]; first | done | rfl | (simp only [leadRecs]; rw [if_neg (by assumption)]; done) | (rw [endRecs_ne (by dsimp only; omega)]; rfl) | (rw [endRecs_eq rfl rfl]; done) | (rw [endRecs_eq rfl rfl]; rfl) | (rw [endRecs_eq (by dsimp only; exact leadR_term _) (by dsimp only; exact leadR_vote _)]; first | done | rfl) | (simp only [leadR, if_neg (by assumption)]; rfl) | (rw [endRecs_eq (by dsimp only; first | rfl | exact leadR_term _) (by dsimp only; first | rfl | exact leadR_vote _)]; first | done | rfl)) ?_
      exact KF.m [(1220, 0), (1221, 1), (1222, 2), (1223, 3), (112, 4), (113, 5)] [.agg [.int .i64 r.id, .int .i64 r.of_, .int .i64 r.role, .int .i64 r.commit, .int .i64 r.hard.term, .int .i64 r.hard.vote, .ref 1220, .ref 1221, .ref 1222, .ref 1223], .ref 112, .ref 113]
    · skip
      have hhr := hears_ok h1
      have hnu := msgFits_nums hhr.2.1
      have hpy := raftOk_pair hok
      have hpl := putA_len m.from_ r.yes
      refine AW.skip ?_
      refine AW.seq ?_
      refine AW.r ?_
      refine At.a 6 ?_
      refine At.done rfl ?_
      refine AW.cD (m.term > r.hard.term) (fun h2 => ?_) (fun h2 => ?_)
      · skip
        refine AW.r ?_
        refine At.a 3 ?_
        refine At.c (spec_l10Follow_spec  r m.term ) Tryz.call109 true [(1220, 0), (1221, 1), (1222, 2), (1223, 3)] [(1600, 4), (1601, 5), (1602, 6)] [] trivial ?_
        refine At.a 1 ?_
        refine At.done rfl ?_
        refine AW.seq ?_
        refine AW.regionD Tryz_mix (At.start ?_)
        refine At.a 3 ?_
        refine At.c (spec_l10Vote_spec  (⟨r.id, r.of_, 1, r.commit, ⟨m.term, 0, r.hard.log⟩, [], [], []⟩ : Raft) ) Tryz.call98 false [] [] [(1220, 6, (r.hard.log.map encEnt)), (1600, 1, []), (1601, 1, []), (1602, 1, [])] ⟨rfl, ⟨45, (r.hard.log.map encEnt), by kernel_rfl, FrzIs.same (allP_encEnt _)⟩, rfl, ⟨3, [], by kernel_rfl, FrzIs.same (fun _ h => by cases h)⟩, rfl, ⟨3, [], by kernel_rfl, FrzIs.same (fun _ h => by cases h)⟩, rfl, ⟨3, [], by kernel_rfl, FrzIs.same (fun _ h => by cases h)⟩, trivial⟩ ?_
        refine At.litK (t := 37) (d := 35) (e := 47) (es := 10) (bytes := 88) (n := 1) (parts := #[(0, .tmp 34)]) (45, 6) 135 [] [.int .i64 1, .int .i64 m.term, .int .i64 0, .int .i64 0, .int .i64 0, .int .i64 0, .int .i64 0, .int .i64 0, .int .i64 0, .str (⟨#[]⟩ : ByteArray)] [.int .i64 1, .int .i64 m.term, .int .i64 0, .int .i64 0, .int .i64 0, .int .i64 0, .int .i64 0, .int .i64 0, .int .i64 0, .str (⟨#[]⟩ : ByteArray)] [.int .i64 0, .int .i64 0, .int .i64 0, .int .i64 0, .int .i64 0, .int .i64 0, .int .i64 0, .int .i64 0, .int .i64 0, .str (⟨#[]⟩ : ByteArray)] [.agg [.int .i64 1, .int .i64 m.term, .int .i64 0, .int .i64 0, .int .i64 0, .int .i64 0, .int .i64 0, .int .i64 0, .int .i64 0, .str (⟨#[]⟩ : ByteArray)]] [] (by kernel_rfl) (by kernel_rfl) (by kernel_rfl) (by kernel_rfl) rfl (fun p hp => by cases hp) (by kernel_rfl) ?_
        refine At.append (t := 37) (d := 36) (e := 47) (es := 10) (bytes := 88) (s := .tmp 32) (x := .tmp 35) (S := .ref 112) (T := .ref 135) (xs := []) (ys := (([(⟨1, m.term, 0, 0, ⟨0, ⟨0, 0, 0, 0, (⟨#[]⟩ : ByteArray)⟩⟩⟩ : Rec)]).map encRec)) 136 [112] [135] (([(⟨1, m.term, 0, 0, ⟨0, ⟨0, 0, 0, 0, (⟨#[]⟩ : ByteArray)⟩⟩⟩ : Rec)]).map encRec) (by kernel_rfl) (by kernel_rfl) (by kernel_rfl) (by kernel_rfl) ⟨by kernel_rfl, rfl⟩ ⟨by kernel_rfl, .inr rfl⟩ (by kernel_rfl) (by kernel_rfl) (by simp) (by simp only [List.length_map, List.length_append, List.length_take, List.length_drop, List.length_replicate, List.length_set, List.length_cons, List.length_nil]; omega) (by simp only [List.length_map, List.length_append, List.length_take, List.length_drop, List.length_replicate, List.length_set, List.length_cons, List.length_nil]; omega) ?_
        refine At.a 4 ?_
        refine At.done rfl ⟨by kernel_rfl, ?_⟩
        refine AW.ret ?_
        refine ⟨_, Sub.refl _ _, ?_⟩
        refine KF.conv (fun w => .tup [.agg [.int .i64 w.id, .int .i64 w.of_, .int .i64 w.role, .int .i64 w.commit, .int .i64 w.hard.term, .int .i64 w.hard.vote, .ref 0, .ref 1, .ref 2, .ref 3], .ref 4, .ref 5]) (fun w => [.arr 45 6 (w.hard.log.map encEnt), .arr 3 1 (w.yes.map encI), .arr 3 1 (w.next.map encI), .arr 3 1 (w.match_.map encI), .arr 47 10 (((yess r m).2.1).map encRec), .arr 51 17 (((yess r m).2.2).map encOut)]) (show ((⟨r.id, r.of_, 1, r.commit, ⟨m.term, 0, r.hard.log⟩, [], [], []⟩ : Raft)) = ((yess r m).1) from by rw [yess_term h1 (by omega)]; first | done | rfl | (simp only [leadRecs]; rw [if_neg (by assumption)]; done) | (rw [endRecs_ne (by dsimp only; omega)]; rfl) | (rw [endRecs_eq rfl rfl]; done) | (rw [endRecs_eq rfl rfl]; rfl) | (rw [endRecs_eq (by dsimp only; exact leadR_term _) (by dsimp only; exact leadR_vote _)]; first | done | rfl) | (simp only [leadR, if_neg (by assumption)]; rfl) | (rw [endRecs_eq (by dsimp only; first | rfl | exact leadR_term _) (by dsimp only; first | rfl | exact leadR_vote _)]; first | done | rfl)) ?_
        refine KF.conv (fun w => .tup [.agg [.int .i64 r.id, .int .i64 r.of_, .int .i64 1, .int .i64 r.commit, .int .i64 m.term, .int .i64 0, .ref 0, .ref 1, .ref 2, .ref 3], .ref 4, .ref 5]) (fun w => [.arr 45 6 (r.hard.log.map encEnt), .arr 3 1 [], .arr 3 1 [], .arr 3 1 [], .arr 47 10 (w.map encRec), .arr 51 17 (((yess r m).2.2).map encOut)]) (show ([(⟨1, m.term, 0, 0, ⟨0, ⟨0, 0, 0, 0, (⟨#[]⟩ : ByteArray)⟩⟩⟩ : Rec)]) = ((yess r m).2.1) from by rw [yess_term h1 (by omega)]; first | done | rfl | (simp only [leadRecs]; rw [if_neg (by assumption)]; done) | (rw [endRecs_ne (by dsimp only; omega)]; rfl) | (rw [endRecs_eq rfl rfl]; done) | (rw [endRecs_eq rfl rfl]; rfl) | (rw [endRecs_eq (by dsimp only; exact leadR_term _) (by dsimp only; exact leadR_vote _)]; first | done | rfl) | (simp only [leadR, if_neg (by assumption)]; rfl) | (rw [endRecs_eq (by dsimp only; first | rfl | exact leadR_term _) (by dsimp only; first | rfl | exact leadR_vote _)]; first | done | rfl)) ?_
        refine KF.conv (fun w => .tup [.agg [.int .i64 r.id, .int .i64 r.of_, .int .i64 1, .int .i64 r.commit, .int .i64 m.term, .int .i64 0, .ref 0, .ref 1, .ref 2, .ref 3], .ref 4, .ref 5]) (fun w => [.arr 45 6 (r.hard.log.map encEnt), .arr 3 1 [], .arr 3 1 [], .arr 3 1 [], .arr 47 10 (([(⟨1, m.term, 0, 0, ⟨0, ⟨0, 0, 0, 0, (⟨#[]⟩ : ByteArray)⟩⟩⟩ : Rec)]).map encRec), .arr 51 17 (w.map encOut)]) (show ([]) = ((yess r m).2.2) from by rw [yess_term h1 (by omega)]; first | done | rfl | (simp only [leadRecs]; rw [if_neg (by assumption)]; done) | (rw [endRecs_ne (by dsimp only; omega)]; rfl) | (rw [endRecs_eq rfl rfl]; done) | (rw [endRecs_eq rfl rfl]; rfl) | (rw [endRecs_eq (by dsimp only; exact leadR_term _) (by dsimp only; exact leadR_vote _)]; first | done | rfl) | (simp only [leadR, if_neg (by assumption)]; rfl) | (rw [endRecs_eq (by dsimp only; first | rfl | exact leadR_term _) (by dsimp only; first | rfl | exact leadR_vote _)]; first | done | rfl)) ?_
        exact KF.m [(1220, 0), (1600, 1), (1601, 2), (1602, 3), (136, 4), (113, 5)] [.agg [.int .i64 r.id, .int .i64 r.of_, .int .i64 1, .int .i64 r.commit, .int .i64 m.term, .int .i64 0, .ref 1220, .ref 1600, .ref 1601, .ref 1602], .ref 136, .ref 113]
      · skip
        refine AW.skip ?_
        refine AW.seq ?_
        refine AW.r ?_
        refine At.a 4 ?_
        by_cases h3 : r.role = 2
        · refine At.sB 41 (r.role != 2) false (sayUF h3) ?_
          refine At.a 8 ?_
          by_cases h4 : m.term = r.hard.term
          · refine At.sB 49 (m.term != r.hard.term) false (sayUF h4) ?_
            refine At.a 4 ?_
            refine At.done rfl ?_
            refine AW.cNB (m.yes) (fun h5 => ?_) (fun h5 => ?_)
            · skip
              refine AW.r ?_
              refine At.a 6 ?_
              refine At.done rfl ?_
              refine AW.ret ?_
              refine ⟨_, Sub.refl _ _, ?_⟩
              refine KF.conv (fun w => .tup [.agg [.int .i64 w.id, .int .i64 w.of_, .int .i64 w.role, .int .i64 w.commit, .int .i64 w.hard.term, .int .i64 w.hard.vote, .ref 0, .ref 1, .ref 2, .ref 3], .ref 4, .ref 5]) (fun w => [.arr 45 6 (w.hard.log.map encEnt), .arr 3 1 (w.yes.map encI), .arr 3 1 (w.next.map encI), .arr 3 1 (w.match_.map encI), .arr 47 10 (((yess r m).2.1).map encRec), .arr 51 17 (((yess r m).2.2).map encOut)]) (show (r) = ((yess r m).1) from by rw [yess_not h1 (by omega) (by first | exact .inl (by omega) | exact .inr (.inl (by omega)) | exact .inr (.inr (by assumption)))]; first | done | rfl | (simp only [leadRecs]; rw [if_neg (by assumption)]; done) | (rw [endRecs_ne (by dsimp only; omega)]; rfl) | (rw [endRecs_eq rfl rfl]; done) | (rw [endRecs_eq rfl rfl]; rfl) | (rw [endRecs_eq (by dsimp only; exact leadR_term _) (by dsimp only; exact leadR_vote _)]; first | done | rfl) | (simp only [leadR, if_neg (by assumption)]; rfl) | (rw [endRecs_eq (by dsimp only; first | rfl | exact leadR_term _) (by dsimp only; first | rfl | exact leadR_vote _)]; first | done | rfl)) ?_
              refine KF.conv (fun w => .tup [.agg [.int .i64 r.id, .int .i64 r.of_, .int .i64 r.role, .int .i64 r.commit, .int .i64 r.hard.term, .int .i64 r.hard.vote, .ref 0, .ref 1, .ref 2, .ref 3], .ref 4, .ref 5]) (fun w => [.arr 45 6 (r.hard.log.map encEnt), .arr 3 1 (r.yes.map encI), .arr 3 1 (r.next.map encI), .arr 3 1 (r.match_.map encI), .arr 47 10 (w.map encRec), .arr 51 17 (((yess r m).2.2).map encOut)]) (show ([]) = ((yess r m).2.1) from by rw [yess_not h1 (by omega) (by first | exact .inl (by omega) | exact .inr (.inl (by omega)) | exact .inr (.inr (by assumption)))]; first | done | rfl | (simp only [leadRecs]; rw [if_neg (by assumption)]; done) | (rw [endRecs_ne (by dsimp only; omega)]; rfl) | (rw [endRecs_eq rfl rfl]; done) | (rw [endRecs_eq rfl rfl]; rfl) | (rw [endRecs_eq (by dsimp only; exact leadR_term _) (by dsimp only; exact leadR_vote _)]; first | done | rfl) | (simp only [leadR, if_neg (by assumption)]; rfl) | (rw [endRecs_eq (by dsimp only; first | rfl | exact leadR_term _) (by dsimp only; first | rfl | exact leadR_vote _)]; first | done | rfl)) ?_
              refine KF.conv (fun w => .tup [.agg [.int .i64 r.id, .int .i64 r.of_, .int .i64 r.role, .int .i64 r.commit, .int .i64 r.hard.term, .int .i64 r.hard.vote, .ref 0, .ref 1, .ref 2, .ref 3], .ref 4, .ref 5]) (fun w => [.arr 45 6 (r.hard.log.map encEnt), .arr 3 1 (r.yes.map encI), .arr 3 1 (r.next.map encI), .arr 3 1 (r.match_.map encI), .arr 47 10 [], .arr 51 17 (w.map encOut)]) (show ([]) = ((yess r m).2.2) from by rw [yess_not h1 (by omega) (by first | exact .inl (by omega) | exact .inr (.inl (by omega)) | exact .inr (.inr (by assumption)))]; first | done | rfl | (simp only [leadRecs]; rw [if_neg (by assumption)]; done) | (rw [endRecs_ne (by dsimp only; omega)]; rfl) | (rw [endRecs_eq rfl rfl]; done) | (rw [endRecs_eq rfl rfl]; rfl) | (rw [endRecs_eq (by dsimp only; exact leadR_term _) (by dsimp only; exact leadR_vote _)]; first | done | rfl) | (simp only [leadR, if_neg (by assumption)]; rfl) | (rw [endRecs_eq (by dsimp only; first | rfl | exact leadR_term _) (by dsimp only; first | rfl | exact leadR_vote _)]; first | done | rfl)) ?_
              exact KF.m [(1220, 0), (1221, 1), (1222, 2), (1223, 3), (112, 4), (113, 5)] [.agg [.int .i64 r.id, .int .i64 r.of_, .int .i64 r.role, .int .i64 r.commit, .int .i64 r.hard.term, .int .i64 r.hard.vote, .ref 1220, .ref 1221, .ref 1222, .ref 1223], .ref 112, .ref 113]
            · skip
              refine AW.skip ?_
              refine AW.r ?_
              refine At.a 4 ?_
              refine At.c (spec_l7Put_spec  r.yes m.from_ (by omega) hpy.1) Tryz.call139 false [] [(2220, 0)] [(1221, 1, (r.yes.map encI))] ⟨rfl, ⟨3, (r.yes.map encI), by kernel_rfl, FrzIs.same (allP_encI _)⟩, trivial⟩ ?_
              refine At.a 2 ?_
              refine At.done rfl ?_
              refine AW.seq ?_
              refine AW.r ?_
              refine At.a 3 ?_
              refine At.sL 65 encI (putA m.from_ r.yes) ?_
              refine At.a 1 ?_
              refine At.sI 66 (((putA m.from_ r.yes).length : Int) + 1) (by omega) ?_
              refine At.a 1 ?_
              refine At.sI 67 (2 * (((putA m.from_ r.yes).length : Int) + 1)) (by omega) ?_
              refine At.a 3 ?_
              refine At.done rfl ?_
              refine AW.cD ((2 * (((putA m.from_ r.yes).length : Int) + 1)) > r.of_) (fun h6 => ?_) (fun h6 => ?_)
              · skip
                refine AW.r ?_
                refine At.a 2 ?_
                by_cases h7 : r.hard.log.length < 80
                · skip
                  refine At.c (spec_l10Lead_T_spec  (⟨r.id, r.of_, r.role, r.commit, r.hard, putA m.from_ r.yes, r.next, r.match_⟩ : Raft) ([]) (by have q := putA_len m.from_ (putA m.from_ r.yes); unfold SmallR; dsimp only; omega) (by dsimp only; omega) (by dsimp only; omega) (by simp; done) h7) Tryz.call99 true [(1220, 0), (2220, 1), (1222, 2), (1223, 3), (112, 4)] [(2460, 5), (2461, 6), (2462, 7), (2463, 8), (2464, 9), (2465, 10)] [] trivial ?_
                  refine At.a 6 ?_
                  refine At.done rfl ?_
                  refine AW.ret ?_
                  refine ⟨_, Sub.refl _ _, ?_⟩
                  refine KF.conv (fun w => .tup [.agg [.int .i64 w.id, .int .i64 w.of_, .int .i64 w.role, .int .i64 w.commit, .int .i64 w.hard.term, .int .i64 w.hard.vote, .ref 0, .ref 1, .ref 2, .ref 3], .ref 4, .ref 5]) (fun w => [.arr 45 6 (w.hard.log.map encEnt), .arr 3 1 (w.yes.map encI), .arr 3 1 (w.next.map encI), .arr 3 1 (w.match_.map encI), .arr 47 10 (((yess r m).2.1).map encRec), .arr 51 17 (((yess r m).2.2).map encOut)]) (show ((leadR (⟨r.id, r.of_, r.role, r.commit, r.hard, putA m.from_ r.yes, r.next, r.match_⟩ : Raft))) = ((yess r m).1) from by rw [yess_lead h1 (by omega) (by omega) (by omega) (by assumption) (by first | omega | (rw [hpa]; omega) | (rw [← hpa]; omega))]; first | first | done | rfl | (simp only [leadRecs]; rw [if_neg (by assumption)]; done) | (rw [endRecs_ne (by dsimp only; omega)]; rfl) | (rw [endRecs_eq rfl rfl]; done) | (rw [endRecs_eq rfl rfl]; rfl) | (rw [endRecs_eq (by dsimp only; exact leadR_term _) (by dsimp only; exact leadR_vote _)]; first | done | rfl) | (simp only [leadR, if_neg (by assumption)]; rfl) | (rw [endRecs_eq (by dsimp only; first | rfl | exact leadR_term _) (by dsimp only; first | rfl | exact leadR_vote _)]; first | done | rfl) | (rw [hpa]; first | done | rfl | (simp only [leadRecs]; rw [if_neg (by assumption)]; done) | (rw [endRecs_ne (by dsimp only; omega)]; rfl) | (rw [endRecs_eq rfl rfl]; done) | (rw [endRecs_eq rfl rfl]; rfl) | (rw [endRecs_eq (by dsimp only; exact leadR_term _) (by dsimp only; exact leadR_vote _)]; first | done | rfl) | (simp only [leadR, if_neg (by assumption)]; rfl) | (rw [endRecs_eq (by dsimp only; first | rfl | exact leadR_term _) (by dsimp only; first | rfl | exact leadR_vote _)]; first | done | rfl)) | (rw [← hpa]; first | done | rfl | (simp only [leadRecs]; rw [if_neg (by assumption)]; done) | (rw [endRecs_ne (by dsimp only; omega)]; rfl) | (rw [endRecs_eq rfl rfl]; done) | (rw [endRecs_eq rfl rfl]; rfl) | (rw [endRecs_eq (by dsimp only; exact leadR_term _) (by dsimp only; exact leadR_vote _)]; first | done | rfl) | (simp only [leadR, if_neg (by assumption)]; rfl) | (rw [endRecs_eq (by dsimp only; first | rfl | exact leadR_term _) (by dsimp only; first | rfl | exact leadR_vote _)]; first | done | rfl))) ?_
                  refine KF.conv (fun w => .tup [.agg [.int .i64 ((leadR (⟨r.id, r.of_, r.role, r.commit, r.hard, putA m.from_ r.yes, r.next, r.match_⟩ : Raft)).id), .int .i64 ((leadR (⟨r.id, r.of_, r.role, r.commit, r.hard, putA m.from_ r.yes, r.next, r.match_⟩ : Raft)).of_), .int .i64 ((leadR (⟨r.id, r.of_, r.role, r.commit, r.hard, putA m.from_ r.yes, r.next, r.match_⟩ : Raft)).role), .int .i64 ((leadR (⟨r.id, r.of_, r.role, r.commit, r.hard, putA m.from_ r.yes, r.next, r.match_⟩ : Raft)).commit), .int .i64 ((leadR (⟨r.id, r.of_, r.role, r.commit, r.hard, putA m.from_ r.yes, r.next, r.match_⟩ : Raft)).hard.term), .int .i64 ((leadR (⟨r.id, r.of_, r.role, r.commit, r.hard, putA m.from_ r.yes, r.next, r.match_⟩ : Raft)).hard.vote), .ref 0, .ref 1, .ref 2, .ref 3], .ref 4, .ref 5]) (fun w => [.arr 45 6 (((leadR (⟨r.id, r.of_, r.role, r.commit, r.hard, putA m.from_ r.yes, r.next, r.match_⟩ : Raft)).hard.log).map encEnt), .arr 3 1 (((leadR (⟨r.id, r.of_, r.role, r.commit, r.hard, putA m.from_ r.yes, r.next, r.match_⟩ : Raft)).yes).map encI), .arr 3 1 (((leadR (⟨r.id, r.of_, r.role, r.commit, r.hard, putA m.from_ r.yes, r.next, r.match_⟩ : Raft)).next).map encI), .arr 3 1 (((leadR (⟨r.id, r.of_, r.role, r.commit, r.hard, putA m.from_ r.yes, r.next, r.match_⟩ : Raft)).match_).map encI), .arr 47 10 (w.map encRec), .arr 51 17 (((yess r m).2.2).map encOut)]) (show (([]) ++ leadRecs (⟨r.id, r.of_, r.role, r.commit, r.hard, putA m.from_ r.yes, r.next, r.match_⟩ : Raft)) = ((yess r m).2.1) from by rw [yess_lead h1 (by omega) (by omega) (by omega) (by assumption) (by first | omega | (rw [hpa]; omega) | (rw [← hpa]; omega))]; first | first | done | rfl | (simp only [leadRecs]; rw [if_neg (by assumption)]; done) | (rw [endRecs_ne (by dsimp only; omega)]; rfl) | (rw [endRecs_eq rfl rfl]; done) | (rw [endRecs_eq rfl rfl]; rfl) | (rw [endRecs_eq (by dsimp only; exact leadR_term _) (by dsimp only; exact leadR_vote _)]; first | done | rfl) | (simp only [leadR, if_neg (by assumption)]; rfl) | (rw [endRecs_eq (by dsimp only; first | rfl | exact leadR_term _) (by dsimp only; first | rfl | exact leadR_vote _)]; first | done | rfl) | (rw [hpa]; first | done | rfl | (simp only [leadRecs]; rw [if_neg (by assumption)]; done) | (rw [endRecs_ne (by dsimp only; omega)]; rfl) | (rw [endRecs_eq rfl rfl]; done) | (rw [endRecs_eq rfl rfl]; rfl) | (rw [endRecs_eq (by dsimp only; exact leadR_term _) (by dsimp only; exact leadR_vote _)]; first | done | rfl) | (simp only [leadR, if_neg (by assumption)]; rfl) | (rw [endRecs_eq (by dsimp only; first | rfl | exact leadR_term _) (by dsimp only; first | rfl | exact leadR_vote _)]; first | done | rfl)) | (rw [← hpa]; first | done | rfl | (simp only [leadRecs]; rw [if_neg (by assumption)]; done) | (rw [endRecs_ne (by dsimp only; omega)]; rfl) | (rw [endRecs_eq rfl rfl]; done) | (rw [endRecs_eq rfl rfl]; rfl) | (rw [endRecs_eq (by dsimp only; exact leadR_term _) (by dsimp only; exact leadR_vote _)]; first | done | rfl) | (simp only [leadR, if_neg (by assumption)]; rfl) | (rw [endRecs_eq (by dsimp only; first | rfl | exact leadR_term _) (by dsimp only; first | rfl | exact leadR_vote _)]; first | done | rfl))) ?_
                  refine KF.conv (fun w => .tup [.agg [.int .i64 ((leadR (⟨r.id, r.of_, r.role, r.commit, r.hard, putA m.from_ r.yes, r.next, r.match_⟩ : Raft)).id), .int .i64 ((leadR (⟨r.id, r.of_, r.role, r.commit, r.hard, putA m.from_ r.yes, r.next, r.match_⟩ : Raft)).of_), .int .i64 ((leadR (⟨r.id, r.of_, r.role, r.commit, r.hard, putA m.from_ r.yes, r.next, r.match_⟩ : Raft)).role), .int .i64 ((leadR (⟨r.id, r.of_, r.role, r.commit, r.hard, putA m.from_ r.yes, r.next, r.match_⟩ : Raft)).commit), .int .i64 ((leadR (⟨r.id, r.of_, r.role, r.commit, r.hard, putA m.from_ r.yes, r.next, r.match_⟩ : Raft)).hard.term), .int .i64 ((leadR (⟨r.id, r.of_, r.role, r.commit, r.hard, putA m.from_ r.yes, r.next, r.match_⟩ : Raft)).hard.vote), .ref 0, .ref 1, .ref 2, .ref 3], .ref 4, .ref 5]) (fun w => [.arr 45 6 (((leadR (⟨r.id, r.of_, r.role, r.commit, r.hard, putA m.from_ r.yes, r.next, r.match_⟩ : Raft)).hard.log).map encEnt), .arr 3 1 (((leadR (⟨r.id, r.of_, r.role, r.commit, r.hard, putA m.from_ r.yes, r.next, r.match_⟩ : Raft)).yes).map encI), .arr 3 1 (((leadR (⟨r.id, r.of_, r.role, r.commit, r.hard, putA m.from_ r.yes, r.next, r.match_⟩ : Raft)).next).map encI), .arr 3 1 (((leadR (⟨r.id, r.of_, r.role, r.commit, r.hard, putA m.from_ r.yes, r.next, r.match_⟩ : Raft)).match_).map encI), .arr 47 10 ((([]) ++ leadRecs (⟨r.id, r.of_, r.role, r.commit, r.hard, putA m.from_ r.yes, r.next, r.match_⟩ : Raft)).map encRec), .arr 51 17 (w.map encOut)]) (show (sendAll (leadR (⟨r.id, r.of_, r.role, r.commit, r.hard, putA m.from_ r.yes, r.next, r.match_⟩ : Raft))) = ((yess r m).2.2) from by rw [yess_lead h1 (by omega) (by omega) (by omega) (by assumption) (by first | omega | (rw [hpa]; omega) | (rw [← hpa]; omega))]; first | first | done | rfl | (simp only [leadRecs]; rw [if_neg (by assumption)]; done) | (rw [endRecs_ne (by dsimp only; omega)]; rfl) | (rw [endRecs_eq rfl rfl]; done) | (rw [endRecs_eq rfl rfl]; rfl) | (rw [endRecs_eq (by dsimp only; exact leadR_term _) (by dsimp only; exact leadR_vote _)]; first | done | rfl) | (simp only [leadR, if_neg (by assumption)]; rfl) | (rw [endRecs_eq (by dsimp only; first | rfl | exact leadR_term _) (by dsimp only; first | rfl | exact leadR_vote _)]; first | done | rfl) | (rw [hpa]; first | done | rfl | (simp only [leadRecs]; rw [if_neg (by assumption)]; done) | (rw [endRecs_ne (by dsimp only; omega)]; rfl) | (rw [endRecs_eq rfl rfl]; done) | (rw [endRecs_eq rfl rfl]; rfl) | (rw [endRecs_eq (by dsimp only; exact leadR_term _) (by dsimp only; exact leadR_vote _)]; first | done | rfl) | (simp only [leadR, if_neg (by assumption)]; rfl) | (rw [endRecs_eq (by dsimp only; first | rfl | exact leadR_term _) (by dsimp only; first | rfl | exact leadR_vote _)]; first | done | rfl)) | (rw [← hpa]; first | done | rfl | (simp only [leadRecs]; rw [if_neg (by assumption)]; done) | (rw [endRecs_ne (by dsimp only; omega)]; rfl) | (rw [endRecs_eq rfl rfl]; done) | (rw [endRecs_eq rfl rfl]; rfl) | (rw [endRecs_eq (by dsimp only; exact leadR_term _) (by dsimp only; exact leadR_vote _)]; first | done | rfl) | (simp only [leadR, if_neg (by assumption)]; rfl) | (rw [endRecs_eq (by dsimp only; first | rfl | exact leadR_term _) (by dsimp only; first | rfl | exact leadR_vote _)]; first | done | rfl))) ?_
                  exact KF.m [(2460, 0), (2461, 1), (2462, 2), (2463, 3), (2464, 4), (2465, 5)] [.agg [.int .i64 ((leadR (⟨r.id, r.of_, r.role, r.commit, r.hard, putA m.from_ r.yes, r.next, r.match_⟩ : Raft)).id), .int .i64 ((leadR (⟨r.id, r.of_, r.role, r.commit, r.hard, putA m.from_ r.yes, r.next, r.match_⟩ : Raft)).of_), .int .i64 ((leadR (⟨r.id, r.of_, r.role, r.commit, r.hard, putA m.from_ r.yes, r.next, r.match_⟩ : Raft)).role), .int .i64 ((leadR (⟨r.id, r.of_, r.role, r.commit, r.hard, putA m.from_ r.yes, r.next, r.match_⟩ : Raft)).commit), .int .i64 ((leadR (⟨r.id, r.of_, r.role, r.commit, r.hard, putA m.from_ r.yes, r.next, r.match_⟩ : Raft)).hard.term), .int .i64 ((leadR (⟨r.id, r.of_, r.role, r.commit, r.hard, putA m.from_ r.yes, r.next, r.match_⟩ : Raft)).hard.vote), .ref 2460, .ref 2461, .ref 2462, .ref 2463], .ref 2464, .ref 2465]
                · skip
                  refine At.c (spec_l10Lead_F_spec  (⟨r.id, r.of_, r.role, r.commit, r.hard, putA m.from_ r.yes, r.next, r.match_⟩ : Raft) ([]) (by have q := putA_len m.from_ (putA m.from_ r.yes); unfold SmallR; dsimp only; omega) (by dsimp only; omega) (by dsimp only; omega) (by simp; done) h7) Tryz.call99 true [(1220, 0), (2220, 1), (1222, 2), (1223, 3), (112, 4)] [(2460, 5), (2461, 6), (2462, 7), (2463, 8)] [] trivial ?_
                  refine At.a 6 ?_
                  refine At.done rfl ?_
                  refine AW.ret ?_
                  refine ⟨_, Sub.refl _ _, ?_⟩
                  refine KF.conv (fun w => .tup [.agg [.int .i64 w.id, .int .i64 w.of_, .int .i64 w.role, .int .i64 w.commit, .int .i64 w.hard.term, .int .i64 w.hard.vote, .ref 0, .ref 1, .ref 2, .ref 3], .ref 4, .ref 5]) (fun w => [.arr 45 6 (w.hard.log.map encEnt), .arr 3 1 (w.yes.map encI), .arr 3 1 (w.next.map encI), .arr 3 1 (w.match_.map encI), .arr 47 10 (((yess r m).2.1).map encRec), .arr 51 17 (((yess r m).2.2).map encOut)]) (show ((⟨(leadR (⟨r.id, r.of_, r.role, r.commit, r.hard, putA m.from_ r.yes, r.next, r.match_⟩ : Raft)).id, (leadR (⟨r.id, r.of_, r.role, r.commit, r.hard, putA m.from_ r.yes, r.next, r.match_⟩ : Raft)).of_, (leadR (⟨r.id, r.of_, r.role, r.commit, r.hard, putA m.from_ r.yes, r.next, r.match_⟩ : Raft)).role, (leadR (⟨r.id, r.of_, r.role, r.commit, r.hard, putA m.from_ r.yes, r.next, r.match_⟩ : Raft)).commit, ⟨(leadR (⟨r.id, r.of_, r.role, r.commit, r.hard, putA m.from_ r.yes, r.next, r.match_⟩ : Raft)).hard.term, (leadR (⟨r.id, r.of_, r.role, r.commit, r.hard, putA m.from_ r.yes, r.next, r.match_⟩ : Raft)).hard.vote, r.hard.log⟩, (leadR (⟨r.id, r.of_, r.role, r.commit, r.hard, putA m.from_ r.yes, r.next, r.match_⟩ : Raft)).yes, (leadR (⟨r.id, r.of_, r.role, r.commit, r.hard, putA m.from_ r.yes, r.next, r.match_⟩ : Raft)).next, (leadR (⟨r.id, r.of_, r.role, r.commit, r.hard, putA m.from_ r.yes, r.next, r.match_⟩ : Raft)).match_⟩ : Raft)) = ((yess r m).1) from by rw [yess_lead h1 (by omega) (by omega) (by omega) (by assumption) (by first | omega | (rw [hpa]; omega) | (rw [← hpa]; omega))]; first | first | done | rfl | (simp only [leadRecs]; rw [if_neg (by assumption)]; done) | (rw [endRecs_ne (by dsimp only; omega)]; rfl) | (rw [endRecs_eq rfl rfl]; done) | (rw [endRecs_eq rfl rfl]; rfl) | (rw [endRecs_eq (by dsimp only; exact leadR_term _) (by dsimp only; exact leadR_vote _)]; first | done | rfl) | (simp only [leadR, if_neg (by assumption)]; rfl) | (rw [endRecs_eq (by dsimp only; first | rfl | exact leadR_term _) (by dsimp only; first | rfl | exact leadR_vote _)]; first | done | rfl) | (rw [hpa]; first | done | rfl | (simp only [leadRecs]; rw [if_neg (by assumption)]; done) | (rw [endRecs_ne (by dsimp only; omega)]; rfl) | (rw [endRecs_eq rfl rfl]; done) | (rw [endRecs_eq rfl rfl]; rfl) | (rw [endRecs_eq (by dsimp only; exact leadR_term _) (by dsimp only; exact leadR_vote _)]; first | done | rfl) | (simp only [leadR, if_neg (by assumption)]; rfl) | (rw [endRecs_eq (by dsimp only; first | rfl | exact leadR_term _) (by dsimp only; first | rfl | exact leadR_vote _)]; first | done | rfl)) | (rw [← hpa]; first | done | rfl | (simp only [leadRecs]; rw [if_neg (by assumption)]; done) | (rw [endRecs_ne (by dsimp only; omega)]; rfl) | (rw [endRecs_eq rfl rfl]; done) | (rw [endRecs_eq rfl rfl]; rfl) | (rw [endRecs_eq (by dsimp only; exact leadR_term _) (by dsimp only; exact leadR_vote _)]; first | done | rfl) | (simp only [leadR, if_neg (by assumption)]; rfl) | (rw [endRecs_eq (by dsimp only; first | rfl | exact leadR_term _) (by dsimp only; first | rfl | exact leadR_vote _)]; first | done | rfl))) ?_
                  refine KF.conv (fun w => .tup [.agg [.int .i64 ((leadR (⟨r.id, r.of_, r.role, r.commit, r.hard, putA m.from_ r.yes, r.next, r.match_⟩ : Raft)).id), .int .i64 ((leadR (⟨r.id, r.of_, r.role, r.commit, r.hard, putA m.from_ r.yes, r.next, r.match_⟩ : Raft)).of_), .int .i64 ((leadR (⟨r.id, r.of_, r.role, r.commit, r.hard, putA m.from_ r.yes, r.next, r.match_⟩ : Raft)).role), .int .i64 ((leadR (⟨r.id, r.of_, r.role, r.commit, r.hard, putA m.from_ r.yes, r.next, r.match_⟩ : Raft)).commit), .int .i64 ((leadR (⟨r.id, r.of_, r.role, r.commit, r.hard, putA m.from_ r.yes, r.next, r.match_⟩ : Raft)).hard.term), .int .i64 ((leadR (⟨r.id, r.of_, r.role, r.commit, r.hard, putA m.from_ r.yes, r.next, r.match_⟩ : Raft)).hard.vote), .ref 0, .ref 1, .ref 2, .ref 3], .ref 4, .ref 5]) (fun w => [.arr 45 6 (r.hard.log.map encEnt), .arr 3 1 (((leadR (⟨r.id, r.of_, r.role, r.commit, r.hard, putA m.from_ r.yes, r.next, r.match_⟩ : Raft)).yes).map encI), .arr 3 1 (((leadR (⟨r.id, r.of_, r.role, r.commit, r.hard, putA m.from_ r.yes, r.next, r.match_⟩ : Raft)).next).map encI), .arr 3 1 (((leadR (⟨r.id, r.of_, r.role, r.commit, r.hard, putA m.from_ r.yes, r.next, r.match_⟩ : Raft)).match_).map encI), .arr 47 10 (w.map encRec), .arr 51 17 (((yess r m).2.2).map encOut)]) (show (([])) = ((yess r m).2.1) from by rw [yess_lead h1 (by omega) (by omega) (by omega) (by assumption) (by first | omega | (rw [hpa]; omega) | (rw [← hpa]; omega))]; first | first | done | rfl | (simp only [leadRecs]; rw [if_neg (by assumption)]; done) | (rw [endRecs_ne (by dsimp only; omega)]; rfl) | (rw [endRecs_eq rfl rfl]; done) | (rw [endRecs_eq rfl rfl]; rfl) | (rw [endRecs_eq (by dsimp only; exact leadR_term _) (by dsimp only; exact leadR_vote _)]; first | done | rfl) | (simp only [leadR, if_neg (by assumption)]; rfl) | (rw [endRecs_eq (by dsimp only; first | rfl | exact leadR_term _) (by dsimp only; first | rfl | exact leadR_vote _)]; first | done | rfl) | (rw [hpa]; first | done | rfl | (simp only [leadRecs]; rw [if_neg (by assumption)]; done) | (rw [endRecs_ne (by dsimp only; omega)]; rfl) | (rw [endRecs_eq rfl rfl]; done) | (rw [endRecs_eq rfl rfl]; rfl) | (rw [endRecs_eq (by dsimp only; exact leadR_term _) (by dsimp only; exact leadR_vote _)]; first | done | rfl) | (simp only [leadR, if_neg (by assumption)]; rfl) | (rw [endRecs_eq (by dsimp only; first | rfl | exact leadR_term _) (by dsimp only; first | rfl | exact leadR_vote _)]; first | done | rfl)) | (rw [← hpa]; first | done | rfl | (simp only [leadRecs]; rw [if_neg (by assumption)]; done) | (rw [endRecs_ne (by dsimp only; omega)]; rfl) | (rw [endRecs_eq rfl rfl]; done) | (rw [endRecs_eq rfl rfl]; rfl) | (rw [endRecs_eq (by dsimp only; exact leadR_term _) (by dsimp only; exact leadR_vote _)]; first | done | rfl) | (simp only [leadR, if_neg (by assumption)]; rfl) | (rw [endRecs_eq (by dsimp only; first | rfl | exact leadR_term _) (by dsimp only; first | rfl | exact leadR_vote _)]; first | done | rfl))) ?_
                  refine KF.conv (fun w => .tup [.agg [.int .i64 ((leadR (⟨r.id, r.of_, r.role, r.commit, r.hard, putA m.from_ r.yes, r.next, r.match_⟩ : Raft)).id), .int .i64 ((leadR (⟨r.id, r.of_, r.role, r.commit, r.hard, putA m.from_ r.yes, r.next, r.match_⟩ : Raft)).of_), .int .i64 ((leadR (⟨r.id, r.of_, r.role, r.commit, r.hard, putA m.from_ r.yes, r.next, r.match_⟩ : Raft)).role), .int .i64 ((leadR (⟨r.id, r.of_, r.role, r.commit, r.hard, putA m.from_ r.yes, r.next, r.match_⟩ : Raft)).commit), .int .i64 ((leadR (⟨r.id, r.of_, r.role, r.commit, r.hard, putA m.from_ r.yes, r.next, r.match_⟩ : Raft)).hard.term), .int .i64 ((leadR (⟨r.id, r.of_, r.role, r.commit, r.hard, putA m.from_ r.yes, r.next, r.match_⟩ : Raft)).hard.vote), .ref 0, .ref 1, .ref 2, .ref 3], .ref 4, .ref 5]) (fun w => [.arr 45 6 (r.hard.log.map encEnt), .arr 3 1 (((leadR (⟨r.id, r.of_, r.role, r.commit, r.hard, putA m.from_ r.yes, r.next, r.match_⟩ : Raft)).yes).map encI), .arr 3 1 (((leadR (⟨r.id, r.of_, r.role, r.commit, r.hard, putA m.from_ r.yes, r.next, r.match_⟩ : Raft)).next).map encI), .arr 3 1 (((leadR (⟨r.id, r.of_, r.role, r.commit, r.hard, putA m.from_ r.yes, r.next, r.match_⟩ : Raft)).match_).map encI), .arr 47 10 (([]).map encRec), .arr 51 17 (w.map encOut)]) (show (sendAll (leadR (⟨r.id, r.of_, r.role, r.commit, r.hard, putA m.from_ r.yes, r.next, r.match_⟩ : Raft))) = ((yess r m).2.2) from by rw [yess_lead h1 (by omega) (by omega) (by omega) (by assumption) (by first | omega | (rw [hpa]; omega) | (rw [← hpa]; omega))]; first | first | done | rfl | (simp only [leadRecs]; rw [if_neg (by assumption)]; done) | (rw [endRecs_ne (by dsimp only; omega)]; rfl) | (rw [endRecs_eq rfl rfl]; done) | (rw [endRecs_eq rfl rfl]; rfl) | (rw [endRecs_eq (by dsimp only; exact leadR_term _) (by dsimp only; exact leadR_vote _)]; first | done | rfl) | (simp only [leadR, if_neg (by assumption)]; rfl) | (rw [endRecs_eq (by dsimp only; first | rfl | exact leadR_term _) (by dsimp only; first | rfl | exact leadR_vote _)]; first | done | rfl) | (rw [hpa]; first | done | rfl | (simp only [leadRecs]; rw [if_neg (by assumption)]; done) | (rw [endRecs_ne (by dsimp only; omega)]; rfl) | (rw [endRecs_eq rfl rfl]; done) | (rw [endRecs_eq rfl rfl]; rfl) | (rw [endRecs_eq (by dsimp only; exact leadR_term _) (by dsimp only; exact leadR_vote _)]; first | done | rfl) | (simp only [leadR, if_neg (by assumption)]; rfl) | (rw [endRecs_eq (by dsimp only; first | rfl | exact leadR_term _) (by dsimp only; first | rfl | exact leadR_vote _)]; first | done | rfl)) | (rw [← hpa]; first | done | rfl | (simp only [leadRecs]; rw [if_neg (by assumption)]; done) | (rw [endRecs_ne (by dsimp only; omega)]; rfl) | (rw [endRecs_eq rfl rfl]; done) | (rw [endRecs_eq rfl rfl]; rfl) | (rw [endRecs_eq (by dsimp only; exact leadR_term _) (by dsimp only; exact leadR_vote _)]; first | done | rfl) | (simp only [leadR, if_neg (by assumption)]; rfl) | (rw [endRecs_eq (by dsimp only; first | rfl | exact leadR_term _) (by dsimp only; first | rfl | exact leadR_vote _)]; first | done | rfl))) ?_
                  exact KF.m [(1220, 0), (2460, 1), (2461, 2), (2462, 3), (112, 4), (2463, 5)] [.agg [.int .i64 ((leadR (⟨r.id, r.of_, r.role, r.commit, r.hard, putA m.from_ r.yes, r.next, r.match_⟩ : Raft)).id), .int .i64 ((leadR (⟨r.id, r.of_, r.role, r.commit, r.hard, putA m.from_ r.yes, r.next, r.match_⟩ : Raft)).of_), .int .i64 ((leadR (⟨r.id, r.of_, r.role, r.commit, r.hard, putA m.from_ r.yes, r.next, r.match_⟩ : Raft)).role), .int .i64 ((leadR (⟨r.id, r.of_, r.role, r.commit, r.hard, putA m.from_ r.yes, r.next, r.match_⟩ : Raft)).commit), .int .i64 ((leadR (⟨r.id, r.of_, r.role, r.commit, r.hard, putA m.from_ r.yes, r.next, r.match_⟩ : Raft)).hard.term), .int .i64 ((leadR (⟨r.id, r.of_, r.role, r.commit, r.hard, putA m.from_ r.yes, r.next, r.match_⟩ : Raft)).hard.vote), .ref 1220, .ref 2460, .ref 2461, .ref 2462], .ref 112, .ref 2463]
              · skip
                refine AW.skip ?_
                refine AW.r ?_
                refine At.a 6 ?_
                refine At.done rfl ?_
                refine AW.ret ?_
                refine ⟨_, Sub.refl _ _, ?_⟩
                refine KF.conv (fun w => .tup [.agg [.int .i64 w.id, .int .i64 w.of_, .int .i64 w.role, .int .i64 w.commit, .int .i64 w.hard.term, .int .i64 w.hard.vote, .ref 0, .ref 1, .ref 2, .ref 3], .ref 4, .ref 5]) (fun w => [.arr 45 6 (w.hard.log.map encEnt), .arr 3 1 (w.yes.map encI), .arr 3 1 (w.next.map encI), .arr 3 1 (w.match_.map encI), .arr 47 10 (((yess r m).2.1).map encRec), .arr 51 17 (((yess r m).2.2).map encOut)]) (show ((⟨r.id, r.of_, r.role, r.commit, r.hard, putA m.from_ r.yes, r.next, r.match_⟩ : Raft)) = ((yess r m).1) from by rw [yess_less h1 (by omega) (by omega) (by omega) (by assumption) (by first | omega | (rw [hpa]; omega) | (rw [← hpa]; omega))]; first | first | done | rfl | (simp only [leadRecs]; rw [if_neg (by assumption)]; done) | (rw [endRecs_ne (by dsimp only; omega)]; rfl) | (rw [endRecs_eq rfl rfl]; done) | (rw [endRecs_eq rfl rfl]; rfl) | (rw [endRecs_eq (by dsimp only; exact leadR_term _) (by dsimp only; exact leadR_vote _)]; first | done | rfl) | (simp only [leadR, if_neg (by assumption)]; rfl) | (rw [endRecs_eq (by dsimp only; first | rfl | exact leadR_term _) (by dsimp only; first | rfl | exact leadR_vote _)]; first | done | rfl) | (rw [hpa]; first | done | rfl | (simp only [leadRecs]; rw [if_neg (by assumption)]; done) | (rw [endRecs_ne (by dsimp only; omega)]; rfl) | (rw [endRecs_eq rfl rfl]; done) | (rw [endRecs_eq rfl rfl]; rfl) | (rw [endRecs_eq (by dsimp only; exact leadR_term _) (by dsimp only; exact leadR_vote _)]; first | done | rfl) | (simp only [leadR, if_neg (by assumption)]; rfl) | (rw [endRecs_eq (by dsimp only; first | rfl | exact leadR_term _) (by dsimp only; first | rfl | exact leadR_vote _)]; first | done | rfl)) | (rw [← hpa]; first | done | rfl | (simp only [leadRecs]; rw [if_neg (by assumption)]; done) | (rw [endRecs_ne (by dsimp only; omega)]; rfl) | (rw [endRecs_eq rfl rfl]; done) | (rw [endRecs_eq rfl rfl]; rfl) | (rw [endRecs_eq (by dsimp only; exact leadR_term _) (by dsimp only; exact leadR_vote _)]; first | done | rfl) | (simp only [leadR, if_neg (by assumption)]; rfl) | (rw [endRecs_eq (by dsimp only; first | rfl | exact leadR_term _) (by dsimp only; first | rfl | exact leadR_vote _)]; first | done | rfl))) ?_
                refine KF.conv (fun w => .tup [.agg [.int .i64 r.id, .int .i64 r.of_, .int .i64 r.role, .int .i64 r.commit, .int .i64 r.hard.term, .int .i64 r.hard.vote, .ref 0, .ref 1, .ref 2, .ref 3], .ref 4, .ref 5]) (fun w => [.arr 45 6 (r.hard.log.map encEnt), .arr 3 1 ((putA m.from_ r.yes).map encI), .arr 3 1 (r.next.map encI), .arr 3 1 (r.match_.map encI), .arr 47 10 (w.map encRec), .arr 51 17 (((yess r m).2.2).map encOut)]) (show ([]) = ((yess r m).2.1) from by rw [yess_less h1 (by omega) (by omega) (by omega) (by assumption) (by first | omega | (rw [hpa]; omega) | (rw [← hpa]; omega))]; first | first | done | rfl | (simp only [leadRecs]; rw [if_neg (by assumption)]; done) | (rw [endRecs_ne (by dsimp only; omega)]; rfl) | (rw [endRecs_eq rfl rfl]; done) | (rw [endRecs_eq rfl rfl]; rfl) | (rw [endRecs_eq (by dsimp only; exact leadR_term _) (by dsimp only; exact leadR_vote _)]; first | done | rfl) | (simp only [leadR, if_neg (by assumption)]; rfl) | (rw [endRecs_eq (by dsimp only; first | rfl | exact leadR_term _) (by dsimp only; first | rfl | exact leadR_vote _)]; first | done | rfl) | (rw [hpa]; first | done | rfl | (simp only [leadRecs]; rw [if_neg (by assumption)]; done) | (rw [endRecs_ne (by dsimp only; omega)]; rfl) | (rw [endRecs_eq rfl rfl]; done) | (rw [endRecs_eq rfl rfl]; rfl) | (rw [endRecs_eq (by dsimp only; exact leadR_term _) (by dsimp only; exact leadR_vote _)]; first | done | rfl) | (simp only [leadR, if_neg (by assumption)]; rfl) | (rw [endRecs_eq (by dsimp only; first | rfl | exact leadR_term _) (by dsimp only; first | rfl | exact leadR_vote _)]; first | done | rfl)) | (rw [← hpa]; first | done | rfl | (simp only [leadRecs]; rw [if_neg (by assumption)]; done) | (rw [endRecs_ne (by dsimp only; omega)]; rfl) | (rw [endRecs_eq rfl rfl]; done) | (rw [endRecs_eq rfl rfl]; rfl) | (rw [endRecs_eq (by dsimp only; exact leadR_term _) (by dsimp only; exact leadR_vote _)]; first | done | rfl) | (simp only [leadR, if_neg (by assumption)]; rfl) | (rw [endRecs_eq (by dsimp only; first | rfl | exact leadR_term _) (by dsimp only; first | rfl | exact leadR_vote _)]; first | done | rfl))) ?_
                refine KF.conv (fun w => .tup [.agg [.int .i64 r.id, .int .i64 r.of_, .int .i64 r.role, .int .i64 r.commit, .int .i64 r.hard.term, .int .i64 r.hard.vote, .ref 0, .ref 1, .ref 2, .ref 3], .ref 4, .ref 5]) (fun w => [.arr 45 6 (r.hard.log.map encEnt), .arr 3 1 ((putA m.from_ r.yes).map encI), .arr 3 1 (r.next.map encI), .arr 3 1 (r.match_.map encI), .arr 47 10 [], .arr 51 17 (w.map encOut)]) (show ([]) = ((yess r m).2.2) from by rw [yess_less h1 (by omega) (by omega) (by omega) (by assumption) (by first | omega | (rw [hpa]; omega) | (rw [← hpa]; omega))]; first | first | done | rfl | (simp only [leadRecs]; rw [if_neg (by assumption)]; done) | (rw [endRecs_ne (by dsimp only; omega)]; rfl) | (rw [endRecs_eq rfl rfl]; done) | (rw [endRecs_eq rfl rfl]; rfl) | (rw [endRecs_eq (by dsimp only; exact leadR_term _) (by dsimp only; exact leadR_vote _)]; first | done | rfl) | (simp only [leadR, if_neg (by assumption)]; rfl) | (rw [endRecs_eq (by dsimp only; first | rfl | exact leadR_term _) (by dsimp only; first | rfl | exact leadR_vote _)]; first | done | rfl) | (rw [hpa]; first | done | rfl | (simp only [leadRecs]; rw [if_neg (by assumption)]; done) | (rw [endRecs_ne (by dsimp only; omega)]; rfl) | (rw [endRecs_eq rfl rfl]; done) | (rw [endRecs_eq rfl rfl]; rfl) | (rw [endRecs_eq (by dsimp only; exact leadR_term _) (by dsimp only; exact leadR_vote _)]; first | done | rfl) | (simp only [leadR, if_neg (by assumption)]; rfl) | (rw [endRecs_eq (by dsimp only; first | rfl | exact leadR_term _) (by dsimp only; first | rfl | exact leadR_vote _)]; first | done | rfl)) | (rw [← hpa]; first | done | rfl | (simp only [leadRecs]; rw [if_neg (by assumption)]; done) | (rw [endRecs_ne (by dsimp only; omega)]; rfl) | (rw [endRecs_eq rfl rfl]; done) | (rw [endRecs_eq rfl rfl]; rfl) | (rw [endRecs_eq (by dsimp only; exact leadR_term _) (by dsimp only; exact leadR_vote _)]; first | done | rfl) | (simp only [leadR, if_neg (by assumption)]; rfl) | (rw [endRecs_eq (by dsimp only; first | rfl | exact leadR_term _) (by dsimp only; first | rfl | exact leadR_vote _)]; first | done | rfl))) ?_
                exact KF.m [(1220, 0), (2220, 1), (1222, 2), (1223, 3), (112, 4), (113, 5)] [.agg [.int .i64 r.id, .int .i64 r.of_, .int .i64 r.role, .int .i64 r.commit, .int .i64 r.hard.term, .int .i64 r.hard.vote, .ref 1220, .ref 2220, .ref 1222, .ref 1223], .ref 112, .ref 113]
          · refine At.sB 49 (m.term != r.hard.term) true (sayUT h4) ?_
            refine At.a 4 ?_
            refine At.done rfl ?_
            refine AW.cond true (by kernel_rfl) (fun _ => ?_) (fun h => by cases h)
            refine AW.r ?_
            refine At.a 6 ?_
            refine At.done rfl ?_
            refine AW.ret ?_
            refine ⟨_, Sub.refl _ _, ?_⟩
            refine KF.conv (fun w => .tup [.agg [.int .i64 w.id, .int .i64 w.of_, .int .i64 w.role, .int .i64 w.commit, .int .i64 w.hard.term, .int .i64 w.hard.vote, .ref 0, .ref 1, .ref 2, .ref 3], .ref 4, .ref 5]) (fun w => [.arr 45 6 (w.hard.log.map encEnt), .arr 3 1 (w.yes.map encI), .arr 3 1 (w.next.map encI), .arr 3 1 (w.match_.map encI), .arr 47 10 (((yess r m).2.1).map encRec), .arr 51 17 (((yess r m).2.2).map encOut)]) (show (r) = ((yess r m).1) from by rw [yess_not h1 (by omega) (by first | exact .inl (by omega) | exact .inr (.inl (by omega)) | exact .inr (.inr (by assumption)))]; first | done | rfl | (simp only [leadRecs]; rw [if_neg (by assumption)]; done) | (rw [endRecs_ne (by dsimp only; omega)]; rfl) | (rw [endRecs_eq rfl rfl]; done) | (rw [endRecs_eq rfl rfl]; rfl) | (rw [endRecs_eq (by dsimp only; exact leadR_term _) (by dsimp only; exact leadR_vote _)]; first | done | rfl) | (simp only [leadR, if_neg (by assumption)]; rfl) | (rw [endRecs_eq (by dsimp only; first | rfl | exact leadR_term _) (by dsimp only; first | rfl | exact leadR_vote _)]; first | done | rfl)) ?_
            refine KF.conv (fun w => .tup [.agg [.int .i64 r.id, .int .i64 r.of_, .int .i64 r.role, .int .i64 r.commit, .int .i64 r.hard.term, .int .i64 r.hard.vote, .ref 0, .ref 1, .ref 2, .ref 3], .ref 4, .ref 5]) (fun w => [.arr 45 6 (r.hard.log.map encEnt), .arr 3 1 (r.yes.map encI), .arr 3 1 (r.next.map encI), .arr 3 1 (r.match_.map encI), .arr 47 10 (w.map encRec), .arr 51 17 (((yess r m).2.2).map encOut)]) (show ([]) = ((yess r m).2.1) from by rw [yess_not h1 (by omega) (by first | exact .inl (by omega) | exact .inr (.inl (by omega)) | exact .inr (.inr (by assumption)))]; first | done | rfl | (simp only [leadRecs]; rw [if_neg (by assumption)]; done) | (rw [endRecs_ne (by dsimp only; omega)]; rfl) | (rw [endRecs_eq rfl rfl]; done) | (rw [endRecs_eq rfl rfl]; rfl) | (rw [endRecs_eq (by dsimp only; exact leadR_term _) (by dsimp only; exact leadR_vote _)]; first | done | rfl) | (simp only [leadR, if_neg (by assumption)]; rfl) | (rw [endRecs_eq (by dsimp only; first | rfl | exact leadR_term _) (by dsimp only; first | rfl | exact leadR_vote _)]; first | done | rfl)) ?_
            refine KF.conv (fun w => .tup [.agg [.int .i64 r.id, .int .i64 r.of_, .int .i64 r.role, .int .i64 r.commit, .int .i64 r.hard.term, .int .i64 r.hard.vote, .ref 0, .ref 1, .ref 2, .ref 3], .ref 4, .ref 5]) (fun w => [.arr 45 6 (r.hard.log.map encEnt), .arr 3 1 (r.yes.map encI), .arr 3 1 (r.next.map encI), .arr 3 1 (r.match_.map encI), .arr 47 10 [], .arr 51 17 (w.map encOut)]) (show ([]) = ((yess r m).2.2) from by rw [yess_not h1 (by omega) (by first | exact .inl (by omega) | exact .inr (.inl (by omega)) | exact .inr (.inr (by assumption)))]; first | done | rfl | (simp only [leadRecs]; rw [if_neg (by assumption)]; done) | (rw [endRecs_ne (by dsimp only; omega)]; rfl) | (rw [endRecs_eq rfl rfl]; done) | (rw [endRecs_eq rfl rfl]; rfl) | (rw [endRecs_eq (by dsimp only; exact leadR_term _) (by dsimp only; exact leadR_vote _)]; first | done | rfl) | (simp only [leadR, if_neg (by assumption)]; rfl) | (rw [endRecs_eq (by dsimp only; first | rfl | exact leadR_term _) (by dsimp only; first | rfl | exact leadR_vote _)]; first | done | rfl)) ?_
            exact KF.m [(1220, 0), (1221, 1), (1222, 2), (1223, 3), (112, 4), (113, 5)] [.agg [.int .i64 r.id, .int .i64 r.of_, .int .i64 r.role, .int .i64 r.commit, .int .i64 r.hard.term, .int .i64 r.hard.vote, .ref 1220, .ref 1221, .ref 1222, .ref 1223], .ref 112, .ref 113]
        · refine At.sB 41 (r.role != 2) true (sayUT h3) ?_
          refine At.a 12 ?_
          refine At.done rfl ?_
          refine AW.cond true (by kernel_rfl) (fun _ => ?_) (fun h => by cases h)
          refine AW.r ?_
          refine At.a 6 ?_
          refine At.done rfl ?_
          refine AW.ret ?_
          refine ⟨_, Sub.refl _ _, ?_⟩
          refine KF.conv (fun w => .tup [.agg [.int .i64 w.id, .int .i64 w.of_, .int .i64 w.role, .int .i64 w.commit, .int .i64 w.hard.term, .int .i64 w.hard.vote, .ref 0, .ref 1, .ref 2, .ref 3], .ref 4, .ref 5]) (fun w => [.arr 45 6 (w.hard.log.map encEnt), .arr 3 1 (w.yes.map encI), .arr 3 1 (w.next.map encI), .arr 3 1 (w.match_.map encI), .arr 47 10 (((yess r m).2.1).map encRec), .arr 51 17 (((yess r m).2.2).map encOut)]) (show (r) = ((yess r m).1) from by rw [yess_not h1 (by omega) (by first | exact .inl (by omega) | exact .inr (.inl (by omega)) | exact .inr (.inr (by assumption)))]; first | done | rfl | (simp only [leadRecs]; rw [if_neg (by assumption)]; done) | (rw [endRecs_ne (by dsimp only; omega)]; rfl) | (rw [endRecs_eq rfl rfl]; done) | (rw [endRecs_eq rfl rfl]; rfl) | (rw [endRecs_eq (by dsimp only; exact leadR_term _) (by dsimp only; exact leadR_vote _)]; first | done | rfl) | (simp only [leadR, if_neg (by assumption)]; rfl) | (rw [endRecs_eq (by dsimp only; first | rfl | exact leadR_term _) (by dsimp only; first | rfl | exact leadR_vote _)]; first | done | rfl)) ?_
          refine KF.conv (fun w => .tup [.agg [.int .i64 r.id, .int .i64 r.of_, .int .i64 r.role, .int .i64 r.commit, .int .i64 r.hard.term, .int .i64 r.hard.vote, .ref 0, .ref 1, .ref 2, .ref 3], .ref 4, .ref 5]) (fun w => [.arr 45 6 (r.hard.log.map encEnt), .arr 3 1 (r.yes.map encI), .arr 3 1 (r.next.map encI), .arr 3 1 (r.match_.map encI), .arr 47 10 (w.map encRec), .arr 51 17 (((yess r m).2.2).map encOut)]) (show ([]) = ((yess r m).2.1) from by rw [yess_not h1 (by omega) (by first | exact .inl (by omega) | exact .inr (.inl (by omega)) | exact .inr (.inr (by assumption)))]; first | done | rfl | (simp only [leadRecs]; rw [if_neg (by assumption)]; done) | (rw [endRecs_ne (by dsimp only; omega)]; rfl) | (rw [endRecs_eq rfl rfl]; done) | (rw [endRecs_eq rfl rfl]; rfl) | (rw [endRecs_eq (by dsimp only; exact leadR_term _) (by dsimp only; exact leadR_vote _)]; first | done | rfl) | (simp only [leadR, if_neg (by assumption)]; rfl) | (rw [endRecs_eq (by dsimp only; first | rfl | exact leadR_term _) (by dsimp only; first | rfl | exact leadR_vote _)]; first | done | rfl)) ?_
          refine KF.conv (fun w => .tup [.agg [.int .i64 r.id, .int .i64 r.of_, .int .i64 r.role, .int .i64 r.commit, .int .i64 r.hard.term, .int .i64 r.hard.vote, .ref 0, .ref 1, .ref 2, .ref 3], .ref 4, .ref 5]) (fun w => [.arr 45 6 (r.hard.log.map encEnt), .arr 3 1 (r.yes.map encI), .arr 3 1 (r.next.map encI), .arr 3 1 (r.match_.map encI), .arr 47 10 [], .arr 51 17 (w.map encOut)]) (show ([]) = ((yess r m).2.2) from by rw [yess_not h1 (by omega) (by first | exact .inl (by omega) | exact .inr (.inl (by omega)) | exact .inr (.inr (by assumption)))]; first | done | rfl | (simp only [leadRecs]; rw [if_neg (by assumption)]; done) | (rw [endRecs_ne (by dsimp only; omega)]; rfl) | (rw [endRecs_eq rfl rfl]; done) | (rw [endRecs_eq rfl rfl]; rfl) | (rw [endRecs_eq (by dsimp only; exact leadR_term _) (by dsimp only; exact leadR_vote _)]; first | done | rfl) | (simp only [leadR, if_neg (by assumption)]; rfl) | (rw [endRecs_eq (by dsimp only; first | rfl | exact leadR_term _) (by dsimp only; first | rfl | exact leadR_vote _)]; first | done | rfl)) ?_
          exact KF.m [(1220, 0), (1221, 1), (1222, 2), (1223, 3), (112, 4), (113, 5)] [.agg [.int .i64 r.id, .int .i64 r.of_, .int .i64 r.role, .int .i64 r.commit, .int .i64 r.hard.term, .int .i64 r.hard.vote, .ref 1220, .ref 1221, .ref 1222, .ref 1223], .ref 112, .ref 113]
  · skip
    refine AW.r ?_
    refine At.a 5 ?_
    refine At.done rfl ?_
    refine AW.seq ?_
    refine AW.weak (Sub.nils [⟨true, 104, some 6, 5001, 45, 6⟩, ⟨true, 104, some 7, 5002, 3, 1⟩, ⟨true, 104, some 8, 5003, 3, 1⟩, ⟨true, 104, some 9, 5004, 3, 1⟩] (by kernel_rfl)) ?_
    refine AW.region (At.start ?_)
    refine At.a 1 ?_
    refine At.c (spec_l10Same_F_spec  r (by exact hz) hok) Tryz.call97 true [] [(1220, 0), (1221, 1), (1222, 2), (1223, 3)] [] trivial ?_
    refine At.lit0 (t := 37) (d := 12) (e := 47) (es := 10) (bytes := 88) 112 (by kernel_rfl) (by kernel_rfl) (by kernel_rfl) (by kernel_rfl) ?_
    refine At.lit0 (t := 38) (d := 13) (e := 51) (es := 17) (bytes := 168) 113 (by kernel_rfl) (by kernel_rfl) (by kernel_rfl) (by kernel_rfl) ?_
    refine At.a 4 ?_
    refine At.done rfl ?_
    refine AW.seq ?_
    refine AW.r ?_
    refine At.a 2 ?_
    refine At.c (spec_l10Hears_spec  r m 2 (by exact hz) hm) Tryz.call108 true [] [] [] trivial ?_
    refine At.a 1 ?_
    refine At.done rfl ?_
    refine AW.condT (!(hears r m 2)) (by kernel_rfl) (by rw [show (hears r m 2) = false from (hears_no hok)]; rfl) ?_
    refine AW.r ?_
    refine At.a 6 ?_
    refine At.done rfl ?_
    refine AW.ret ?_
    refine ⟨_, Sub.refl _ _, ?_⟩
    refine KF.conv (fun w => .tup [.agg [.int .i64 w.id, .int .i64 w.of_, .int .i64 w.role, .int .i64 w.commit, .int .i64 w.hard.term, .int .i64 w.hard.vote, .ref 0, .ref 1, .ref 2, .ref 3], .ref 4, .ref 5]) (fun w => [.arr 45 6 (w.hard.log.map encEnt), .arr 3 1 (w.yes.map encI), .arr 3 1 (w.next.map encI), .arr 3 1 (w.match_.map encI), .arr 47 10 (((yess r m).2.1).map encRec), .arr 51 17 (((yess r m).2.2).map encOut)]) (show ((⟨0, 0, 0, 0, ⟨0, 0, []⟩, [], [], []⟩ : Raft)) = ((yess r m).1) from by simp [yess, same, hok, hears_no hok]; try rfl) ?_
    refine KF.conv (fun w => .tup [.agg [.int .i64 0, .int .i64 0, .int .i64 0, .int .i64 0, .int .i64 0, .int .i64 0, .ref 0, .ref 1, .ref 2, .ref 3], .ref 4, .ref 5]) (fun w => [.arr 45 6 [], .arr 3 1 [], .arr 3 1 [], .arr 3 1 [], .arr 47 10 (w.map encRec), .arr 51 17 (((yess r m).2.2).map encOut)]) (show ([]) = ((yess r m).2.1) from by simp [yess, same, hok, hears_no hok]; try rfl) ?_
    refine KF.conv (fun w => .tup [.agg [.int .i64 0, .int .i64 0, .int .i64 0, .int .i64 0, .int .i64 0, .int .i64 0, .ref 0, .ref 1, .ref 2, .ref 3], .ref 4, .ref 5]) (fun w => [.arr 45 6 [], .arr 3 1 [], .arr 3 1 [], .arr 3 1 [], .arr 47 10 [], .arr 51 17 (w.map encOut)]) (show ([]) = ((yess r m).2.2) from by simp [yess, same, hok, hears_no hok]; try rfl) ?_
    exact KF.m [(1220, 0), (1221, 1), (1222, 2), (1223, 3), (112, 4), (113, 5)] [.agg [.int .i64 0, .int .i64 0, .int .i64 0, .int .i64 0, .int .i64 0, .int .i64 0, .ref 1220, .ref 1221, .ref 1222, .ref 1223], .ref 112, .ref 113]
set_option maxRecDepth 100000 in
set_option maxHeartbeats 4000000 in
theorem impl_copyLog_spec  (l : List Ent) (hl : l.length ≤ 1048576) : FnSpec Tryz.prog 162 [.sl false 6 (l.map encEnt)] [] (.ref 0) [.arr 45 6 (l.map encEnt)] := by
  refine FnSpec.of 6 Tryz.func162 rfl Tryz.ntmps162 (by simp) (AW.weakK ?_)
  refine AW.r ?_
  refine At.a 1 ?_
  refine At.done rfl ?_
  refine AW.r ?_
  refine At.lit0 (t := 24) (d := 3) (e := 45) (es := 6) (bytes := 56) 103 (by kernel_rfl) (by kernel_rfl) (by kernel_rfl) (by kernel_rfl) ?_
  refine At.a 1 ?_
  refine At.append (t := 24) (d := 5) (e := 45) (es := 6) (bytes := 56) (s := .tmp 3) (x := .tmp 4) (S := .ref 103) (T := .sl false 6 (l.map encEnt)) (xs := []) (ys := (l.map encEnt)) 105 [103] [] (l.map encEnt) (by kernel_rfl) (by kernel_rfl) (by kernel_rfl) (by kernel_rfl) ⟨by kernel_rfl, rfl⟩ ⟨rfl, rfl, (allP_encEnt _), rfl⟩ (by kernel_rfl) (by kernel_rfl) (by simp) (by simp only [List.length_map, List.length_append, List.length_take, List.length_drop, List.length_replicate, List.length_set, List.length_cons, List.length_nil]; omega) (by simp only [List.length_map, List.length_append, List.length_take, List.length_drop, List.length_replicate, List.length_set, List.length_cons, List.length_nil]; omega) ?_
  refine At.a 1 ?_
  refine At.done rfl ?_
  refine AW.ret ?_
  refine ⟨_, Sub.refl _ _, ?_⟩
  exact KF.m [(105, 0)] [.ref 105]
set_option maxRecDepth 100000 in
set_option maxHeartbeats 4000000 in
theorem impl_copyHard_spec  (h : Hard) (hl : h.log.length ≤ 1048576) : FnSpec Tryz.prog 175 [.agg [.int .i64 h.term, .int .i64 h.vote, .sl false 6 (h.log.map encEnt)]] [] (.agg [.int .i64 h.term, .int .i64 h.vote, .ref 0]) [.arr 45 6 (h.log.map encEnt)] := by
  refine FnSpec.of 8 Tryz.func175 rfl Tryz.ntmps175 (by simp) (AW.weakK ?_)
  refine AW.r ?_
  refine At.a 2 ?_
  refine At.done rfl ?_
  refine AW.seq ?_
  refine AW.weak (Sub.nils [⟨true, 102, some 2, 5001, 45, 6⟩] (by kernel_rfl)) ?_
  refine AW.region (At.start ?_)
  refine At.a 2 ?_
  refine At.c (impl_copyLog_spec  h.log (by omega)) Tryz.call162 true [] [(1100, 0)] [] trivial ?_
  refine At.a 2 ?_
  refine At.done rfl ?_
  refine AW.r ?_
  refine At.a 2 ?_
  refine At.done rfl ?_
  refine AW.ret ?_
  refine ⟨_, Sub.refl _ _, ?_⟩
  exact KF.m [(1100, 0)] [.agg [.int .i64 h.term, .int .i64 h.vote, .ref 1100]]
set_option maxRecDepth 100000 in
set_option maxHeartbeats 4000000 in
theorem impl_copyInts_spec  (l : List Int) (hl : l.length ≤ 1048576) : FnSpec Tryz.prog 176 [.sl false 1 (l.map encI)] [] (.ref 0) [.arr 3 1 (l.map encI)] := by
  refine FnSpec.of 6 Tryz.func176 rfl Tryz.ntmps176 (by simp) (AW.weakK ?_)
  refine AW.r ?_
  refine At.a 1 ?_
  refine At.done rfl ?_
  refine AW.r ?_
  refine At.lit0 (t := 27) (d := 3) (e := 3) (es := 1) (bytes := 8) 103 (by kernel_rfl) (by kernel_rfl) (by kernel_rfl) (by kernel_rfl) ?_
  refine At.a 1 ?_
  refine At.append (t := 27) (d := 5) (e := 3) (es := 1) (bytes := 8) (s := .tmp 3) (x := .tmp 4) (S := .ref 103) (T := .sl false 1 (l.map encI)) (xs := []) (ys := (l.map encI)) 105 [103] [] (l.map encI) (by kernel_rfl) (by kernel_rfl) (by kernel_rfl) (by kernel_rfl) ⟨by kernel_rfl, rfl⟩ ⟨rfl, rfl, (allP_encI _), rfl⟩ (by kernel_rfl) (by kernel_rfl) (by simp) (by simp only [List.length_map, List.length_append, List.length_take, List.length_drop, List.length_replicate, List.length_set, List.length_cons, List.length_nil]; omega) (by simp only [List.length_map, List.length_append, List.length_take, List.length_drop, List.length_replicate, List.length_set, List.length_cons, List.length_nil]; omega) ?_
  refine At.a 1 ?_
  refine At.done rfl ?_
  refine AW.ret ?_
  refine ⟨_, Sub.refl _ _, ?_⟩
  exact KF.m [(105, 0)] [.ref 105]
set_option maxRecDepth 100000 in
set_option maxHeartbeats 4000000 in
theorem impl_copyRaft_spec  (r : Raft) (hz : SmallR r) : FnSpec Tryz.prog 157 [.agg [.int .i64 r.id, .int .i64 r.of_, .int .i64 r.role, .int .i64 r.commit, .int .i64 r.hard.term, .int .i64 r.hard.vote, .sl false 6 (r.hard.log.map encEnt), .sl false 1 (r.yes.map encI), .sl false 1 (r.next.map encI), .sl false 1 (r.match_.map encI)]] [] (.agg [.int .i64 r.id, .int .i64 r.of_, .int .i64 r.role, .int .i64 r.commit, .int .i64 r.hard.term, .int .i64 r.hard.vote, .ref 0, .ref 1, .ref 2, .ref 3]) [.arr 45 6 (r.hard.log.map encEnt), .arr 3 1 (r.yes.map encI), .arr 3 1 (r.next.map encI), .arr 3 1 (r.match_.map encI)] := by
  obtain ⟨z1, z2, z3, z4⟩ := id hz
  refine FnSpec.of 20 Tryz.func157 rfl Tryz.ntmps157 (by simp) (AW.weakK ?_)
  refine AW.r ?_
  refine At.a 2 ?_
  refine At.done rfl ?_
  refine AW.seq ?_
  refine AW.weak (Sub.nils [⟨true, 102, some 6, 5001, 45, 6⟩, ⟨true, 102, some 7, 5002, 3, 1⟩, ⟨true, 102, some 8, 5003, 3, 1⟩, ⟨true, 102, some 9, 5004, 3, 1⟩] (by kernel_rfl)) ?_
  refine AW.region (At.start ?_)
  refine At.a 2 ?_
  refine At.c (impl_copyHard_spec  r.hard (by omega)) Tryz.call175 true [] [(1100, 0)] [] trivial ?_
  refine At.a 2 ?_
  refine At.done rfl ?_
  refine AW.seq ?_
  refine AW.regionD Tryz_mix (At.start ?_)
  refine At.a 2 ?_
  refine At.c (impl_copyInts_spec  r.yes (by omega)) Tryz.call176 true [] [(1180, 0)] [] trivial ?_
  refine At.a 2 ?_
  refine At.c (impl_copyInts_spec  r.next (by omega)) Tryz.call176 true [] [(1240, 0)] [] trivial ?_
  refine At.a 2 ?_
  refine At.c (impl_copyInts_spec  r.match_ (by omega)) Tryz.call176 true [] [(1300, 0)] [] trivial ?_
  refine At.a 6 ?_
  refine At.done rfl ⟨by kernel_rfl, ?_⟩
  refine AW.r ?_
  refine At.a 2 ?_
  refine At.done rfl ?_
  refine AW.ret ?_
  refine ⟨_, Sub.refl _ _, ?_⟩
  exact KF.m [(1100, 0), (1180, 1), (1240, 2), (1300, 3)] [.agg [.int .i64 r.id, .int .i64 r.of_, .int .i64 r.role, .int .i64 r.commit, .int .i64 r.hard.term, .int .i64 r.hard.vote, .ref 1100, .ref 1180, .ref 1240, .ref 1300]]
end Go.Proofs.YtlmadhahghiedaaGreat
