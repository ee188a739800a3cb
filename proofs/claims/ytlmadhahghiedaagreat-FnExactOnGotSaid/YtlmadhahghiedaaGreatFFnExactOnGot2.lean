/- The contracts of the functions that FnExactOnGot reaches (each: what it answers, said over values), printed by a program of this session (wip/sy/g/gen.py). -/
import Derived.Test.YtlmadhahghiedaaGreatFFnExactOnGot1
set_option linter.unusedVariables false
set_option linter.unusedSimpArgs false
namespace Go.Proofs.YtlmadhahghiedaaGreat
open Go Go.Sy Go.Proofs
set_option maxRecDepth 100000 in
set_option maxHeartbeats 4000000 in
theorem spec_l10Commit_spec  (r : Raft) (hz : SmallR r) (hc : 0 ≤ r.commit) (ho : 0 ≤ r.of_ ∧ r.of_ ≤ 5) (hm : (r.match_.length : Int) = r.of_) : FnSpec Tryz.prog 110 [.agg [.int .i64 r.id, .int .i64 r.of_, .int .i64 r.role, .int .i64 r.commit, .int .i64 r.hard.term, .int .i64 r.hard.vote, .sl false 6 (r.hard.log.map encEnt), .sl false 1 (r.yes.map encI), .sl false 1 (r.next.map encI), .sl false 1 (r.match_.map encI)]] [] (.int .i64 (commitOf r)) [] := by
  obtain ⟨z1, z2, z3, z4⟩ := id hz
  refine FnSpec.of 47 Tryz.func110 rfl Tryz.ntmps110 (by simp) (AW.weakK ?_)
  refine AW.r ?_
  refine At.a 2 ?_
  refine At.done rfl ?_
  refine AW.seq ?_
  refine AW.r ?_
  refine At.a 1 ?_
  refine At.c (spec_l10End_spec  r ) Tryz.call65 true [] [] [] trivial ?_
  refine At.a 1 ?_
  refine At.done rfl ?_
  refine AW.block ?_
  refine AW.loopW (fun (n : Int) => Go.Sy.mk [.un, .ptr 101 0 0, .un, .int .i64 n] [(101, .box 29 [.int .i64 r.id, .int .i64 r.of_, .int .i64 r.role, .int .i64 r.commit, .int .i64 r.hard.term, .int .i64 r.hard.vote, .sl false 6 (r.hard.log.map encEnt), .sl false 1 (r.yes.map encI), .sl false 1 (r.next.map encI), .sl false 1 (r.match_.map encI)])]) (fun (n : Int) => (0 ≤ n ∧ n ≤ r.hard.log.length) ∧ commitOf r = commitGo r n.toNat) (fun (n : Int) => n.toNat) (r.hard.log.length : Int) ⟨by omega, by simp [commitOf]⟩ (Sub.o [(101, 101)] [false, true, false, true]) ?_
  rintro n ⟨hn, hR⟩
  refine AW.seq ?_
  refine AW.r ?_
  refine At.a 4 ?_
  refine At.done rfl ?_
  refine AW.cD (n > r.commit) (fun h1 => ?_) (fun h1 => ?_)
  · skip
    refine AW.skip ?_
    refine AW.seq ?_
    refine AW.block ?_
    refine AW.r ?_
    refine At.a 1 ?_
    refine At.done rfl ?_
    refine AW.seq ?_
    refine AW.r ?_
    refine At.a 1 ?_
    refine At.done rfl ?_
    refine AW.block ?_
    refine AW.loopW (fun (x : Nat × Int) => match x with | (i, c) => Go.Sy.mk [.un, .ptr 101 0 0, .un, .int .i64 n, .int .i64 c, .int .i64 (i : Int)] [(101, .box 29 [.int .i64 r.id, .int .i64 r.of_, .int .i64 r.role, .int .i64 r.commit, .int .i64 r.hard.term, .int .i64 r.hard.vote, .sl false 6 (r.hard.log.map encEnt), .sl false 1 (r.yes.map encI), .sl false 1 (r.next.map encI), .sl false 1 (r.match_.map encI)])]) (fun (x : Nat × Int) => match x with | (i, c) => (i : Int) ≤ r.of_ ∧ (0 ≤ c ∧ c ≤ i) ∧ c = cntGe (r.match_.take i) n) (fun (x : Nat × Int) => match x with | (i, c) => (r.of_ : Int).toNat - i) (0, 0) ⟨by omega, by omega, by simp [cntGe]⟩ (Sub.o [(101, 101)] [false, true, false, true, true, true]) ?_
    rintro ⟨i, c⟩ ⟨hi, hc1, hc2⟩
    refine AW.seq ?_
    refine AW.r ?_
    refine At.a 4 ?_
    refine At.done rfl ?_
    refine AW.cD ((i : Int) < r.of_) (fun h2 => ?_) (fun h2 => ?_)
    · skip
      refine AW.skip ?_
      refine AW.seq ?_
      refine AW.block ?_
      refine AW.r ?_
      refine At.a 3 ?_
      refine At.iSl 27 23 (.tmp 21) (.tmp 22) false 1 (r.match_.map encI) .i64 (i : Int) 3 (by omega) (by simp only [List.length_map, List.length_append, List.length_take, List.length_drop, List.length_replicate, List.length_set, List.length_cons, List.length_nil]; omega) ?_
      refine Exists.elim (show ∃ e, r.match_[i]? = some e from ⟨_, List.getElem?_eq_getElem (by omega)⟩) fun e1 he1 => ?_
      refine At.lVp 3 24 (.tmp 23) false 1 (r.match_.map encI) i 0 false 1 (encI e1) (.int .i64 e1) (mapGet he1) ?_
      refine At.a 2 ?_
      refine At.done rfl ?_
      refine AW.cD (e1 ≥ n) (fun h3 => ?_) (fun h3 => ?_)
      · skip
        refine AW.region (At.start ?_)
        refine At.a 2 ?_
        refine At.sI 28 (c + 1) (by omega) ?_
        refine At.a 1 ?_
        refine At.done rfl ?_
        refine AW.region (At.start ?_)
        refine At.a 2 ?_
        refine At.sI 19 ((i : Int) + 1) (by omega) ?_
        refine At.a 1 ?_
        refine At.done rfl ?_
        exact ⟨(i + 1, (c + 1)), ⟨by omega, by omega, by rw [cntGe_step (by assumption), ← hc2]; first | (rw [if_pos (by assumption)]; done) | (rw [if_neg (by assumption)]; omega)⟩, (by simp only; omega), Sub.o [(101, 101)] [false, true, false, true, true, true]⟩
      · skip
        refine AW.skip ?_
        refine AW.region (At.start ?_)
        refine At.a 2 ?_
        refine At.sI 19 ((i : Int) + 1) (by omega) ?_
        refine At.a 1 ?_
        refine At.done rfl ?_
        exact ⟨(i + 1, c), ⟨by omega, by omega, by rw [cntGe_step (by assumption), ← hc2]; first | (rw [if_pos (by assumption)]; done) | (rw [if_neg (by assumption)]; omega)⟩, (by simp only; omega), Sub.o [(101, 101)] [false, true, false, true, true, true]⟩
    · skip
      refine AW.exit ?_
      refine AW.seq ?_
      refine AW.regionD Tryz_mix (At.start ?_)
      refine At.a 2 ?_
      refine At.sI 30 (2 * c) (by omega) ?_
      refine At.a 4 ?_
      by_cases h4 : (2 * c) > r.of_
      · refine At.sB 34 (decide ((2 * c) > r.of_)) true (sayT h4) ?_
        refine At.a 3 ?_
        refine At.c (spec_l10Term_spec  r.hard n (by omega)) Tryz.call115 true [] [] [] trivial ?_
        refine At.a 5 ?_
        refine At.done rfl ⟨by kernel_rfl, ?_⟩
        refine AW.cE (termAt r.hard.log n) r.hard.term (fun h5 => ?_) (fun h5 => ?_)
        · skip
          refine AW.r ?_
          refine At.a 2 ?_
          refine At.done rfl ?_
          refine AW.ret ?_
          refine ⟨_, Sub.refl _ _, ?_⟩
          refine KF.conv (fun w => .int .i64 w) (fun w => []) (show (n) = (commitOf r) from by have hcc := hc2.trans (cntGe_all (by omega)); rw [hR, commitGo_go (by omega) (by omega), if_pos]; simp only [mostB, Bool.and_eq_true, decide_eq_true_eq, beq_iff_eq, ← hcc]; omega) ?_
          exact KF.m [] [.int .i64 n]
        · skip
          refine AW.skip ?_
          refine AW.region (At.start ?_)
          refine At.a 2 ?_
          refine At.sI 13 (n - 1) (by omega) ?_
          refine At.a 1 ?_
          refine At.done rfl ?_
          exact ⟨n - 1, ⟨by omega, by have hcc := hc2.trans (cntGe_all (by omega)); rw [hR, commitGo_go (by omega) (by omega), if_neg]; simp only [mostB, Bool.and_eq_true, decide_eq_true_eq, beq_iff_eq, ← hcc]; omega⟩, (by omega), Sub.o [(101, 101)] [false, true, false, true]⟩
      · refine At.sB 34 (decide ((2 * c) > r.of_)) false (sayF h4) ?_
        refine At.a 9 ?_
        refine At.done rfl ⟨by kernel_rfl, ?_⟩
        refine AW.cond false (by kernel_rfl) (fun h => by cases h) (fun _ => ?_)
        refine AW.skip ?_
        refine AW.region (At.start ?_)
        refine At.a 2 ?_
        refine At.sI 13 (n - 1) (by omega) ?_
        refine At.a 1 ?_
        refine At.done rfl ?_
        exact ⟨n - 1, ⟨by omega, by have hcc := hc2.trans (cntGe_all (by omega)); rw [hR, commitGo_go (by omega) (by omega), if_neg]; simp only [mostB, Bool.and_eq_true, decide_eq_true_eq, beq_iff_eq, ← hcc]; omega⟩, (by omega), Sub.o [(101, 101)] [false, true, false, true]⟩
  · skip
    refine AW.exit ?_
    refine AW.r ?_
    refine At.a 3 ?_
    refine At.done rfl ?_
    refine AW.ret ?_
    refine ⟨_, Sub.refl _ _, ?_⟩
    refine KF.conv (fun w => .int .i64 w) (fun w => []) (show (r.commit) = (commitOf r) from by rw [hR, commitGo_end (by omega) (by omega)]) ?_
    exact KF.m [] [.int .i64 r.commit]
set_option maxRecDepth 100000 in
set_option maxHeartbeats 4000000 in
theorem spec_l1Min_spec  (a : Int) (b : Int) : FnSpec Tryz.prog 111 [.int .i64 a, .int .i64 b] [] (.int .i64 (min a b)) [] := by
  refine FnSpec.of 10 Tryz.func111 rfl Tryz.ntmps111 (by simp) (AW.weakK ?_)
  refine AW.r ?_
  refine At.a 1 ?_
  refine At.done rfl ?_
  refine AW.seq ?_
  refine AW.r ?_
  refine At.a 3 ?_
  refine At.done rfl ?_
  refine AW.cD (a < b) (fun h1 => ?_) (fun h1 => ?_)
  · skip
    refine AW.r ?_
    refine At.a 2 ?_
    refine At.done rfl ?_
    refine AW.ret ?_
    refine ⟨_, Sub.refl _ _, ?_⟩
    refine KF.conv (fun w => .int .i64 w) (fun w => []) (show (a) = (min a b) from by omega) ?_
    exact KF.m [] [.int .i64 a]
  · skip
    refine AW.skip ?_
    refine AW.r ?_
    refine At.a 2 ?_
    refine At.done rfl ?_
    refine AW.ret ?_
    refine ⟨_, Sub.refl _ _, ?_⟩
    refine KF.conv (fun w => .int .i64 w) (fun w => []) (show (b) = (min a b) from by omega) ?_
    exact KF.m [] [.int .i64 b]
set_option maxRecDepth 100000 in
set_option maxHeartbeats 4000000 in
theorem spec_l10Send_spec  (r : Raft) (i : Int) (hz : SmallR r) (hi : 0 ≤ i ∧ i < r.next.length) (hn : NextOk r) : FnSpec Tryz.prog 112 [.agg [.int .i64 r.id, .int .i64 r.of_, .int .i64 r.role, .int .i64 r.commit, .int .i64 r.hard.term, .int .i64 r.hard.vote, .sl false 6 (r.hard.log.map encEnt), .sl false 1 (r.yes.map encI), .sl false 1 (r.next.map encI), .sl false 1 (r.match_.map encI)], .int .i64 i] [] (.agg [.int .i64 ((sendOf r i).to), .int .i64 ((sendOf r i).msg.kind), .int .i64 ((sendOf r i).msg.from_), .int .i64 ((sendOf r i).msg.term), .int .i64 ((sendOf r i).msg.at_), .int .i64 ((sendOf r i).msg.atTerm), .int .i64 ((sendOf r i).msg.commit), .bool ((sendOf r i).msg.yes), .int .i64 ((sendOf r i).msg.release), .int .i64 ((sendOf r i).msg.part), .str ((sendOf r i).msg.bytes), .int .i64 ((sendOf r i).msg.cmd.kind), .int .i64 ((sendOf r i).msg.cmd.release), .int .i64 ((sendOf r i).msg.cmd.node), .int .i64 ((sendOf r i).msg.cmd.size), .str ((sendOf r i).msg.cmd.digest), .ref 0]) [.arr 45 6 (((sendOf r i).msg.entries).map encEnt)] := by
  obtain ⟨z1, z2, z3, z4⟩ := id hz
  refine FnSpec.of 42 Tryz.func112 rfl Tryz.ntmps112 (by simp) (AW.weakK ?_)
  refine AW.r ?_
  refine At.a 2 ?_
  refine At.done rfl ?_
  refine AW.seq ?_
  refine AW.weak (Sub.nils [⟨true, 104, some 16, 5001, 45, 6⟩] (by kernel_rfl)) ?_
  refine AW.region (At.start ?_)
  refine At.a 3 ?_
  refine At.iSl 27 10 (.tmp 8) (.tmp 9) false 1 (r.next.map encI) .i64 i 3 (by omega) (by simp only [List.length_map, List.length_append, List.length_take, List.length_drop, List.length_replicate, List.length_set, List.length_cons, List.length_nil]; omega) ?_
  refine Exists.elim (show ∃ e, r.next[(i).toNat]? = some e from ⟨_, List.getElem?_eq_getElem (by omega)⟩) fun e1 he1 => ?_
  have hxe1 := hn _ (List.mem_of_getElem? he1)
  refine At.lVp 3 11 (.tmp 10) false 1 (r.next.map encI) ((i).toNat) 0 false 1 (encI e1) (.int .i64 e1) (mapGet he1) ?_
  refine At.a 1 ?_
  refine At.sI 12 (e1 - 1) (by omega) ?_
  refine At.a 1 ?_
  refine At.done rfl ?_
  refine AW.seq ?_
  refine AW.regionD Tryz_mix (At.start ?_)
  refine At.a 9 ?_
  refine At.c (spec_l10Term_spec  r.hard (e1 - 1) (by omega)) Tryz.call115 true [] [] [] trivial ?_
  refine At.a 5 ?_
  refine At.done rfl ⟨by kernel_rfl, ?_⟩
  refine AW.seq ?_
  refine AW.weak (Sub.nils [⟨true, 106, some 15, 5002, 45, 6⟩] (by kernel_rfl)) ?_
  refine AW.regionD Tryz_mix (At.start ?_)
  refine At.lit0 (t := 24) (d := 26) (e := 45) (es := 6) (bytes := 56) 126 (by kernel_rfl) (by kernel_rfl) (by kernel_rfl) (by kernel_rfl) ?_
  refine At.a 6 ?_
  refine At.sJ 32 ((e1 - 1) + 6) (e1 + 5) (by omega) (by omega) ?_
  refine At.a 1 ?_
  refine At.c (spec_l10End_spec  r ) Tryz.call65 true [] [] [] trivial ?_
  refine At.c (spec_l1Min_spec  (e1 + 5) (r.hard.log.length : Int) ) Tryz.call111 true [] [] [] trivial ?_
  refine At.sliceSl (t := 24) (d := 36) (e := 45) (es := 6) (x := .tmp 29) (lx := some (.tmp 30)) (hx := some (.tmp 35)) (p := false) (xs := (r.hard.log.map encEnt)) (vl := .int .i64 (e1 - 1)) (vh := .int .i64 (min (e1 + 5) (r.hard.log.length : Int))) ((e1 - 1).toNat) ((min (e1 + 5) (r.hard.log.length : Int)).toNat) (((r.hard.log.drop ((e1 - 1).toNat)).take (((min (e1 + 5) (r.hard.log.length : Int)).toNat) - ((e1 - 1).toNat))).map encEnt) (by kernel_rfl) (by kernel_rfl) (by kernel_rfl) (by kernel_rfl) (.inr ⟨_, _, rfl, sayNat (by omega)⟩) (.inr ⟨_, _, rfl, sayNat (by omega)⟩) (by omega) (by simp only [List.length_map, List.length_append, List.length_take, List.length_drop, List.length_replicate, List.length_set, List.length_cons, List.length_nil]; omega) (by simp [List.map_take, List.map_drop]) ?_
  refine At.append (t := 24) (d := 37) (e := 45) (es := 6) (bytes := 56) (s := .tmp 26) (x := .tmp 36) (S := .ref 126) (T := .sl false 6 (((r.hard.log.drop ((e1 - 1).toNat)).take (((min (e1 + 5) (r.hard.log.length : Int)).toNat) - ((e1 - 1).toNat))).map encEnt)) (xs := []) (ys := (((r.hard.log.drop ((e1 - 1).toNat)).take (((min (e1 + 5) (r.hard.log.length : Int)).toNat) - ((e1 - 1).toNat))).map encEnt)) 137 [126] [] (((r.hard.log.drop ((e1 - 1).toNat)).take (((min (e1 + 5) (r.hard.log.length : Int)).toNat) - ((e1 - 1).toNat))).map encEnt) (by kernel_rfl) (by kernel_rfl) (by kernel_rfl) (by kernel_rfl) ⟨by kernel_rfl, rfl⟩ ⟨rfl, rfl, (allP_encEnt _), rfl⟩ (by kernel_rfl) (by kernel_rfl) (by simp) (by simp only [List.length_map, List.length_append, List.length_take, List.length_drop, List.length_replicate, List.length_set, List.length_cons, List.length_nil]; omega) (by simp only [List.length_map, List.length_append, List.length_take, List.length_drop, List.length_replicate, List.length_set, List.length_cons, List.length_nil]; omega) ?_
  refine At.a 2 ?_
  refine At.done rfl ⟨by kernel_rfl, ?_⟩
  refine AW.r ?_
  refine At.a 4 ?_
  refine At.done rfl ?_
  refine AW.ret ?_
  refine ⟨_, Sub.refl _ _, ?_⟩
  refine KF.conv (fun w => .agg [.int .i64 w.to, .int .i64 w.msg.kind, .int .i64 w.msg.from_, .int .i64 w.msg.term, .int .i64 w.msg.at_, .int .i64 w.msg.atTerm, .int .i64 w.msg.commit, .bool w.msg.yes, .int .i64 w.msg.release, .int .i64 w.msg.part, .str w.msg.bytes, .int .i64 w.msg.cmd.kind, .int .i64 w.msg.cmd.release, .int .i64 w.msg.cmd.node, .int .i64 w.msg.cmd.size, .str w.msg.cmd.digest, .ref 0]) (fun w => [.arr 45 6 (w.msg.entries.map encEnt)]) (show ((⟨i, ⟨3, r.id, r.hard.term, e1 - 1, termAt r.hard.log (e1 - 1), r.commit, false, 0, 0, (⟨#[]⟩ : ByteArray), ⟨0, 0, 0, 0, (⟨#[]⟩ : ByteArray)⟩, (r.hard.log.drop ((e1 - 1).toNat)).take (((min (e1 + 5) (r.hard.log.length : Int)).toNat) - ((e1 - 1).toNat))⟩⟩ : Out)) = (sendOf r i) from by simp only [sendOf, nextOf, he1, Option.getD_some]; rw [takeMin _ _ 6 _ (by omega)]; rfl) ?_
  exact KF.m [(137, 0)] [.agg [.int .i64 i, .int .i64 3, .int .i64 r.id, .int .i64 r.hard.term, .int .i64 (e1 - 1), .int .i64 (termAt r.hard.log (e1 - 1)), .int .i64 r.commit, .bool false, .int .i64 0, .int .i64 0, .str (⟨#[]⟩ : ByteArray), .int .i64 0, .int .i64 0, .int .i64 0, .int .i64 0, .str (⟨#[]⟩ : ByteArray), .ref 137]]
set_option maxRecDepth 100000 in
set_option maxHeartbeats 4000000 in
theorem spec_OnGot_spec  (r : Raft) (m : Msg) (hz : SmallR r) (hm : m.entries.length ≤ 1048576) : FnSpec Tryz.prog 35 [.agg [.int .i64 r.id, .int .i64 r.of_, .int .i64 r.role, .int .i64 r.commit, .int .i64 r.hard.term, .int .i64 r.hard.vote, .sl false 6 (r.hard.log.map encEnt), .sl false 1 (r.yes.map encI), .sl false 1 (r.next.map encI), .sl false 1 (r.match_.map encI)], .agg [.int .i64 m.kind, .int .i64 m.from_, .int .i64 m.term, .int .i64 m.at_, .int .i64 m.atTerm, .int .i64 m.commit, .bool m.yes, .int .i64 m.release, .int .i64 m.part, .str m.bytes, .int .i64 m.cmd.kind, .int .i64 m.cmd.release, .int .i64 m.cmd.node, .int .i64 m.cmd.size, .str m.cmd.digest, .sl false 6 (m.entries.map encEnt)]] [] (.tup [.agg [.int .i64 (((gots r m).1).id), .int .i64 (((gots r m).1).of_), .int .i64 (((gots r m).1).role), .int .i64 (((gots r m).1).commit), .int .i64 (((gots r m).1).hard.term), .int .i64 (((gots r m).1).hard.vote), .ref 0, .ref 1, .ref 2, .ref 3], .ref 4, .ref 5]) [.arr 45 6 ((((gots r m).1).hard.log).map encEnt), .arr 3 1 ((((gots r m).1).yes).map encI), .arr 3 1 ((((gots r m).1).next).map encI), .arr 3 1 ((((gots r m).1).match_).map encI), .arr 47 10 (((gots r m).2.1).map encRec), .arr 51 17 (((gots r m).2.2).map encOut)] := by
  obtain ⟨z1, z2, z3, z4⟩ := id hz
  refine FnSpec.of 117 Tryz.func35 rfl Tryz.ntmps35 (by simp) (AW.weakK ?_)
  by_cases hok : raftOk r = true
  · skip
    have hokn := raftOk1_nums (raftOk_1 hok)
    refine AW.r ?_
    refine At.a 5 ?_
    refine At.done rfl ?_
    refine AW.seq ?_
    refine AW.weak (Sub.nils [⟨true, 104, some 6, 5001, 45, 6⟩, ⟨true, 104, some 7, 5002, 3, 1⟩, ⟨true, 104, some 8, 5003, 3, 1⟩, ⟨true, 104, some 9, 5004, 3, 1⟩] (by kernel_rfl)) ?_
    refine AW.region (At.start ?_)
    refine At.a 1 ?_
    refine At.c (spec_l10Same_T_spec  r (by exact hz) hok) Tryz.call97 true [] [(1220, 0), (1221, 1), (1222, 2), (1223, 3)] [] trivial ?_
    refine At.lit0 (t := 37) (d := 12) (e := 47) (es := 10) (bytes := 88) 112 (by kernel_rfl) (by kernel_rfl) (by kernel_rfl) (by kernel_rfl) ?_
    refine At.lit0 (t := 38) (d := 13) (e := 51) (es := 17) (bytes := 168) 113 (by kernel_rfl) (by kernel_rfl) (by kernel_rfl) (by kernel_rfl) ?_
    refine At.a 4 ?_
    refine At.done rfl ?_
    refine AW.seq ?_
    refine AW.r ?_
    refine At.a 2 ?_
    refine At.c (spec_l10Hears_spec  r m 4 (by exact hz) hm) Tryz.call108 true [] [] [] trivial ?_
    refine At.a 1 ?_
    refine At.done rfl ?_
    refine AW.cNB (hears r m 4) (fun h1 => ?_) (fun h1 => ?_)
    · skip
      refine AW.r ?_
      refine At.a 6 ?_
      refine At.done rfl ?_
      refine AW.ret ?_
      refine ⟨_, Sub.refl _ _, ?_⟩
      refine KF.conv (fun w => .tup [.agg [.int .i64 w.id, .int .i64 w.of_, .int .i64 w.role, .int .i64 w.commit, .int .i64 w.hard.term, .int .i64 w.hard.vote, .ref 0, .ref 1, .ref 2, .ref 3], .ref 4, .ref 5]) (fun w => [.arr 45 6 (w.hard.log.map encEnt), .arr 3 1 (w.yes.map encI), .arr 3 1 (w.next.map encI), .arr 3 1 (w.match_.map encI), .arr 47 10 (((gots r m).2.1).map encRec), .arr 51 17 (((gots r m).2.2).map encOut)]) (show (r) = ((gots r m).1) from by rw [gots_un (by assumption) hok]; first | done | rfl | (rw [endRecs_ne (by dsimp only; omega)]; rfl) | (rw [endRecs_eq rfl rfl]; done) | (rw [endRecs_eq rfl rfl]; rfl)) ?_
      refine KF.conv (fun w => .tup [.agg [.int .i64 r.id, .int .i64 r.of_, .int .i64 r.role, .int .i64 r.commit, .int .i64 r.hard.term, .int .i64 r.hard.vote, .ref 0, .ref 1, .ref 2, .ref 3], .ref 4, .ref 5]) (fun w => [.arr 45 6 (r.hard.log.map encEnt), .arr 3 1 (r.yes.map encI), .arr 3 1 (r.next.map encI), .arr 3 1 (r.match_.map encI), .arr 47 10 (w.map encRec), .arr 51 17 (((gots r m).2.2).map encOut)]) (show ([]) = ((gots r m).2.1) from by rw [gots_un (by assumption) hok]; first | done | rfl | (rw [endRecs_ne (by dsimp only; omega)]; rfl) | (rw [endRecs_eq rfl rfl]; done) | (rw [endRecs_eq rfl rfl]; rfl)) ?_
      refine KF.conv (fun w => .tup [.agg [.int .i64 r.id, .int .i64 r.of_, .int .i64 r.role, .int .i64 r.commit, .int .i64 r.hard.term, .int .i64 r.hard.vote, .ref 0, .ref 1, .ref 2, .ref 3], .ref 4, .ref 5]) (fun w => [.arr 45 6 (r.hard.log.map encEnt), .arr 3 1 (r.yes.map encI), .arr 3 1 (r.next.map encI), .arr 3 1 (r.match_.map encI), .arr 47 10 [], .arr 51 17 (w.map encOut)]) (show ([]) = ((gots r m).2.2) from by rw [gots_un (by assumption) hok]; first | done | rfl | (rw [endRecs_ne (by dsimp only; omega)]; rfl) | (rw [endRecs_eq rfl rfl]; done) | (rw [endRecs_eq rfl rfl]; rfl)) ?_
      exact KF.m [(1220, 0), (1221, 1), (1222, 2), (1223, 3), (112, 4), (113, 5)] [.agg [.int .i64 r.id, .int .i64 r.of_, .int .i64 r.role, .int .i64 r.commit, .int .i64 r.hard.term, .int .i64 r.hard.vote, .ref 1220, .ref 1221, .ref 1222, .ref 1223], .ref 112, .ref 113]
    · skip
      have hhr := hears_ok h1
      have hnu := msgFits_nums hhr.2.1
      refine AW.skip ?_
      refine AW.seq ?_
      refine AW.r ?_
      refine At.a 6 ?_
      refine At.done rfl ?_
      refine AW.cD (m.term > r.hard.term) (fun h2 => ?_) (fun h2 => ?_)
      · skip
        refine AW.r ?_
        refine At.a 3 ?_
        refine At.c (spec_l10Follow_spec  r m.term ) Tryz.call109 true [(1220, 0), (1221, 1), (1222, 2), (1223, 3)] [(1600, 4), (1601, 5), (1602, 6)] [] trivial ?_
        refine At.a 1 ?_
        refine At.done rfl ?_
        refine AW.seq ?_
        refine AW.regionD Tryz_mix (At.start ?_)
        refine At.a 3 ?_
        refine At.c (spec_l10Vote_spec  (⟨r.id, r.of_, 1, r.commit, ⟨m.term, 0, r.hard.log⟩, [], [], []⟩ : Raft) ) Tryz.call98 false [] [] [(1220, 6, (r.hard.log.map encEnt)), (1600, 1, []), (1601, 1, []), (1602, 1, [])] ⟨rfl, ⟨45, (r.hard.log.map encEnt), by kernel_rfl, FrzIs.same (allP_encEnt _)⟩, rfl, ⟨3, [], by kernel_rfl, FrzIs.same (fun _ h => by cases h)⟩, rfl, ⟨3, [], by kernel_rfl, FrzIs.same (fun _ h => by cases h)⟩, rfl, ⟨3, [], by kernel_rfl, FrzIs.same (fun _ h => by cases h)⟩, trivial⟩ ?_
        refine At.litK (t := 37) (d := 35) (e := 47) (es := 10) (bytes := 88) (n := 1) (parts := #[(0, .tmp 34)]) (45, 6) 135 [] [.int .i64 1, .int .i64 m.term, .int .i64 0, .int .i64 0, .int .i64 0, .int .i64 0, .int .i64 0, .int .i64 0, .int .i64 0, .str (⟨#[]⟩ : ByteArray)] [.int .i64 1, .int .i64 m.term, .int .i64 0, .int .i64 0, .int .i64 0, .int .i64 0, .int .i64 0, .int .i64 0, .int .i64 0, .str (⟨#[]⟩ : ByteArray)] [.int .i64 0, .int .i64 0, .int .i64 0, .int .i64 0, .int .i64 0, .int .i64 0, .int .i64 0, .int .i64 0, .int .i64 0, .str (⟨#[]⟩ : ByteArray)] [.agg [.int .i64 1, .int .i64 m.term, .int .i64 0, .int .i64 0, .int .i64 0, .int .i64 0, .int .i64 0, .int .i64 0, .int .i64 0, .str (⟨#[]⟩ : ByteArray)]] [] (by kernel_rfl) (by kernel_rfl) (by kernel_rfl) (by kernel_rfl) rfl (fun p hp => by cases hp) (by kernel_rfl) ?_
        refine At.append (t := 37) (d := 36) (e := 47) (es := 10) (bytes := 88) (s := .tmp 32) (x := .tmp 35) (S := .ref 112) (T := .ref 135) (xs := []) (ys := (([(⟨1, m.term, 0, 0, ⟨0, ⟨0, 0, 0, 0, (⟨#[]⟩ : ByteArray)⟩⟩⟩ : Rec)]).map encRec)) 136 [112] [135] (([(⟨1, m.term, 0, 0, ⟨0, ⟨0, 0, 0, 0, (⟨#[]⟩ : ByteArray)⟩⟩⟩ : Rec)]).map encRec) (by kernel_rfl) (by kernel_rfl) (by kernel_rfl) (by kernel_rfl) ⟨by kernel_rfl, rfl⟩ ⟨by kernel_rfl, .inr rfl⟩ (by kernel_rfl) (by kernel_rfl) (by simp) (by simp only [List.length_map, List.length_append, List.length_take, List.length_drop, List.length_replicate, List.length_set, List.length_cons, List.length_nil]; omega) (by simp only [List.length_map, List.length_append, List.length_take, List.length_drop, List.length_replicate, List.length_set, List.length_cons, List.length_nil]; omega) ?_
        refine At.a 4 ?_
        refine At.done rfl ⟨by kernel_rfl, ?_⟩
        refine AW.ret ?_
        refine ⟨_, Sub.refl _ _, ?_⟩
        refine KF.conv (fun w => .tup [.agg [.int .i64 w.id, .int .i64 w.of_, .int .i64 w.role, .int .i64 w.commit, .int .i64 w.hard.term, .int .i64 w.hard.vote, .ref 0, .ref 1, .ref 2, .ref 3], .ref 4, .ref 5]) (fun w => [.arr 45 6 (w.hard.log.map encEnt), .arr 3 1 (w.yes.map encI), .arr 3 1 (w.next.map encI), .arr 3 1 (w.match_.map encI), .arr 47 10 (((gots r m).2.1).map encRec), .arr 51 17 (((gots r m).2.2).map encOut)]) (show ((⟨r.id, r.of_, 1, r.commit, ⟨m.term, 0, r.hard.log⟩, [], [], []⟩ : Raft)) = ((gots r m).1) from by rw [gots_term h1 (by omega)]; first | done | rfl | (rw [endRecs_ne (by dsimp only; omega)]; rfl) | (rw [endRecs_eq rfl rfl]; done) | (rw [endRecs_eq rfl rfl]; rfl)) ?_
        refine KF.conv (fun w => .tup [.agg [.int .i64 r.id, .int .i64 r.of_, .int .i64 1, .int .i64 r.commit, .int .i64 m.term, .int .i64 0, .ref 0, .ref 1, .ref 2, .ref 3], .ref 4, .ref 5]) (fun w => [.arr 45 6 (r.hard.log.map encEnt), .arr 3 1 [], .arr 3 1 [], .arr 3 1 [], .arr 47 10 (w.map encRec), .arr 51 17 (((gots r m).2.2).map encOut)]) (show ([(⟨1, m.term, 0, 0, ⟨0, ⟨0, 0, 0, 0, (⟨#[]⟩ : ByteArray)⟩⟩⟩ : Rec)]) = ((gots r m).2.1) from by rw [gots_term h1 (by omega)]; first | done | rfl | (rw [endRecs_ne (by dsimp only; omega)]; rfl) | (rw [endRecs_eq rfl rfl]; done) | (rw [endRecs_eq rfl rfl]; rfl)) ?_
        refine KF.conv (fun w => .tup [.agg [.int .i64 r.id, .int .i64 r.of_, .int .i64 1, .int .i64 r.commit, .int .i64 m.term, .int .i64 0, .ref 0, .ref 1, .ref 2, .ref 3], .ref 4, .ref 5]) (fun w => [.arr 45 6 (r.hard.log.map encEnt), .arr 3 1 [], .arr 3 1 [], .arr 3 1 [], .arr 47 10 (([(⟨1, m.term, 0, 0, ⟨0, ⟨0, 0, 0, 0, (⟨#[]⟩ : ByteArray)⟩⟩⟩ : Rec)]).map encRec), .arr 51 17 (w.map encOut)]) (show ([]) = ((gots r m).2.2) from by rw [gots_term h1 (by omega)]; first | done | rfl | (rw [endRecs_ne (by dsimp only; omega)]; rfl) | (rw [endRecs_eq rfl rfl]; done) | (rw [endRecs_eq rfl rfl]; rfl)) ?_
        exact KF.m [(1220, 0), (1600, 1), (1601, 2), (1602, 3), (136, 4), (113, 5)] [.agg [.int .i64 r.id, .int .i64 r.of_, .int .i64 1, .int .i64 r.commit, .int .i64 m.term, .int .i64 0, .ref 1220, .ref 1600, .ref 1601, .ref 1602], .ref 136, .ref 113]
      · skip
        refine AW.skip ?_
        refine AW.seq ?_
        refine AW.r ?_
        refine At.a 4 ?_
        by_cases h3 : r.role = 3
        · refine At.sB 41 (r.role != 3) false (sayUF h3) ?_
          have hnx := raftOk_next hok h3
          have hmx := raftOk_match hok h3
          refine At.a 7 ?_
          refine At.done rfl ?_
          refine AW.cU m.term r.hard.term (fun h4 => ?_) (fun h4 => ?_)
          · skip
            refine AW.r ?_
            refine At.a 6 ?_
            refine At.done rfl ?_
            refine AW.ret ?_
            refine ⟨_, Sub.refl _ _, ?_⟩
            refine KF.conv (fun w => .tup [.agg [.int .i64 w.id, .int .i64 w.of_, .int .i64 w.role, .int .i64 w.commit, .int .i64 w.hard.term, .int .i64 w.hard.vote, .ref 0, .ref 1, .ref 2, .ref 3], .ref 4, .ref 5]) (fun w => [.arr 45 6 (w.hard.log.map encEnt), .arr 3 1 (w.yes.map encI), .arr 3 1 (w.next.map encI), .arr 3 1 (w.match_.map encI), .arr 47 10 (((gots r m).2.1).map encRec), .arr 51 17 (((gots r m).2.2).map encOut)]) (show (r) = ((gots r m).1) from by rw [gots_not h1 (by omega) (by omega)]; first | done | rfl | (rw [endRecs_ne (by dsimp only; omega)]; rfl) | (rw [endRecs_eq rfl rfl]; done) | (rw [endRecs_eq rfl rfl]; rfl)) ?_
            refine KF.conv (fun w => .tup [.agg [.int .i64 r.id, .int .i64 r.of_, .int .i64 r.role, .int .i64 r.commit, .int .i64 r.hard.term, .int .i64 r.hard.vote, .ref 0, .ref 1, .ref 2, .ref 3], .ref 4, .ref 5]) (fun w => [.arr 45 6 (r.hard.log.map encEnt), .arr 3 1 (r.yes.map encI), .arr 3 1 (r.next.map encI), .arr 3 1 (r.match_.map encI), .arr 47 10 (w.map encRec), .arr 51 17 (((gots r m).2.2).map encOut)]) (show ([]) = ((gots r m).2.1) from by rw [gots_not h1 (by omega) (by omega)]; first | done | rfl | (rw [endRecs_ne (by dsimp only; omega)]; rfl) | (rw [endRecs_eq rfl rfl]; done) | (rw [endRecs_eq rfl rfl]; rfl)) ?_
            refine KF.conv (fun w => .tup [.agg [.int .i64 r.id, .int .i64 r.of_, .int .i64 r.role, .int .i64 r.commit, .int .i64 r.hard.term, .int .i64 r.hard.vote, .ref 0, .ref 1, .ref 2, .ref 3], .ref 4, .ref 5]) (fun w => [.arr 45 6 (r.hard.log.map encEnt), .arr 3 1 (r.yes.map encI), .arr 3 1 (r.next.map encI), .arr 3 1 (r.match_.map encI), .arr 47 10 [], .arr 51 17 (w.map encOut)]) (show ([]) = ((gots r m).2.2) from by rw [gots_not h1 (by omega) (by omega)]; first | done | rfl | (rw [endRecs_ne (by dsimp only; omega)]; rfl) | (rw [endRecs_eq rfl rfl]; done) | (rw [endRecs_eq rfl rfl]; rfl)) ?_
            exact KF.m [(1220, 0), (1221, 1), (1222, 2), (1223, 3), (112, 4), (113, 5)] [.agg [.int .i64 r.id, .int .i64 r.of_, .int .i64 r.role, .int .i64 r.commit, .int .i64 r.hard.term, .int .i64 r.hard.vote, .ref 1220, .ref 1221, .ref 1222, .ref 1223], .ref 112, .ref 113]
          · skip
            refine AW.skip ?_
            refine AW.seq ?_
            refine AW.r ?_
            refine At.a 2 ?_
            refine At.done rfl ?_
            refine AW.cB (m.yes) (fun h5 => ?_) (fun h5 => ?_)
            · skip
              refine AW.seq ?_
              refine AW.seq ?_
              refine AW.regionD Tryz_mix (At.start ?_)
              refine At.a 3 ?_
              refine At.c (spec_l10End_spec  r ) Tryz.call65 true [] [] [] trivial ?_
              refine At.a 1 ?_
              refine At.done rfl ⟨by kernel_rfl, ?_⟩
              refine AW.cD (m.at_ ≤ (r.hard.log.length : Int)) (fun h6 => ?_) (fun h6 => ?_)
              · skip
                refine AW.seq ?_
                refine AW.regionD Tryz_mix (At.start ?_)
                refine At.a 8 ?_
                refine At.iRf 27 67 (.tmp 64) (.tmp 66) 1223 (r.match_.map encI) .i64 m.from_ 3 1 (by omega) (by simp only [List.length_map, List.length_append, List.length_take, List.length_drop, List.length_replicate, List.length_set, List.length_cons, List.length_nil]; omega) ?_
                refine Exists.elim (show ∃ e, r.match_[(m.from_).toNat]? = some e from ⟨_, List.getElem?_eq_getElem (by omega)⟩) fun e1 he1 => ?_
                have hxe1 := hmx _ (List.mem_of_getElem? he1)
                refine At.lEl 3 68 (.tmp 67) 1223 3 1 (r.match_.map encI) ((m.from_).toNat) 0 false 1 (encI e1) (.int .i64 e1) (mapGet he1) ?_
                refine At.a 2 ?_
                refine At.c (spec_l1Max_spec  e1 m.at_ ) Tryz.call59 true [] [] [] trivial ?_
                refine At.iRf 27 72 (.tmp 60) (.tmp 62) 1223 (r.match_.map encI) .i64 m.from_ 3 1 (by omega) (by simp only [List.length_map, List.length_append, List.length_take, List.length_drop, List.length_replicate, List.length_set, List.length_cons, List.length_nil]; omega) ?_
                refine At.sEl 3 1223 3 1 ((m.from_).toNat) 0 (.tmp 72) (.tmp 71) (r.match_.map encI) ((r.match_.set ((m.from_).toNat) (max e1 m.at_)).map encI) [.int .i64 (max e1 m.at_)] (.int .i64 (max e1 m.at_)) (encI e1) (encI (max e1 m.at_)) (mapGet he1) setV ?_
                refine At.done rfl ⟨by kernel_rfl, ?_⟩
                refine AW.seq ?_
                refine AW.regionD Tryz_mix (At.start ?_)
                refine At.a 8 ?_
                refine At.iRf 27 81 (.tmp 78) (.tmp 80) 1223 ((r.match_.set ((m.from_).toNat) (max e1 m.at_)).map encI) .i64 m.from_ 3 1 (by omega) (by simp only [List.length_map, List.length_append, List.length_take, List.length_drop, List.length_replicate, List.length_set, List.length_cons, List.length_nil]; omega) ?_
                refine At.lEl 3 82 (.tmp 81) 1223 3 1 ((r.match_.set ((m.from_).toNat) (max e1 m.at_)).map encI) ((m.from_).toNat) 0 false 1 (encI (max e1 m.at_)) (.int .i64 (max e1 m.at_)) (mapGet (setGet he1)) ?_
                refine At.a 1 ?_
                refine At.sI 83 ((max e1 m.at_) + 1) (by omega) ?_
                refine At.iRf 27 84 (.tmp 74) (.tmp 76) 1222 (r.next.map encI) .i64 m.from_ 3 1 (by omega) (by simp only [List.length_map, List.length_append, List.length_take, List.length_drop, List.length_replicate, List.length_set, List.length_cons, List.length_nil]; omega) ?_
                refine Exists.elim (show ∃ e, r.next[(m.from_).toNat]? = some e from ⟨_, List.getElem?_eq_getElem (by omega)⟩) fun e2 he2 => ?_
                have hxe2 := hnx.2.1 _ (List.mem_of_getElem? he2)
                refine At.sEl 3 1222 3 1 ((m.from_).toNat) 0 (.tmp 84) (.tmp 83) (r.next.map encI) ((r.next.set ((m.from_).toNat) ((max e1 m.at_) + 1)).map encI) [.int .i64 ((max e1 m.at_) + 1)] (.int .i64 ((max e1 m.at_) + 1)) (encI e2) (encI ((max e1 m.at_) + 1)) (mapGet he2) setV ?_
                refine At.done rfl ⟨by kernel_rfl, ?_⟩
                refine AW.region (At.start ?_)
                refine At.a 1 ?_
                refine At.c (spec_l10Commit_spec  (⟨r.id, r.of_, r.role, r.commit, r.hard, r.yes, r.next.set ((m.from_).toNat) ((max e1 m.at_) + 1), r.match_.set ((m.from_).toNat) (max e1 m.at_)⟩ : Raft) (by unfold SmallR; simp only [List.length_set]; omega) (by dsimp only; omega) (by dsimp only; omega) (by dsimp only; simp only [List.length_set]; omega)) Tryz.call110 false [] [] [(1220, 6, (r.hard.log.map encEnt)), (1221, 1, (r.yes.map encI)), (1222, 1, ((r.next.set ((m.from_).toNat) ((max e1 m.at_) + 1)).map encI)), (1223, 1, ((r.match_.set ((m.from_).toNat) (max e1 m.at_)).map encI))] ⟨rfl, ⟨45, (r.hard.log.map encEnt), by kernel_rfl, FrzIs.same (allP_encEnt _)⟩, rfl, ⟨3, (r.yes.map encI), by kernel_rfl, FrzIs.same (allP_encI _)⟩, rfl, ⟨3, ((r.next.set ((m.from_).toNat) ((max e1 m.at_) + 1)).map encI), by kernel_rfl, FrzIs.same (allP_encI _)⟩, rfl, ⟨3, ((r.match_.set ((m.from_).toNat) (max e1 m.at_)).map encI), by kernel_rfl, FrzIs.same (allP_encI _)⟩, trivial⟩ ?_
                refine At.a 2 ?_
                refine At.done rfl ?_
                refine AW.r ?_
                refine At.a 6 ?_
                refine At.done rfl ?_
                refine AW.ret ?_
                refine ⟨_, Sub.refl _ _, ?_⟩
                refine KF.conv (fun w => .tup [.agg [.int .i64 w.id, .int .i64 w.of_, .int .i64 w.role, .int .i64 w.commit, .int .i64 w.hard.term, .int .i64 w.hard.vote, .ref 0, .ref 1, .ref 2, .ref 3], .ref 4, .ref 5]) (fun w => [.arr 45 6 (w.hard.log.map encEnt), .arr 3 1 (w.yes.map encI), .arr 3 1 (w.next.map encI), .arr 3 1 (w.match_.map encI), .arr 47 10 (((gots r m).2.1).map encRec), .arr 51 17 (((gots r m).2.2).map encOut)]) (show ((⟨r.id, r.of_, r.role, commitOf (⟨r.id, r.of_, r.role, r.commit, r.hard, r.yes, r.next.set ((m.from_).toNat) ((max e1 m.at_) + 1), r.match_.set ((m.from_).toNat) (max e1 m.at_)⟩ : Raft), r.hard, r.yes, r.next.set ((m.from_).toNat) ((max e1 m.at_) + 1), r.match_.set ((m.from_).toNat) (max e1 m.at_)⟩ : Raft)) = ((gots r m).1) from by rw [gots_yes h1 (by omega) (by omega) (by omega) (by assumption) (by omega) (by assumption)]; first | done | rfl | (rw [endRecs_ne (by dsimp only; omega)]; rfl) | (rw [endRecs_eq rfl rfl]; done) | (rw [endRecs_eq rfl rfl]; rfl)) ?_
                refine KF.conv (fun w => .tup [.agg [.int .i64 r.id, .int .i64 r.of_, .int .i64 r.role, .int .i64 (commitOf (⟨r.id, r.of_, r.role, r.commit, r.hard, r.yes, r.next.set ((m.from_).toNat) ((max e1 m.at_) + 1), r.match_.set ((m.from_).toNat) (max e1 m.at_)⟩ : Raft)), .int .i64 r.hard.term, .int .i64 r.hard.vote, .ref 0, .ref 1, .ref 2, .ref 3], .ref 4, .ref 5]) (fun w => [.arr 45 6 (r.hard.log.map encEnt), .arr 3 1 (r.yes.map encI), .arr 3 1 ((r.next.set ((m.from_).toNat) ((max e1 m.at_) + 1)).map encI), .arr 3 1 ((r.match_.set ((m.from_).toNat) (max e1 m.at_)).map encI), .arr 47 10 (w.map encRec), .arr 51 17 (((gots r m).2.2).map encOut)]) (show ([]) = ((gots r m).2.1) from by rw [gots_yes h1 (by omega) (by omega) (by omega) (by assumption) (by omega) (by assumption)]; first | done | rfl | (rw [endRecs_ne (by dsimp only; omega)]; rfl) | (rw [endRecs_eq rfl rfl]; done) | (rw [endRecs_eq rfl rfl]; rfl)) ?_
                refine KF.conv (fun w => .tup [.agg [.int .i64 r.id, .int .i64 r.of_, .int .i64 r.role, .int .i64 (commitOf (⟨r.id, r.of_, r.role, r.commit, r.hard, r.yes, r.next.set ((m.from_).toNat) ((max e1 m.at_) + 1), r.match_.set ((m.from_).toNat) (max e1 m.at_)⟩ : Raft)), .int .i64 r.hard.term, .int .i64 r.hard.vote, .ref 0, .ref 1, .ref 2, .ref 3], .ref 4, .ref 5]) (fun w => [.arr 45 6 (r.hard.log.map encEnt), .arr 3 1 (r.yes.map encI), .arr 3 1 ((r.next.set ((m.from_).toNat) ((max e1 m.at_) + 1)).map encI), .arr 3 1 ((r.match_.set ((m.from_).toNat) (max e1 m.at_)).map encI), .arr 47 10 [], .arr 51 17 (w.map encOut)]) (show ([]) = ((gots r m).2.2) from by rw [gots_yes h1 (by omega) (by omega) (by omega) (by assumption) (by omega) (by assumption)]; first | done | rfl | (rw [endRecs_ne (by dsimp only; omega)]; rfl) | (rw [endRecs_eq rfl rfl]; done) | (rw [endRecs_eq rfl rfl]; rfl)) ?_
                exact KF.m [(1220, 0), (1221, 1), (1222, 2), (1223, 3), (112, 4), (113, 5)] [.agg [.int .i64 r.id, .int .i64 r.of_, .int .i64 r.role, .int .i64 (commitOf (⟨r.id, r.of_, r.role, r.commit, r.hard, r.yes, r.next.set ((m.from_).toNat) ((max e1 m.at_) + 1), r.match_.set ((m.from_).toNat) (max e1 m.at_)⟩ : Raft)), .int .i64 r.hard.term, .int .i64 r.hard.vote, .ref 1220, .ref 1221, .ref 1222, .ref 1223], .ref 112, .ref 113]
              · skip
                refine AW.skip ?_
                refine AW.r ?_
                refine At.a 6 ?_
                refine At.done rfl ?_
                refine AW.ret ?_
                refine ⟨_, Sub.refl _ _, ?_⟩
                refine KF.conv (fun w => .tup [.agg [.int .i64 w.id, .int .i64 w.of_, .int .i64 w.role, .int .i64 w.commit, .int .i64 w.hard.term, .int .i64 w.hard.vote, .ref 0, .ref 1, .ref 2, .ref 3], .ref 4, .ref 5]) (fun w => [.arr 45 6 (w.hard.log.map encEnt), .arr 3 1 (w.yes.map encI), .arr 3 1 (w.next.map encI), .arr 3 1 (w.match_.map encI), .arr 47 10 (((gots r m).2.1).map encRec), .arr 51 17 (((gots r m).2.2).map encOut)]) (show (r) = ((gots r m).1) from by rw [gots_far h1 (by omega) (by omega) (by omega) (by assumption) (by omega)]; first | done | rfl | (rw [endRecs_ne (by dsimp only; omega)]; rfl) | (rw [endRecs_eq rfl rfl]; done) | (rw [endRecs_eq rfl rfl]; rfl)) ?_
                refine KF.conv (fun w => .tup [.agg [.int .i64 r.id, .int .i64 r.of_, .int .i64 r.role, .int .i64 r.commit, .int .i64 r.hard.term, .int .i64 r.hard.vote, .ref 0, .ref 1, .ref 2, .ref 3], .ref 4, .ref 5]) (fun w => [.arr 45 6 (r.hard.log.map encEnt), .arr 3 1 (r.yes.map encI), .arr 3 1 (r.next.map encI), .arr 3 1 (r.match_.map encI), .arr 47 10 (w.map encRec), .arr 51 17 (((gots r m).2.2).map encOut)]) (show ([]) = ((gots r m).2.1) from by rw [gots_far h1 (by omega) (by omega) (by omega) (by assumption) (by omega)]; first | done | rfl | (rw [endRecs_ne (by dsimp only; omega)]; rfl) | (rw [endRecs_eq rfl rfl]; done) | (rw [endRecs_eq rfl rfl]; rfl)) ?_
                refine KF.conv (fun w => .tup [.agg [.int .i64 r.id, .int .i64 r.of_, .int .i64 r.role, .int .i64 r.commit, .int .i64 r.hard.term, .int .i64 r.hard.vote, .ref 0, .ref 1, .ref 2, .ref 3], .ref 4, .ref 5]) (fun w => [.arr 45 6 (r.hard.log.map encEnt), .arr 3 1 (r.yes.map encI), .arr 3 1 (r.next.map encI), .arr 3 1 (r.match_.map encI), .arr 47 10 [], .arr 51 17 (w.map encOut)]) (show ([]) = ((gots r m).2.2) from by rw [gots_far h1 (by omega) (by omega) (by omega) (by assumption) (by omega)]; first | done | rfl | (rw [endRecs_ne (by dsimp only; omega)]; rfl) | (rw [endRecs_eq rfl rfl]; done) | (rw [endRecs_eq rfl rfl]; rfl)) ?_
                exact KF.m [(1220, 0), (1221, 1), (1222, 2), (1223, 3), (112, 4), (113, 5)] [.agg [.int .i64 r.id, .int .i64 r.of_, .int .i64 r.role, .int .i64 r.commit, .int .i64 r.hard.term, .int .i64 r.hard.vote, .ref 1220, .ref 1221, .ref 1222, .ref 1223], .ref 112, .ref 113]
            · skip
              refine AW.skip ?_
              refine AW.seq ?_
              refine AW.regionD Tryz_mix (At.start ?_)
              refine At.a 8 ?_
              refine At.iRf 27 99 (.tmp 96) (.tmp 98) 1222 (r.next.map encI) .i64 m.from_ 3 1 (by omega) (by simp only [List.length_map, List.length_append, List.length_take, List.length_drop, List.length_replicate, List.length_set, List.length_cons, List.length_nil]; omega) ?_
              refine Exists.elim (show ∃ e, r.next[(m.from_).toNat]? = some e from ⟨_, List.getElem?_eq_getElem (by omega)⟩) fun e3 he3 => ?_
              have hxe3 := hnx.2.1 _ (List.mem_of_getElem? he3)
              refine At.lEl 3 100 (.tmp 99) 1222 3 1 (r.next.map encI) ((m.from_).toNat) 0 false 1 (encI e3) (.int .i64 e3) (mapGet he3) ?_
              refine At.a 1 ?_
              refine At.sI 101 (e3 - 1) (by omega) ?_
              refine At.a 3 ?_
              refine At.sI 104 (m.at_ + 1) (by omega) ?_
              refine At.c (spec_l1Min_spec  (e3 - 1) (m.at_ + 1) ) Tryz.call111 true [] [] [] trivial ?_
              refine At.c (spec_l1Max_spec  1 (min (e3 - 1) (m.at_ + 1)) ) Tryz.call59 true [] [] [] trivial ?_
              refine At.iRf 27 107 (.tmp 92) (.tmp 94) 1222 (r.next.map encI) .i64 m.from_ 3 1 (by omega) (by simp only [List.length_map, List.length_append, List.length_take, List.length_drop, List.length_replicate, List.length_set, List.length_cons, List.length_nil]; omega) ?_
              refine At.sEl 3 1222 3 1 ((m.from_).toNat) 0 (.tmp 107) (.tmp 106) (r.next.map encI) ((r.next.set ((m.from_).toNat) (max 1 (min (e3 - 1) (m.at_ + 1)))).map encI) [.int .i64 (max 1 (min (e3 - 1) (m.at_ + 1)))] (.int .i64 (max 1 (min (e3 - 1) (m.at_ + 1)))) (encI e3) (encI (max 1 (min (e3 - 1) (m.at_ + 1)))) (mapGet he3) setV ?_
              refine At.done rfl ⟨by kernel_rfl, ?_⟩
              refine AW.seq ?_
              refine AW.regionD Tryz_mix (At.start ?_)
              refine At.a 6 ?_
              refine At.c (spec_l10Send_spec  (⟨r.id, r.of_, r.role, r.commit, r.hard, r.yes, r.next.set ((m.from_).toNat) (max 1 (min (e3 - 1) (m.at_ + 1))), r.match_⟩ : Raft) m.from_ (by unfold SmallR; simp only [List.length_set]; omega) (by dsimp only; simp only [List.length_set]; omega) (nextOk_set hnx.2.1 rfl rfl (by omega))) Tryz.call112 false [] [(3280, 0)] [(1220, 6, (r.hard.log.map encEnt)), (1221, 1, (r.yes.map encI)), (1222, 1, ((r.next.set ((m.from_).toNat) (max 1 (min (e3 - 1) (m.at_ + 1)))).map encI)), (1223, 1, (r.match_.map encI))] ⟨rfl, ⟨45, (r.hard.log.map encEnt), by kernel_rfl, FrzIs.same (allP_encEnt _)⟩, rfl, ⟨3, (r.yes.map encI), by kernel_rfl, FrzIs.same (allP_encI _)⟩, rfl, ⟨3, ((r.next.set ((m.from_).toNat) (max 1 (min (e3 - 1) (m.at_ + 1)))).map encI), by kernel_rfl, FrzIs.same (allP_encI _)⟩, rfl, ⟨3, (r.match_.map encI), by kernel_rfl, FrzIs.same (allP_encI _)⟩, trivial⟩ ?_
              refine At.litK (t := 38) (d := 115) (e := 51) (es := 17) (bytes := 168) (n := 1) (parts := #[(0, .tmp 114)]) (45, 6) 215 [3280] [.int .i64 ((sendOf (⟨r.id, r.of_, r.role, r.commit, r.hard, r.yes, r.next.set ((m.from_).toNat) (max 1 (min (e3 - 1) (m.at_ + 1))), r.match_⟩ : Raft) m.from_).to), .int .i64 ((sendOf (⟨r.id, r.of_, r.role, r.commit, r.hard, r.yes, r.next.set ((m.from_).toNat) (max 1 (min (e3 - 1) (m.at_ + 1))), r.match_⟩ : Raft) m.from_).msg.kind), .int .i64 ((sendOf (⟨r.id, r.of_, r.role, r.commit, r.hard, r.yes, r.next.set ((m.from_).toNat) (max 1 (min (e3 - 1) (m.at_ + 1))), r.match_⟩ : Raft) m.from_).msg.from_), .int .i64 ((sendOf (⟨r.id, r.of_, r.role, r.commit, r.hard, r.yes, r.next.set ((m.from_).toNat) (max 1 (min (e3 - 1) (m.at_ + 1))), r.match_⟩ : Raft) m.from_).msg.term), .int .i64 ((sendOf (⟨r.id, r.of_, r.role, r.commit, r.hard, r.yes, r.next.set ((m.from_).toNat) (max 1 (min (e3 - 1) (m.at_ + 1))), r.match_⟩ : Raft) m.from_).msg.at_), .int .i64 ((sendOf (⟨r.id, r.of_, r.role, r.commit, r.hard, r.yes, r.next.set ((m.from_).toNat) (max 1 (min (e3 - 1) (m.at_ + 1))), r.match_⟩ : Raft) m.from_).msg.atTerm), .int .i64 ((sendOf (⟨r.id, r.of_, r.role, r.commit, r.hard, r.yes, r.next.set ((m.from_).toNat) (max 1 (min (e3 - 1) (m.at_ + 1))), r.match_⟩ : Raft) m.from_).msg.commit), .bool ((sendOf (⟨r.id, r.of_, r.role, r.commit, r.hard, r.yes, r.next.set ((m.from_).toNat) (max 1 (min (e3 - 1) (m.at_ + 1))), r.match_⟩ : Raft) m.from_).msg.yes), .int .i64 ((sendOf (⟨r.id, r.of_, r.role, r.commit, r.hard, r.yes, r.next.set ((m.from_).toNat) (max 1 (min (e3 - 1) (m.at_ + 1))), r.match_⟩ : Raft) m.from_).msg.release), .int .i64 ((sendOf (⟨r.id, r.of_, r.role, r.commit, r.hard, r.yes, r.next.set ((m.from_).toNat) (max 1 (min (e3 - 1) (m.at_ + 1))), r.match_⟩ : Raft) m.from_).msg.part), .str ((sendOf (⟨r.id, r.of_, r.role, r.commit, r.hard, r.yes, r.next.set ((m.from_).toNat) (max 1 (min (e3 - 1) (m.at_ + 1))), r.match_⟩ : Raft) m.from_).msg.bytes), .int .i64 ((sendOf (⟨r.id, r.of_, r.role, r.commit, r.hard, r.yes, r.next.set ((m.from_).toNat) (max 1 (min (e3 - 1) (m.at_ + 1))), r.match_⟩ : Raft) m.from_).msg.cmd.kind), .int .i64 ((sendOf (⟨r.id, r.of_, r.role, r.commit, r.hard, r.yes, r.next.set ((m.from_).toNat) (max 1 (min (e3 - 1) (m.at_ + 1))), r.match_⟩ : Raft) m.from_).msg.cmd.release), .int .i64 ((sendOf (⟨r.id, r.of_, r.role, r.commit, r.hard, r.yes, r.next.set ((m.from_).toNat) (max 1 (min (e3 - 1) (m.at_ + 1))), r.match_⟩ : Raft) m.from_).msg.cmd.node), .int .i64 ((sendOf (⟨r.id, r.of_, r.role, r.commit, r.hard, r.yes, r.next.set ((m.from_).toNat) (max 1 (min (e3 - 1) (m.at_ + 1))), r.match_⟩ : Raft) m.from_).msg.cmd.size), .str ((sendOf (⟨r.id, r.of_, r.role, r.commit, r.hard, r.yes, r.next.set ((m.from_).toNat) (max 1 (min (e3 - 1) (m.at_ + 1))), r.match_⟩ : Raft) m.from_).msg.cmd.digest), .ref 3280] [.int .i64 ((sendOf (⟨r.id, r.of_, r.role, r.commit, r.hard, r.yes, r.next.set ((m.from_).toNat) (max 1 (min (e3 - 1) (m.at_ + 1))), r.match_⟩ : Raft) m.from_).to), .int .i64 ((sendOf (⟨r.id, r.of_, r.role, r.commit, r.hard, r.yes, r.next.set ((m.from_).toNat) (max 1 (min (e3 - 1) (m.at_ + 1))), r.match_⟩ : Raft) m.from_).msg.kind), .int .i64 ((sendOf (⟨r.id, r.of_, r.role, r.commit, r.hard, r.yes, r.next.set ((m.from_).toNat) (max 1 (min (e3 - 1) (m.at_ + 1))), r.match_⟩ : Raft) m.from_).msg.from_), .int .i64 ((sendOf (⟨r.id, r.of_, r.role, r.commit, r.hard, r.yes, r.next.set ((m.from_).toNat) (max 1 (min (e3 - 1) (m.at_ + 1))), r.match_⟩ : Raft) m.from_).msg.term), .int .i64 ((sendOf (⟨r.id, r.of_, r.role, r.commit, r.hard, r.yes, r.next.set ((m.from_).toNat) (max 1 (min (e3 - 1) (m.at_ + 1))), r.match_⟩ : Raft) m.from_).msg.at_), .int .i64 ((sendOf (⟨r.id, r.of_, r.role, r.commit, r.hard, r.yes, r.next.set ((m.from_).toNat) (max 1 (min (e3 - 1) (m.at_ + 1))), r.match_⟩ : Raft) m.from_).msg.atTerm), .int .i64 ((sendOf (⟨r.id, r.of_, r.role, r.commit, r.hard, r.yes, r.next.set ((m.from_).toNat) (max 1 (min (e3 - 1) (m.at_ + 1))), r.match_⟩ : Raft) m.from_).msg.commit), .bool ((sendOf (⟨r.id, r.of_, r.role, r.commit, r.hard, r.yes, r.next.set ((m.from_).toNat) (max 1 (min (e3 - 1) (m.at_ + 1))), r.match_⟩ : Raft) m.from_).msg.yes), .int .i64 ((sendOf (⟨r.id, r.of_, r.role, r.commit, r.hard, r.yes, r.next.set ((m.from_).toNat) (max 1 (min (e3 - 1) (m.at_ + 1))), r.match_⟩ : Raft) m.from_).msg.release), .int .i64 ((sendOf (⟨r.id, r.of_, r.role, r.commit, r.hard, r.yes, r.next.set ((m.from_).toNat) (max 1 (min (e3 - 1) (m.at_ + 1))), r.match_⟩ : Raft) m.from_).msg.part), .str ((sendOf (⟨r.id, r.of_, r.role, r.commit, r.hard, r.yes, r.next.set ((m.from_).toNat) (max 1 (min (e3 - 1) (m.at_ + 1))), r.match_⟩ : Raft) m.from_).msg.bytes), .int .i64 ((sendOf (⟨r.id, r.of_, r.role, r.commit, r.hard, r.yes, r.next.set ((m.from_).toNat) (max 1 (min (e3 - 1) (m.at_ + 1))), r.match_⟩ : Raft) m.from_).msg.cmd.kind), .int .i64 ((sendOf (⟨r.id, r.of_, r.role, r.commit, r.hard, r.yes, r.next.set ((m.from_).toNat) (max 1 (min (e3 - 1) (m.at_ + 1))), r.match_⟩ : Raft) m.from_).msg.cmd.release), .int .i64 ((sendOf (⟨r.id, r.of_, r.role, r.commit, r.hard, r.yes, r.next.set ((m.from_).toNat) (max 1 (min (e3 - 1) (m.at_ + 1))), r.match_⟩ : Raft) m.from_).msg.cmd.node), .int .i64 ((sendOf (⟨r.id, r.of_, r.role, r.commit, r.hard, r.yes, r.next.set ((m.from_).toNat) (max 1 (min (e3 - 1) (m.at_ + 1))), r.match_⟩ : Raft) m.from_).msg.cmd.size), .str ((sendOf (⟨r.id, r.of_, r.role, r.commit, r.hard, r.yes, r.next.set ((m.from_).toNat) (max 1 (min (e3 - 1) (m.at_ + 1))), r.match_⟩ : Raft) m.from_).msg.cmd.digest), .own 45 6 (((sendOf (⟨r.id, r.of_, r.role, r.commit, r.hard, r.yes, r.next.set ((m.from_).toNat) (max 1 (min (e3 - 1) (m.at_ + 1))), r.match_⟩ : Raft) m.from_).msg.entries).map encEnt)] [.int .i64 0, .int .i64 0, .int .i64 0, .int .i64 0, .int .i64 0, .int .i64 0, .int .i64 0, .bool false, .int .i64 0, .int .i64 0, .str (⟨#[]⟩ : ByteArray), .int .i64 0, .int .i64 0, .int .i64 0, .int .i64 0, .str (⟨#[]⟩ : ByteArray), .nil] [.agg [.int .i64 ((sendOf (⟨r.id, r.of_, r.role, r.commit, r.hard, r.yes, r.next.set ((m.from_).toNat) (max 1 (min (e3 - 1) (m.at_ + 1))), r.match_⟩ : Raft) m.from_).to), .int .i64 ((sendOf (⟨r.id, r.of_, r.role, r.commit, r.hard, r.yes, r.next.set ((m.from_).toNat) (max 1 (min (e3 - 1) (m.at_ + 1))), r.match_⟩ : Raft) m.from_).msg.kind), .int .i64 ((sendOf (⟨r.id, r.of_, r.role, r.commit, r.hard, r.yes, r.next.set ((m.from_).toNat) (max 1 (min (e3 - 1) (m.at_ + 1))), r.match_⟩ : Raft) m.from_).msg.from_), .int .i64 ((sendOf (⟨r.id, r.of_, r.role, r.commit, r.hard, r.yes, r.next.set ((m.from_).toNat) (max 1 (min (e3 - 1) (m.at_ + 1))), r.match_⟩ : Raft) m.from_).msg.term), .int .i64 ((sendOf (⟨r.id, r.of_, r.role, r.commit, r.hard, r.yes, r.next.set ((m.from_).toNat) (max 1 (min (e3 - 1) (m.at_ + 1))), r.match_⟩ : Raft) m.from_).msg.at_), .int .i64 ((sendOf (⟨r.id, r.of_, r.role, r.commit, r.hard, r.yes, r.next.set ((m.from_).toNat) (max 1 (min (e3 - 1) (m.at_ + 1))), r.match_⟩ : Raft) m.from_).msg.atTerm), .int .i64 ((sendOf (⟨r.id, r.of_, r.role, r.commit, r.hard, r.yes, r.next.set ((m.from_).toNat) (max 1 (min (e3 - 1) (m.at_ + 1))), r.match_⟩ : Raft) m.from_).msg.commit), .bool ((sendOf (⟨r.id, r.of_, r.role, r.commit, r.hard, r.yes, r.next.set ((m.from_).toNat) (max 1 (min (e3 - 1) (m.at_ + 1))), r.match_⟩ : Raft) m.from_).msg.yes), .int .i64 ((sendOf (⟨r.id, r.of_, r.role, r.commit, r.hard, r.yes, r.next.set ((m.from_).toNat) (max 1 (min (e3 - 1) (m.at_ + 1))), r.match_⟩ : Raft) m.from_).msg.release), .int .i64 ((sendOf (⟨r.id, r.of_, r.role, r.commit, r.hard, r.yes, r.next.set ((m.from_).toNat) (max 1 (min (e3 - 1) (m.at_ + 1))), r.match_⟩ : Raft) m.from_).msg.part), .str ((sendOf (⟨r.id, r.of_, r.role, r.commit, r.hard, r.yes, r.next.set ((m.from_).toNat) (max 1 (min (e3 - 1) (m.at_ + 1))), r.match_⟩ : Raft) m.from_).msg.bytes), .int .i64 ((sendOf (⟨r.id, r.of_, r.role, r.commit, r.hard, r.yes, r.next.set ((m.from_).toNat) (max 1 (min (e3 - 1) (m.at_ + 1))), r.match_⟩ : Raft) m.from_).msg.cmd.kind), .int .i64 ((sendOf (⟨r.id, r.of_, r.role, r.commit, r.hard, r.yes, r.next.set ((m.from_).toNat) (max 1 (min (e3 - 1) (m.at_ + 1))), r.match_⟩ : Raft) m.from_).msg.cmd.release), .int .i64 ((sendOf (⟨r.id, r.of_, r.role, r.commit, r.hard, r.yes, r.next.set ((m.from_).toNat) (max 1 (min (e3 - 1) (m.at_ + 1))), r.match_⟩ : Raft) m.from_).msg.cmd.node), .int .i64 ((sendOf (⟨r.id, r.of_, r.role, r.commit, r.hard, r.yes, r.next.set ((m.from_).toNat) (max 1 (min (e3 - 1) (m.at_ + 1))), r.match_⟩ : Raft) m.from_).msg.cmd.size), .str ((sendOf (⟨r.id, r.of_, r.role, r.commit, r.hard, r.yes, r.next.set ((m.from_).toNat) (max 1 (min (e3 - 1) (m.at_ + 1))), r.match_⟩ : Raft) m.from_).msg.cmd.digest), .own 45 6 (((sendOf (⟨r.id, r.of_, r.role, r.commit, r.hard, r.yes, r.next.set ((m.from_).toNat) (max 1 (min (e3 - 1) (m.at_ + 1))), r.match_⟩ : Raft) m.from_).msg.entries).map encEnt)]] [(45, 6, (((sendOf (⟨r.id, r.of_, r.role, r.commit, r.hard, r.yes, r.next.set ((m.from_).toNat) (max 1 (min (e3 - 1) (m.at_ + 1))), r.match_⟩ : Raft) m.from_).msg.entries).map encEnt))] (by kernel_rfl) (by kernel_rfl) (by kernel_rfl) (by kernel_rfl) (by kernel_rfl) (by intro p hp; simp only [List.mem_cons, List.not_mem_nil, or_false] at hp; subst hp; all_goals first | exact flatEnts | (intro x hx; cases hx)) (by kernel_rfl) ?_
              refine At.append (t := 38) (d := 116) (e := 51) (es := 17) (bytes := 168) (s := .tmp 110) (x := .tmp 115) (S := .ref 113) (T := .ref 215) (xs := []) (ys := (([(sendOf (⟨r.id, r.of_, r.role, r.commit, r.hard, r.yes, r.next.set ((m.from_).toNat) (max 1 (min (e3 - 1) (m.at_ + 1))), r.match_⟩ : Raft) m.from_)]).map encOut)) 216 [113] [215] (([(sendOf (⟨r.id, r.of_, r.role, r.commit, r.hard, r.yes, r.next.set ((m.from_).toNat) (max 1 (min (e3 - 1) (m.at_ + 1))), r.match_⟩ : Raft) m.from_)]).map encOut) (by kernel_rfl) (by kernel_rfl) (by kernel_rfl) (by kernel_rfl) ⟨by kernel_rfl, rfl⟩ ⟨by kernel_rfl, .inr rfl⟩ (by kernel_rfl) (by kernel_rfl) (by simp) (by simp only [List.length_map, List.length_append, List.length_take, List.length_drop, List.length_replicate, List.length_set, List.length_cons, List.length_nil]; omega) (by simp only [List.length_map, List.length_append, List.length_take, List.length_drop, List.length_replicate, List.length_set, List.length_cons, List.length_nil]; omega) ?_
              refine At.a 3 ?_
              refine At.done rfl ⟨by kernel_rfl, ?_⟩
              refine AW.ret ?_
              refine ⟨_, Sub.refl _ _, ?_⟩
              refine KF.conv (fun w => .tup [.agg [.int .i64 w.id, .int .i64 w.of_, .int .i64 w.role, .int .i64 w.commit, .int .i64 w.hard.term, .int .i64 w.hard.vote, .ref 0, .ref 1, .ref 2, .ref 3], .ref 4, .ref 5]) (fun w => [.arr 45 6 (w.hard.log.map encEnt), .arr 3 1 (w.yes.map encI), .arr 3 1 (w.next.map encI), .arr 3 1 (w.match_.map encI), .arr 47 10 (((gots r m).2.1).map encRec), .arr 51 17 (((gots r m).2.2).map encOut)]) (show ((⟨r.id, r.of_, r.role, r.commit, r.hard, r.yes, r.next.set ((m.from_).toNat) (max 1 (min (e3 - 1) (m.at_ + 1))), r.match_⟩ : Raft)) = ((gots r m).1) from by rw [gots_no h1 (by omega) (by omega) (by omega) (by assumption) (by assumption)]; first | done | rfl | (rw [endRecs_ne (by dsimp only; omega)]; rfl) | (rw [endRecs_eq rfl rfl]; done) | (rw [endRecs_eq rfl rfl]; rfl)) ?_
              refine KF.conv (fun w => .tup [.agg [.int .i64 r.id, .int .i64 r.of_, .int .i64 r.role, .int .i64 r.commit, .int .i64 r.hard.term, .int .i64 r.hard.vote, .ref 0, .ref 1, .ref 2, .ref 3], .ref 4, .ref 5]) (fun w => [.arr 45 6 (r.hard.log.map encEnt), .arr 3 1 (r.yes.map encI), .arr 3 1 ((r.next.set ((m.from_).toNat) (max 1 (min (e3 - 1) (m.at_ + 1)))).map encI), .arr 3 1 (r.match_.map encI), .arr 47 10 (w.map encRec), .arr 51 17 (((gots r m).2.2).map encOut)]) (show ([]) = ((gots r m).2.1) from by rw [gots_no h1 (by omega) (by omega) (by omega) (by assumption) (by assumption)]; first | done | rfl | (rw [endRecs_ne (by dsimp only; omega)]; rfl) | (rw [endRecs_eq rfl rfl]; done) | (rw [endRecs_eq rfl rfl]; rfl)) ?_
              refine KF.conv (fun w => .tup [.agg [.int .i64 r.id, .int .i64 r.of_, .int .i64 r.role, .int .i64 r.commit, .int .i64 r.hard.term, .int .i64 r.hard.vote, .ref 0, .ref 1, .ref 2, .ref 3], .ref 4, .ref 5]) (fun w => [.arr 45 6 (r.hard.log.map encEnt), .arr 3 1 (r.yes.map encI), .arr 3 1 ((r.next.set ((m.from_).toNat) (max 1 (min (e3 - 1) (m.at_ + 1)))).map encI), .arr 3 1 (r.match_.map encI), .arr 47 10 [], .arr 51 17 (w.map encOut)]) (show ([(sendOf (⟨r.id, r.of_, r.role, r.commit, r.hard, r.yes, r.next.set ((m.from_).toNat) (max 1 (min (e3 - 1) (m.at_ + 1))), r.match_⟩ : Raft) m.from_)]) = ((gots r m).2.2) from by rw [gots_no h1 (by omega) (by omega) (by omega) (by assumption) (by assumption)]; first | done | rfl | (rw [endRecs_ne (by dsimp only; omega)]; rfl) | (rw [endRecs_eq rfl rfl]; done) | (rw [endRecs_eq rfl rfl]; rfl)) ?_
              exact KF.m [(1220, 0), (1221, 1), (1222, 2), (1223, 3), (112, 4), (216, 5)] [.agg [.int .i64 r.id, .int .i64 r.of_, .int .i64 r.role, .int .i64 r.commit, .int .i64 r.hard.term, .int .i64 r.hard.vote, .ref 1220, .ref 1221, .ref 1222, .ref 1223], .ref 112, .ref 216]
        · refine At.sB 41 (r.role != 3) true (sayUT h3) ?_
          refine At.a 7 ?_
          refine At.done rfl ?_
          refine AW.cond true (by kernel_rfl) (fun _ => ?_) (fun h => by cases h)
          refine AW.r ?_
          refine At.a 6 ?_
          refine At.done rfl ?_
          refine AW.ret ?_
          refine ⟨_, Sub.refl _ _, ?_⟩
          refine KF.conv (fun w => .tup [.agg [.int .i64 w.id, .int .i64 w.of_, .int .i64 w.role, .int .i64 w.commit, .int .i64 w.hard.term, .int .i64 w.hard.vote, .ref 0, .ref 1, .ref 2, .ref 3], .ref 4, .ref 5]) (fun w => [.arr 45 6 (w.hard.log.map encEnt), .arr 3 1 (w.yes.map encI), .arr 3 1 (w.next.map encI), .arr 3 1 (w.match_.map encI), .arr 47 10 (((gots r m).2.1).map encRec), .arr 51 17 (((gots r m).2.2).map encOut)]) (show (r) = ((gots r m).1) from by rw [gots_not h1 (by omega) (by omega)]; first | done | rfl | (rw [endRecs_ne (by dsimp only; omega)]; rfl) | (rw [endRecs_eq rfl rfl]; done) | (rw [endRecs_eq rfl rfl]; rfl)) ?_
          refine KF.conv (fun w => .tup [.agg [.int .i64 r.id, .int .i64 r.of_, .int .i64 r.role, .int .i64 r.commit, .int .i64 r.hard.term, .int .i64 r.hard.vote, .ref 0, .ref 1, .ref 2, .ref 3], .ref 4, .ref 5]) (fun w => [.arr 45 6 (r.hard.log.map encEnt), .arr 3 1 (r.yes.map encI), .arr 3 1 (r.next.map encI), .arr 3 1 (r.match_.map encI), .arr 47 10 (w.map encRec), .arr 51 17 (((gots r m).2.2).map encOut)]) (show ([]) = ((gots r m).2.1) from by rw [gots_not h1 (by omega) (by omega)]; first | done | rfl | (rw [endRecs_ne (by dsimp only; omega)]; rfl) | (rw [endRecs_eq rfl rfl]; done) | (rw [endRecs_eq rfl rfl]; rfl)) ?_
          refine KF.conv (fun w => .tup [.agg [.int .i64 r.id, .int .i64 r.of_, .int .i64 r.role, .int .i64 r.commit, .int .i64 r.hard.term, .int .i64 r.hard.vote, .ref 0, .ref 1, .ref 2, .ref 3], .ref 4, .ref 5]) (fun w => [.arr 45 6 (r.hard.log.map encEnt), .arr 3 1 (r.yes.map encI), .arr 3 1 (r.next.map encI), .arr 3 1 (r.match_.map encI), .arr 47 10 [], .arr 51 17 (w.map encOut)]) (show ([]) = ((gots r m).2.2) from by rw [gots_not h1 (by omega) (by omega)]; first | done | rfl | (rw [endRecs_ne (by dsimp only; omega)]; rfl) | (rw [endRecs_eq rfl rfl]; done) | (rw [endRecs_eq rfl rfl]; rfl)) ?_
          exact KF.m [(1220, 0), (1221, 1), (1222, 2), (1223, 3), (112, 4), (113, 5)] [.agg [.int .i64 r.id, .int .i64 r.of_, .int .i64 r.role, .int .i64 r.commit, .int .i64 r.hard.term, .int .i64 r.hard.vote, .ref 1220, .ref 1221, .ref 1222, .ref 1223], .ref 112, .ref 113]
  · skip
    refine AW.r ?_
    refine At.a 5 ?_
    refine At.done rfl ?_
    refine AW.seq ?_
    refine AW.weak (Sub.nils [⟨true, 104, some 6, 5001, 45, 6⟩, ⟨true, 104, some 7, 5002, 3, 1⟩, ⟨true, 104, some 8, 5003, 3, 1⟩, ⟨true, 104, some 9, 5004, 3, 1⟩] (by kernel_rfl)) ?_
    refine AW.region (At.start ?_)
    refine At.a 1 ?_
    refine At.c (spec_l10Same_F_spec  r (by exact hz) hok) Tryz.call97 true [] [(1220, 0), (1221, 1), (1222, 2), (1223, 3)] [] trivial ?_
    refine At.lit0 (t := 37) (d := 12) (e := 47) (es := 10) (bytes := 88) 112 (by kernel_rfl) (by kernel_rfl) (by kernel_rfl) (by kernel_rfl) ?_
    refine At.lit0 (t := 38) (d := 13) (e := 51) (es := 17) (bytes := 168) 113 (by kernel_rfl) (by kernel_rfl) (by kernel_rfl) (by kernel_rfl) ?_
    refine At.a 4 ?_
    refine At.done rfl ?_
    refine AW.seq ?_
    refine AW.r ?_
    refine At.a 2 ?_
    refine At.c (spec_l10Hears_spec  r m 4 (by exact hz) hm) Tryz.call108 true [] [] [] trivial ?_
    refine At.a 1 ?_
    refine At.done rfl ?_
    refine AW.condT (!(hears r m 4)) (by kernel_rfl) (by rw [show (hears r m 4) = false from (hears_no hok)]; rfl) ?_
    refine AW.r ?_
    refine At.a 6 ?_
    refine At.done rfl ?_
    refine AW.ret ?_
    refine ⟨_, Sub.refl _ _, ?_⟩
    refine KF.conv (fun w => .tup [.agg [.int .i64 w.id, .int .i64 w.of_, .int .i64 w.role, .int .i64 w.commit, .int .i64 w.hard.term, .int .i64 w.hard.vote, .ref 0, .ref 1, .ref 2, .ref 3], .ref 4, .ref 5]) (fun w => [.arr 45 6 (w.hard.log.map encEnt), .arr 3 1 (w.yes.map encI), .arr 3 1 (w.next.map encI), .arr 3 1 (w.match_.map encI), .arr 47 10 (((gots r m).2.1).map encRec), .arr 51 17 (((gots r m).2.2).map encOut)]) (show ((⟨0, 0, 0, 0, ⟨0, 0, []⟩, [], [], []⟩ : Raft)) = ((gots r m).1) from by simp [gots, same, hok, hears_no hok]; try rfl) ?_
    refine KF.conv (fun w => .tup [.agg [.int .i64 0, .int .i64 0, .int .i64 0, .int .i64 0, .int .i64 0, .int .i64 0, .ref 0, .ref 1, .ref 2, .ref 3], .ref 4, .ref 5]) (fun w => [.arr 45 6 [], .arr 3 1 [], .arr 3 1 [], .arr 3 1 [], .arr 47 10 (w.map encRec), .arr 51 17 (((gots r m).2.2).map encOut)]) (show ([]) = ((gots r m).2.1) from by simp [gots, same, hok, hears_no hok]; try rfl) ?_
    refine KF.conv (fun w => .tup [.agg [.int .i64 0, .int .i64 0, .int .i64 0, .int .i64 0, .int .i64 0, .int .i64 0, .ref 0, .ref 1, .ref 2, .ref 3], .ref 4, .ref 5]) (fun w => [.arr 45 6 [], .arr 3 1 [], .arr 3 1 [], .arr 3 1 [], .arr 47 10 [], .arr 51 17 (w.map encOut)]) (show ([]) = ((gots r m).2.2) from by simp [gots, same, hok, hears_no hok]; try rfl) ?_
    exact KF.m [(1220, 0), (1221, 1), (1222, 2), (1223, 3), (112, 4), (113, 5)] [.agg [.int .i64 0, .int .i64 0, .int .i64 0, .int .i64 0, .int .i64 0, .int .i64 0, .ref 1220, .ref 1221, .ref 1222, .ref 1223], .ref 112, .ref 113]
set_option maxRecDepth 100000 in
set_option maxHeartbeats 4000000 in
theorem impl_copyLog_spec  (l : List Ent) (hl : l.length ≤ 1048576) : FnSpec Tryz.prog 162 [.sl false 6 (l.map encEnt)] [] (.ref 0) [.arr 45 6 (l.map encEnt)] := by
  refine FnSpec.of 6 Tryz.func162 rfl Tryz.ntmps162 (by simp) (AW.weakK ?_)
  refine AW.r ?_
  refine At.a 1 ?_
  refine At.done rfl ?_
  refine AW.r ?_
  refine At.lit0 (t := 24) (d := 3) (e := 45) (es := 6) (bytes := 56) 103 (by kernel_rfl) (by kernel_rfl) (by kernel_rfl) (by kernel_rfl) ?_
  refine At.a 1 ?_
  refine At.append (t := 24) (d := 5) (e := 45) (es := 6) (bytes := 56) (s := .tmp 3) (x := .tmp 4) (S := .ref 103) (T := .sl false 6 (l.map encEnt)) (xs := []) (ys := (l.map encEnt)) 105 [103] [] (l.map encEnt) (by kernel_rfl) (by kernel_rfl) (by kernel_rfl) (by kernel_rfl) ⟨by kernel_rfl, rfl⟩ ⟨rfl, rfl, (allP_encEnt _), rfl⟩ (by kernel_rfl) (by kernel_rfl) (by simp) (by simp only [List.length_map, List.length_append, List.length_take, List.length_drop, List.length_replicate, List.length_set, List.length_cons, List.length_nil]; omega) (by simp only [List.length_map, List.length_append, List.length_take, List.length_drop, List.length_replicate, List.length_set, List.length_cons, List.length_nil]; omega) ?_
  refine At.a 1 ?_
  refine At.done rfl ?_
  refine AW.ret ?_
  refine ⟨_, Sub.refl _ _, ?_⟩
  exact KF.m [(105, 0)] [.ref 105]
set_option maxRecDepth 100000 in
set_option maxHeartbeats 4000000 in
theorem impl_copyHard_spec  (h : Hard) (hl : h.log.length ≤ 1048576) : FnSpec Tryz.prog 175 [.agg [.int .i64 h.term, .int .i64 h.vote, .sl false 6 (h.log.map encEnt)]] [] (.agg [.int .i64 h.term, .int .i64 h.vote, .ref 0]) [.arr 45 6 (h.log.map encEnt)] := by
  refine FnSpec.of 8 Tryz.func175 rfl Tryz.ntmps175 (by simp) (AW.weakK ?_)
  refine AW.r ?_
  refine At.a 2 ?_
  refine At.done rfl ?_
  refine AW.seq ?_
  refine AW.weak (Sub.nils [⟨true, 102, some 2, 5001, 45, 6⟩] (by kernel_rfl)) ?_
  refine AW.region (At.start ?_)
  refine At.a 2 ?_
  refine At.c (impl_copyLog_spec  h.log (by omega)) Tryz.call162 true [] [(1100, 0)] [] trivial ?_
  refine At.a 2 ?_
  refine At.done rfl ?_
  refine AW.r ?_
  refine At.a 2 ?_
  refine At.done rfl ?_
  refine AW.ret ?_
  refine ⟨_, Sub.refl _ _, ?_⟩
  exact KF.m [(1100, 0)] [.agg [.int .i64 h.term, .int .i64 h.vote, .ref 1100]]
set_option maxRecDepth 100000 in
set_option maxHeartbeats 4000000 in
theorem impl_copyInts_spec  (l : List Int) (hl : l.length ≤ 1048576) : FnSpec Tryz.prog 176 [.sl false 1 (l.map encI)] [] (.ref 0) [.arr 3 1 (l.map encI)] := by
  refine FnSpec.of 6 Tryz.func176 rfl Tryz.ntmps176 (by simp) (AW.weakK ?_)
  refine AW.r ?_
  refine At.a 1 ?_
  refine At.done rfl ?_
  refine AW.r ?_
  refine At.lit0 (t := 27) (d := 3) (e := 3) (es := 1) (bytes := 8) 103 (by kernel_rfl) (by kernel_rfl) (by kernel_rfl) (by kernel_rfl) ?_
  refine At.a 1 ?_
  refine At.append (t := 27) (d := 5) (e := 3) (es := 1) (bytes := 8) (s := .tmp 3) (x := .tmp 4) (S := .ref 103) (T := .sl false 1 (l.map encI)) (xs := []) (ys := (l.map encI)) 105 [103] [] (l.map encI) (by kernel_rfl) (by kernel_rfl) (by kernel_rfl) (by kernel_rfl) ⟨by kernel_rfl, rfl⟩ ⟨rfl, rfl, (allP_encI _), rfl⟩ (by kernel_rfl) (by kernel_rfl) (by simp) (by simp only [List.length_map, List.length_append, List.length_take, List.length_drop, List.length_replicate, List.length_set, List.length_cons, List.length_nil]; omega) (by simp only [List.length_map, List.length_append, List.length_take, List.length_drop, List.length_replicate, List.length_set, List.length_cons, List.length_nil]; omega) ?_
  refine At.a 1 ?_
  refine At.done rfl ?_
  refine AW.ret ?_
  refine ⟨_, Sub.refl _ _, ?_⟩
  exact KF.m [(105, 0)] [.ref 105]
set_option maxRecDepth 100000 in
set_option maxHeartbeats 4000000 in
theorem impl_copyRaft_spec  (r : Raft) (hz : SmallR r) : FnSpec Tryz.prog 157 [.agg [.int .i64 r.id, .int .i64 r.of_, .int .i64 r.role, .int .i64 r.commit, .int .i64 r.hard.term, .int .i64 r.hard.vote, .sl false 6 (r.hard.log.map encEnt), .sl false 1 (r.yes.map encI), .sl false 1 (r.next.map encI), .sl false 1 (r.match_.map encI)]] [] (.agg [.int .i64 r.id, .int .i64 r.of_, .int .i64 r.role, .int .i64 r.commit, .int .i64 r.hard.term, .int .i64 r.hard.vote, .ref 0, .ref 1, .ref 2, .ref 3]) [.arr 45 6 (r.hard.log.map encEnt), .arr 3 1 (r.yes.map encI), .arr 3 1 (r.next.map encI), .arr 3 1 (r.match_.map encI)] := by
  obtain ⟨z1, z2, z3, z4⟩ := id hz
  refine FnSpec.of 20 Tryz.func157 rfl Tryz.ntmps157 (by simp) (AW.weakK ?_)
  refine AW.r ?_
  refine At.a 2 ?_
  refine At.done rfl ?_
  refine AW.seq ?_
  refine AW.weak (Sub.nils [⟨true, 102, some 6, 5001, 45, 6⟩, ⟨true, 102, some 7, 5002, 3, 1⟩, ⟨true, 102, some 8, 5003, 3, 1⟩, ⟨true, 102, some 9, 5004, 3, 1⟩] (by kernel_rfl)) ?_
  refine AW.region (At.start ?_)
  refine At.a 2 ?_
  refine At.c (impl_copyHard_spec  r.hard (by omega)) Tryz.call175 true [] [(1100, 0)] [] trivial ?_
  refine At.a 2 ?_
  refine At.done rfl ?_
  refine AW.seq ?_
  refine AW.regionD Tryz_mix (At.start ?_)
  refine At.a 2 ?_
  refine At.c (impl_copyInts_spec  r.yes (by omega)) Tryz.call176 true [] [(1180, 0)] [] trivial ?_
  refine At.a 2 ?_
  refine At.c (impl_copyInts_spec  r.next (by omega)) Tryz.call176 true [] [(1240, 0)] [] trivial ?_
  refine At.a 2 ?_
  refine At.c (impl_copyInts_spec  r.match_ (by omega)) Tryz.call176 true [] [(1300, 0)] [] trivial ?_
  refine At.a 6 ?_
  refine At.done rfl ⟨by kernel_rfl, ?_⟩
  refine AW.r ?_
  refine At.a 2 ?_
  refine At.done rfl ?_
  refine AW.ret ?_
  refine ⟨_, Sub.refl _ _, ?_⟩
  exact KF.m [(1100, 0), (1180, 1), (1240, 2), (1300, 3)] [.agg [.int .i64 r.id, .int .i64 r.of_, .int .i64 r.role, .int .i64 r.commit, .int .i64 r.hard.term, .int .i64 r.hard.vote, .ref 1100, .ref 1180, .ref 1240, .ref 1300]]
set_option maxRecDepth 100000 in
set_option maxHeartbeats 4000000 in
theorem impl_stepOf_spec  (r : Raft) (hz : SmallR r) : FnSpec Tryz.prog 80 [.agg [.int .i64 r.id, .int .i64 r.of_, .int .i64 r.role, .int .i64 r.commit, .int .i64 r.hard.term, .int .i64 r.hard.vote, .sl false 6 (r.hard.log.map encEnt), .sl false 1 (r.yes.map encI), .sl false 1 (r.next.map encI), .sl false 1 (r.match_.map encI)]] [] (.ptr 0 0 0) [.box 102 [.int .i64 r.id, .int .i64 r.of_, .int .i64 r.role, .int .i64 r.commit, .int .i64 r.hard.term, .int .i64 r.hard.vote, .ref 1, .ref 2, .ref 3, .ref 4, .int .i64 r.id, .int .i64 r.of_, .int .i64 r.role, .int .i64 r.commit, .int .i64 r.hard.term, .int .i64 r.hard.vote, .sl false 6 (r.hard.log.map encEnt), .sl false 1 (r.yes.map encI), .sl false 1 (r.next.map encI), .sl false 1 (r.match_.map encI), .ref 5, .ref 6], .arr 45 6 (r.hard.log.map encEnt), .arr 3 1 (r.yes.map encI), .arr 3 1 (r.next.map encI), .arr 3 1 (r.match_.map encI), .arr 47 10 [], .arr 51 17 []] := by
  obtain ⟨z1, z2, z3, z4⟩ := id hz
  refine FnSpec.of 8 Tryz.func80 rfl Tryz.ntmps80 (by simp) (AW.weakK ?_)
  refine AW.r ?_
  refine At.a 2 ?_
  refine At.done rfl ?_
  refine AW.seq ?_
  refine AW.regionD Tryz_mix (At.start ?_)
  refine At.a 1 ?_
  refine At.c (impl_copyRaft_spec  r (by omega)) Tryz.call157 true [] [(1080, 0), (1081, 1), (1082, 2), (1083, 3)] [] trivial ?_
  refine At.a 4 ?_
  refine At.done rfl ⟨by kernel_rfl, ?_⟩
  refine AW.ret ?_
  refine ⟨_, Sub.nils [⟨true, 107, some 20, 5001, 47, 10⟩, ⟨true, 107, some 21, 5002, 51, 17⟩] (by kernel_rfl), ?_⟩
  exact KF.m [(107, 0), (1080, 1), (1081, 2), (1082, 3), (1083, 4), (5001, 5), (5002, 6)] [.ptr 107 0 0]
set_option maxRecDepth 100000 in
set_option maxHeartbeats 4000000 in
theorem impl_isOf_spec  (of : Int) : FnSpec Tryz.prog 68 [.int .i64 of] [] (.bool (ofOk of)) [] := by
  refine FnSpec.of 13 Tryz.func68 rfl Tryz.ntmps68 (by simp) (AW.weakK ?_)
  refine AW.r ?_
  refine At.a 1 ?_
  refine At.done rfl ?_
  refine AW.r ?_
  refine At.a 3 ?_
  by_cases h1 : of = 1
  · refine At.sB 5 (of == 1) true (sayET h1) ?_
    refine At.a 8 ?_
    refine At.done rfl ?_
    refine AW.ret ?_
    refine ⟨_, Sub.refl _ _, ?_⟩
    refine KF.conv (fun w => .bool w) (fun w => []) (show (true) = (ofOk of) from by simp_all [ofOk]) ?_
    exact KF.m [] [.bool true]
  · refine At.sB 5 (of == 1) false (sayEF h1) ?_
    refine At.a 4 ?_
    by_cases h2 : of = 3
    · refine At.sB 9 (of == 3) true (sayET h2) ?_
      refine At.a 4 ?_
      refine At.done rfl ?_
      refine AW.ret ?_
      refine ⟨_, Sub.refl _ _, ?_⟩
      refine KF.conv (fun w => .bool w) (fun w => []) (show (true) = (ofOk of) from by simp_all [ofOk]) ?_
      exact KF.m [] [.bool true]
    · refine At.sB 9 (of == 3) false (sayEF h2) ?_
      refine At.a 4 ?_
      refine At.done rfl ?_
      refine AW.ret ?_
      refine ⟨_, Sub.refl _ _, ?_⟩
      refine KF.conv (fun w => .bool w) (fun w => []) (show (of == 5) = (ofOk of) from by simp_all [ofOk]) ?_
      exact KF.m [] [.bool (of == 5)]
set_option maxRecDepth 100000 in
set_option maxHeartbeats 4000000 in
theorem impl_within_spec  (n : Int) (low : Int) (high : Int) : FnSpec Tryz.prog 69 [.int .i64 n, .int .i64 low, .int .i64 high] [] (.bool (inR n low high)) [] := by
  refine FnSpec.of 15 Tryz.func69 rfl Tryz.ntmps69 (by simp) (AW.weakK ?_)
  refine AW.r ?_
  refine At.a 1 ?_
  refine At.done rfl ?_
  refine AW.r ?_
  refine At.a 4 ?_
  by_cases h1 : n ≥ low
  · refine At.sB 10 (decide (n ≥ low)) true (sayT h1) ?_
    refine At.a 5 ?_
    refine At.done rfl ?_
    refine AW.ret ?_
    refine ⟨_, Sub.refl _ _, ?_⟩
    refine KF.conv (fun w => .bool w) (fun w => []) (show (decide (n ≤ high)) = (inR n low high) from by simp [inR, *]) ?_
    exact KF.m [] [.bool (decide (n ≤ high))]
  · refine At.sB 10 (decide (n ≥ low)) false (sayF h1) ?_
    refine At.a 5 ?_
    refine At.done rfl ?_
    refine AW.ret ?_
    refine ⟨_, Sub.refl _ _, ?_⟩
    refine KF.conv (fun w => .bool w) (fun w => []) (show (false) = (inR n low high) from by simp [inR, *]) ?_
    exact KF.m [] [.bool false]
set_option maxRecDepth 100000 in
set_option maxHeartbeats 4000000 in
theorem impl_isRelease_spec  (n : Int) : FnSpec Tryz.prog 153 [.int .i64 n] [] (.bool (inR n 1 1000)) [] := by
  refine FnSpec.of 5 Tryz.func153 rfl Tryz.ntmps153 (by simp) (AW.weakK ?_)
  refine AW.r ?_
  refine At.a 1 ?_
  refine At.done rfl ?_
  refine AW.r ?_
  refine At.a 1 ?_
  refine At.c (impl_within_spec  n 1 1000 ) Tryz.call69 true [] [] [] trivial ?_
  refine At.a 1 ?_
  refine At.done rfl ?_
  refine AW.ret ?_
  refine ⟨_, Sub.refl _ _, ?_⟩
  exact KF.m [] [.bool (inR n 1 1000)]
set_option maxRecDepth 100000 in
set_option maxHeartbeats 4000000 in
theorem impl_isSize_spec  (n : Int) : FnSpec Tryz.prog 154 [.int .i64 n] [] (.bool (inR n 0 1000)) [] := by
  refine FnSpec.of 5 Tryz.func154 rfl Tryz.ntmps154 (by simp) (AW.weakK ?_)
  refine AW.r ?_
  refine At.a 1 ?_
  refine At.done rfl ?_
  refine AW.r ?_
  refine At.a 1 ?_
  refine At.c (impl_within_spec  n 0 1000 ) Tryz.call69 true [] [] [] trivial ?_
  refine At.a 1 ?_
  refine At.done rfl ?_
  refine AW.ret ?_
  refine ⟨_, Sub.refl _ _, ?_⟩
  exact KF.m [] [.bool (inR n 0 1000)]
set_option maxRecDepth 100000 in
set_option maxHeartbeats 4000000 in
theorem impl_isNode_spec  (n : Int) : FnSpec Tryz.prog 152 [.int .i64 n] [] (.bool (inR n 0 4)) [] := by
  refine FnSpec.of 5 Tryz.func152 rfl Tryz.ntmps152 (by simp) (AW.weakK ?_)
  refine AW.r ?_
  refine At.a 1 ?_
  refine At.done rfl ?_
  refine AW.r ?_
  refine At.a 1 ?_
  refine At.c (impl_within_spec  n 0 4 ) Tryz.call69 true [] [] [] trivial ?_
  refine At.a 1 ?_
  refine At.done rfl ?_
  refine AW.ret ?_
  refine ⟨_, Sub.refl _ _, ?_⟩
  exact KF.m [] [.bool (inR n 0 4)]
set_option maxRecDepth 100000 in
set_option maxHeartbeats 4000000 in
theorem impl_CmdOk_spec  (c : Cmd) : FnSpec Tryz.prog 101 [.agg [.int .i64 c.kind, .int .i64 c.release, .int .i64 c.node, .int .i64 c.size, .str c.digest]] [] (.bool (cmdOk c)) [] := by
  refine FnSpec.of 52 Tryz.func101 rfl Tryz.ntmps101 (by simp) (AW.weakK ?_)
  refine AW.r ?_
  refine At.a 2 ?_
  refine At.done rfl ?_
  refine AW.r ?_
  refine At.a 3 ?_
  refine At.done rfl ?_
  refine AW.r ?_
  refine At.a 4 ?_
  refine At.done rfl ?_
  refine AW.r ?_
  refine At.a 2 ?_
  refine At.c (impl_isRelease_spec  c.release ) Tryz.call153 true [] [] [] trivial ?_
  refine At.a 1 ?_
  refine At.done rfl ?_
  refine AW.seq ?_
  refine AW.r ?_
  refine At.a 2 ?_
  refine At.done rfl ?_
  refine AW.block ?_
  refine AW.r ?_
  refine At.a 2 ?_
  refine At.done rfl ?_
  refine AW.cE c.kind (1 : Int) (fun h1 => ?_) (fun h1 => ?_)
  · skip
    refine AW.region (At.start ?_)
    refine At.a 4 ?_
    refine At.done rfl ?_
    refine AW.r ?_
    refine At.a 2 ?_
    by_cases h2 : c.release = 0
    · refine At.sB 47 (c.release == 0) true (sayET h2) ?_
      refine At.a 2 ?_
      refine At.eqA (t := 31) (u := 31) (d := 50) (op := .eql) (x := .tmp 48) (y := .tmp 49) (X := [.int .i64 0, .int .i64 0, .int .i64 c.node, .int .i64 c.size, .str c.digest]) (Y := [.int .i64 0, .int .i64 0, .int .i64 0, .int .i64 0, .str (⟨#[]⟩ : ByteArray)]) (cmdEq (⟨0, 0, c.node, c.size, c.digest⟩ : Cmd) (⟨0, 0, 0, 0, (⟨#[]⟩ : ByteArray)⟩ : Cmd)) (by kernel_rfl) (by kernel_rfl) (by kernel_rfl) (by kernel_rfl) (by kernel_rfl) (.bool (cmdEq (⟨0, 0, c.node, c.size, c.digest⟩ : Cmd) (⟨0, 0, 0, 0, (⟨#[]⟩ : ByteArray)⟩ : Cmd))) (.inl ⟨rfl, rfl⟩) ?_
      refine At.a 2 ?_
      refine At.done rfl ?_
      refine AW.ret ?_
      refine ⟨_, Sub.refl _ _, ?_⟩
      refine KF.conv (fun w => .bool w) (fun w => []) (show (cmdEq (⟨0, 0, c.node, c.size, c.digest⟩ : Cmd) (⟨0, 0, 0, 0, (⟨#[]⟩ : ByteArray)⟩ : Cmd)) = (cmdOk c) from by (try simp only [inR_iff, inR_not] at *); rw [Bool.eq_iff_iff]; simp only [cmdOk, cmdEq, noBytes]; (repeat' split) <;> (try simp [inR_iff]) <;> grind) ?_
      exact KF.m [] [.bool (cmdEq (⟨0, 0, c.node, c.size, c.digest⟩ : Cmd) (⟨0, 0, 0, 0, (⟨#[]⟩ : ByteArray)⟩ : Cmd))]
    · refine At.sB 47 (c.release == 0) false (sayEF h2) ?_
      refine At.a 5 ?_
      refine At.done rfl ?_
      refine AW.ret ?_
      refine ⟨_, Sub.refl _ _, ?_⟩
      refine KF.conv (fun w => .bool w) (fun w => []) (show (false) = (cmdOk c) from by (try simp only [inR_iff, inR_not] at *); rw [Bool.eq_iff_iff]; simp only [cmdOk, cmdEq, noBytes]; (repeat' split) <;> (try simp [inR_iff]) <;> grind) ?_
      exact KF.m [] [.bool false]
  · skip
    refine AW.r ?_
    refine At.a 2 ?_
    refine At.done rfl ?_
    refine AW.cE c.kind (2 : Int) (fun h3 => ?_) (fun h3 => ?_)
    · skip
      refine AW.r ?_
      refine At.a 2 ?_
      by_cases h4 : (inR c.release 1 1000) = true
      · refine At.sB 21 (inR c.release 1 1000) true (sayB h4) ?_
        refine At.a 2 ?_
        refine At.c (impl_isSize_spec  c.size ) Tryz.call154 true [] [] [] trivial ?_
        refine At.a 2 ?_
        by_cases h5 : (inR c.size 0 1000) = true
        · refine At.sB 26 (inR c.size 0 1000) true (sayB h5) ?_
          refine At.a 6 ?_
          refine At.done rfl ?_
          refine AW.region (At.start ?_)
          refine At.a 4 ?_
          refine At.done rfl ?_
          refine AW.r ?_
          refine At.a 2 ?_
          by_cases h6 : (c.digest.size : Int) = 32
          · refine At.sB 47 ((c.digest.size : Int) == 32) true (sayET h6) ?_
            refine At.a 2 ?_
            refine At.eqA (t := 31) (u := 31) (d := 50) (op := .eql) (x := .tmp 48) (y := .tmp 49) (X := [.int .i64 0, .int .i64 0, .int .i64 c.node, .int .i64 0, .str (⟨#[]⟩ : ByteArray)]) (Y := [.int .i64 0, .int .i64 0, .int .i64 0, .int .i64 0, .str (⟨#[]⟩ : ByteArray)]) (cmdEq (⟨0, 0, c.node, 0, (⟨#[]⟩ : ByteArray)⟩ : Cmd) (⟨0, 0, 0, 0, (⟨#[]⟩ : ByteArray)⟩ : Cmd)) (by kernel_rfl) (by kernel_rfl) (by kernel_rfl) (by kernel_rfl) (by kernel_rfl) (.bool (cmdEq (⟨0, 0, c.node, 0, (⟨#[]⟩ : ByteArray)⟩ : Cmd) (⟨0, 0, 0, 0, (⟨#[]⟩ : ByteArray)⟩ : Cmd))) (.inl ⟨rfl, rfl⟩) ?_
            refine At.a 2 ?_
            refine At.done rfl ?_
            refine AW.ret ?_
            refine ⟨_, Sub.refl _ _, ?_⟩
            refine KF.conv (fun w => .bool w) (fun w => []) (show (cmdEq (⟨0, 0, c.node, 0, (⟨#[]⟩ : ByteArray)⟩ : Cmd) (⟨0, 0, 0, 0, (⟨#[]⟩ : ByteArray)⟩ : Cmd)) = (cmdOk c) from by (try simp only [inR_iff, inR_not] at *); rw [Bool.eq_iff_iff]; simp only [cmdOk, cmdEq, noBytes]; (repeat' split) <;> (try simp [inR_iff]) <;> grind) ?_
            exact KF.m [] [.bool (cmdEq (⟨0, 0, c.node, 0, (⟨#[]⟩ : ByteArray)⟩ : Cmd) (⟨0, 0, 0, 0, (⟨#[]⟩ : ByteArray)⟩ : Cmd))]
          · refine At.sB 47 ((c.digest.size : Int) == 32) false (sayEF h6) ?_
            refine At.a 5 ?_
            refine At.done rfl ?_
            refine AW.ret ?_
            refine ⟨_, Sub.refl _ _, ?_⟩
            refine KF.conv (fun w => .bool w) (fun w => []) (show (false) = (cmdOk c) from by (try simp only [inR_iff, inR_not] at *); rw [Bool.eq_iff_iff]; simp only [cmdOk, cmdEq, noBytes]; (repeat' split) <;> (try simp [inR_iff]) <;> grind) ?_
            exact KF.m [] [.bool false]
        · refine At.sB 26 (inR c.size 0 1000) false (sayB (Bool.eq_false_iff.2 h5)) ?_
          replace h5 := Bool.eq_false_iff.2 h5
          refine At.a 6 ?_
          refine At.done rfl ?_
          refine AW.region (At.start ?_)
          refine At.a 4 ?_
          refine At.done rfl ?_
          refine AW.r ?_
          refine At.a 7 ?_
          refine At.done rfl ?_
          refine AW.ret ?_
          refine ⟨_, Sub.refl _ _, ?_⟩
          refine KF.conv (fun w => .bool w) (fun w => []) (show (false) = (cmdOk c) from by (try simp only [inR_iff, inR_not] at *); rw [Bool.eq_iff_iff]; simp only [cmdOk, cmdEq, noBytes]; (repeat' split) <;> (try simp [inR_iff]) <;> grind) ?_
          exact KF.m [] [.bool false]
      · refine At.sB 21 (inR c.release 1 1000) false (sayB (Bool.eq_false_iff.2 h4)) ?_
        replace h4 := Bool.eq_false_iff.2 h4
        refine At.a 11 ?_
        refine At.done rfl ?_
        refine AW.region (At.start ?_)
        refine At.a 4 ?_
        refine At.done rfl ?_
        refine AW.r ?_
        refine At.a 7 ?_
        refine At.done rfl ?_
        refine AW.ret ?_
        refine ⟨_, Sub.refl _ _, ?_⟩
        refine KF.conv (fun w => .bool w) (fun w => []) (show (false) = (cmdOk c) from by (try simp only [inR_iff, inR_not] at *); rw [Bool.eq_iff_iff]; simp only [cmdOk, cmdEq, noBytes]; (repeat' split) <;> (try simp [inR_iff]) <;> grind) ?_
        exact KF.m [] [.bool false]
    · skip
      refine AW.r ?_
      refine At.a 2 ?_
      refine At.done rfl ?_
      refine AW.cE c.kind (3 : Int) (fun h7 => ?_) (fun h7 => ?_)
      · skip
        refine AW.r ?_
        refine At.a 2 ?_
        by_cases h8 : (inR c.release 1 1000) = true
        · refine At.sB 37 (inR c.release 1 1000) true (sayB h8) ?_
          refine At.a 2 ?_
          refine At.c (impl_isNode_spec  c.node ) Tryz.call152 true [] [] [] trivial ?_
          refine At.a 2 ?_
          refine At.done rfl ?_
          refine AW.region (At.start ?_)
          refine At.a 2 ?_
          refine At.done rfl ?_
          refine AW.r ?_
          refine At.a 2 ?_
          by_cases h9 : (inR c.node 0 4) = true
          · refine At.sB 47 (inR c.node 0 4) true (sayB h9) ?_
            refine At.a 2 ?_
            refine At.eqA (t := 31) (u := 31) (d := 50) (op := .eql) (x := .tmp 48) (y := .tmp 49) (X := [.int .i64 0, .int .i64 0, .int .i64 0, .int .i64 c.size, .str c.digest]) (Y := [.int .i64 0, .int .i64 0, .int .i64 0, .int .i64 0, .str (⟨#[]⟩ : ByteArray)]) (cmdEq (⟨0, 0, 0, c.size, c.digest⟩ : Cmd) (⟨0, 0, 0, 0, (⟨#[]⟩ : ByteArray)⟩ : Cmd)) (by kernel_rfl) (by kernel_rfl) (by kernel_rfl) (by kernel_rfl) (by kernel_rfl) (.bool (cmdEq (⟨0, 0, 0, c.size, c.digest⟩ : Cmd) (⟨0, 0, 0, 0, (⟨#[]⟩ : ByteArray)⟩ : Cmd))) (.inl ⟨rfl, rfl⟩) ?_
            refine At.a 2 ?_
            refine At.done rfl ?_
            refine AW.ret ?_
            refine ⟨_, Sub.refl _ _, ?_⟩
            refine KF.conv (fun w => .bool w) (fun w => []) (show (cmdEq (⟨0, 0, 0, c.size, c.digest⟩ : Cmd) (⟨0, 0, 0, 0, (⟨#[]⟩ : ByteArray)⟩ : Cmd)) = (cmdOk c) from by (try simp only [inR_iff, inR_not] at *); rw [Bool.eq_iff_iff]; simp only [cmdOk, cmdEq, noBytes]; (repeat' split) <;> (try simp [inR_iff]) <;> grind) ?_
            exact KF.m [] [.bool (cmdEq (⟨0, 0, 0, c.size, c.digest⟩ : Cmd) (⟨0, 0, 0, 0, (⟨#[]⟩ : ByteArray)⟩ : Cmd))]
          · refine At.sB 47 (inR c.node 0 4) false (sayB (Bool.eq_false_iff.2 h9)) ?_
            replace h9 := Bool.eq_false_iff.2 h9
            refine At.a 5 ?_
            refine At.done rfl ?_
            refine AW.ret ?_
            refine ⟨_, Sub.refl _ _, ?_⟩
            refine KF.conv (fun w => .bool w) (fun w => []) (show (false) = (cmdOk c) from by (try simp only [inR_iff, inR_not] at *); rw [Bool.eq_iff_iff]; simp only [cmdOk, cmdEq, noBytes]; (repeat' split) <;> (try simp [inR_iff]) <;> grind) ?_
            exact KF.m [] [.bool false]
        · refine At.sB 37 (inR c.release 1 1000) false (sayB (Bool.eq_false_iff.2 h8)) ?_
          replace h8 := Bool.eq_false_iff.2 h8
          refine At.a 5 ?_
          refine At.done rfl ?_
          refine AW.region (At.start ?_)
          refine At.a 2 ?_
          refine At.done rfl ?_
          refine AW.r ?_
          refine At.a 7 ?_
          refine At.done rfl ?_
          refine AW.ret ?_
          refine ⟨_, Sub.refl _ _, ?_⟩
          refine KF.conv (fun w => .bool w) (fun w => []) (show (false) = (cmdOk c) from by (try simp only [inR_iff, inR_not] at *); rw [Bool.eq_iff_iff]; simp only [cmdOk, cmdEq, noBytes]; (repeat' split) <;> (try simp [inR_iff]) <;> grind) ?_
          exact KF.m [] [.bool false]
      · skip
        refine AW.seq ?_
        refine AW.r ?_
        refine At.a 2 ?_
        refine At.done rfl ?_
        refine AW.cE c.kind (4 : Int) (fun h10 => ?_) (fun h10 => ?_)
        · skip
          refine AW.skip ?_
          refine AW.cE c.kind (4 : Int) (fun h11 => ?_) (fun h11 => ?_)
          · skip
            refine AW.skip ?_
            refine AW.r ?_
            refine At.a 2 ?_
            by_cases h12 : (inR c.release 1 1000) = true
            · refine At.sB 47 (inR c.release 1 1000) true (sayB h12) ?_
              refine At.a 2 ?_
              refine At.eqA (t := 31) (u := 31) (d := 50) (op := .eql) (x := .tmp 48) (y := .tmp 49) (X := [.int .i64 0, .int .i64 0, .int .i64 c.node, .int .i64 c.size, .str c.digest]) (Y := [.int .i64 0, .int .i64 0, .int .i64 0, .int .i64 0, .str (⟨#[]⟩ : ByteArray)]) (cmdEq (⟨0, 0, c.node, c.size, c.digest⟩ : Cmd) (⟨0, 0, 0, 0, (⟨#[]⟩ : ByteArray)⟩ : Cmd)) (by kernel_rfl) (by kernel_rfl) (by kernel_rfl) (by kernel_rfl) (by kernel_rfl) (.bool (cmdEq (⟨0, 0, c.node, c.size, c.digest⟩ : Cmd) (⟨0, 0, 0, 0, (⟨#[]⟩ : ByteArray)⟩ : Cmd))) (.inl ⟨rfl, rfl⟩) ?_
              refine At.a 2 ?_
              refine At.done rfl ?_
              refine AW.ret ?_
              refine ⟨_, Sub.refl _ _, ?_⟩
              refine KF.conv (fun w => .bool w) (fun w => []) (show (cmdEq (⟨0, 0, c.node, c.size, c.digest⟩ : Cmd) (⟨0, 0, 0, 0, (⟨#[]⟩ : ByteArray)⟩ : Cmd)) = (cmdOk c) from by (try simp only [inR_iff, inR_not] at *); rw [Bool.eq_iff_iff]; simp only [cmdOk, cmdEq, noBytes]; (repeat' split) <;> (try simp [inR_iff]) <;> grind) ?_
              exact KF.m [] [.bool (cmdEq (⟨0, 0, c.node, c.size, c.digest⟩ : Cmd) (⟨0, 0, 0, 0, (⟨#[]⟩ : ByteArray)⟩ : Cmd))]
            · refine At.sB 47 (inR c.release 1 1000) false (sayB (Bool.eq_false_iff.2 h12)) ?_
              replace h12 := Bool.eq_false_iff.2 h12
              refine At.a 5 ?_
              refine At.done rfl ?_
              refine AW.ret ?_
              refine ⟨_, Sub.refl _ _, ?_⟩
              refine KF.conv (fun w => .bool w) (fun w => []) (show (false) = (cmdOk c) from by (try simp only [inR_iff, inR_not] at *); rw [Bool.eq_iff_iff]; simp only [cmdOk, cmdEq, noBytes]; (repeat' split) <;> (try simp [inR_iff]) <;> grind) ?_
              exact KF.m [] [.bool false]
          · skip
            refine AW.r ?_
            refine At.a 1 ?_
            refine At.done rfl ?_
            refine AW.ret ?_
            refine ⟨_, Sub.refl _ _, ?_⟩
            refine KF.conv (fun w => .bool w) (fun w => []) (show (false) = (cmdOk c) from by (try simp only [inR_iff, inR_not] at *); rw [Bool.eq_iff_iff]; simp only [cmdOk, cmdEq, noBytes]; (repeat' split) <;> (try simp [inR_iff]) <;> grind) ?_
            exact KF.m [] [.bool false]
        · skip
          refine AW.region (At.start ?_)
          refine At.a 2 ?_
          refine At.done rfl ?_
          refine AW.cE c.kind (5 : Int) (fun h13 => ?_) (fun h13 => ?_)
          · skip
            refine AW.skip ?_
            refine AW.r ?_
            refine At.a 2 ?_
            by_cases h14 : (inR c.release 1 1000) = true
            · refine At.sB 47 (inR c.release 1 1000) true (sayB h14) ?_
              refine At.a 2 ?_
              refine At.eqA (t := 31) (u := 31) (d := 50) (op := .eql) (x := .tmp 48) (y := .tmp 49) (X := [.int .i64 0, .int .i64 0, .int .i64 c.node, .int .i64 c.size, .str c.digest]) (Y := [.int .i64 0, .int .i64 0, .int .i64 0, .int .i64 0, .str (⟨#[]⟩ : ByteArray)]) (cmdEq (⟨0, 0, c.node, c.size, c.digest⟩ : Cmd) (⟨0, 0, 0, 0, (⟨#[]⟩ : ByteArray)⟩ : Cmd)) (by kernel_rfl) (by kernel_rfl) (by kernel_rfl) (by kernel_rfl) (by kernel_rfl) (.bool (cmdEq (⟨0, 0, c.node, c.size, c.digest⟩ : Cmd) (⟨0, 0, 0, 0, (⟨#[]⟩ : ByteArray)⟩ : Cmd))) (.inl ⟨rfl, rfl⟩) ?_
              refine At.a 2 ?_
              refine At.done rfl ?_
              refine AW.ret ?_
              refine ⟨_, Sub.refl _ _, ?_⟩
              refine KF.conv (fun w => .bool w) (fun w => []) (show (cmdEq (⟨0, 0, c.node, c.size, c.digest⟩ : Cmd) (⟨0, 0, 0, 0, (⟨#[]⟩ : ByteArray)⟩ : Cmd)) = (cmdOk c) from by (try simp only [inR_iff, inR_not] at *); rw [Bool.eq_iff_iff]; simp only [cmdOk, cmdEq, noBytes]; (repeat' split) <;> (try simp [inR_iff]) <;> grind) ?_
              exact KF.m [] [.bool (cmdEq (⟨0, 0, c.node, c.size, c.digest⟩ : Cmd) (⟨0, 0, 0, 0, (⟨#[]⟩ : ByteArray)⟩ : Cmd))]
            · refine At.sB 47 (inR c.release 1 1000) false (sayB (Bool.eq_false_iff.2 h14)) ?_
              replace h14 := Bool.eq_false_iff.2 h14
              refine At.a 5 ?_
              refine At.done rfl ?_
              refine AW.ret ?_
              refine ⟨_, Sub.refl _ _, ?_⟩
              refine KF.conv (fun w => .bool w) (fun w => []) (show (false) = (cmdOk c) from by (try simp only [inR_iff, inR_not] at *); rw [Bool.eq_iff_iff]; simp only [cmdOk, cmdEq, noBytes]; (repeat' split) <;> (try simp [inR_iff]) <;> grind) ?_
              exact KF.m [] [.bool false]
          · skip
            refine AW.r ?_
            refine At.a 1 ?_
            refine At.done rfl ?_
            refine AW.ret ?_
            refine ⟨_, Sub.refl _ _, ?_⟩
            refine KF.conv (fun w => .bool w) (fun w => []) (show (false) = (cmdOk c) from by (try simp only [inR_iff, inR_not] at *); rw [Bool.eq_iff_iff]; simp only [cmdOk, cmdEq, noBytes]; (repeat' split) <;> (try simp [inR_iff]) <;> grind) ?_
            exact KF.m [] [.bool false]
set_option maxRecDepth 100000 in
set_option maxHeartbeats 4000000 in
theorem impl_lastTerm_spec  (l : List Ent) (hl : l.length ≤ 1048576) : FnSpec Tryz.prog 113 [.sl false 6 (l.map encEnt)] [] (.int .i64 (lastT l)) [] := by
  refine FnSpec.of 13 Tryz.func113 rfl Tryz.ntmps113 (by simp) (AW.weakK ?_)
  refine AW.r ?_
  refine At.a 1 ?_
  refine At.done rfl ?_
  refine AW.seq ?_
  refine AW.r ?_
  refine At.a 2 ?_
  refine At.sL 4 encEnt l ?_
  refine At.a 1 ?_
  refine At.done rfl ?_
  refine AW.cE (l.length : Int) (0 : Int) (fun h1 => ?_) (fun h1 => ?_)
  · skip
    refine AW.r ?_
    refine At.a 1 ?_
    refine At.done rfl ?_
    refine AW.ret ?_
    refine ⟨_, Sub.refl _ _, ?_⟩
    refine KF.conv (fun w => .int .i64 w) (fun w => []) (show (0) = (lastT l) from by obtain rfl := List.length_eq_zero_iff.1 (show l.length = 0 by omega); rfl) ?_
    exact KF.m [] [.int .i64 0]
  · skip
    refine AW.skip ?_
    refine AW.r ?_
    refine At.a 3 ?_
    refine At.sL 8 encEnt l ?_
    refine At.a 1 ?_
    refine At.sI 9 ((l.length : Int) - 1) (by omega) ?_
    refine At.iSl 24 10 (.tmp 6) (.tmp 9) false 6 (l.map encEnt) .i64 ((l.length : Int) - 1) 45 (by omega) (by simp only [List.length_map, List.length_append, List.length_take, List.length_drop, List.length_replicate, List.length_set, List.length_cons, List.length_nil]; omega) ?_
    refine At.a 1 ?_
    refine Exists.elim (show ∃ e, l[((l.length : Int) - 1).toNat]? = some e from ⟨_, List.getElem?_eq_getElem (by omega)⟩) fun e1 he1 => ?_
    refine At.lVp 3 12 (.tmp 11) false 6 (l.map encEnt) (((l.length : Int) - 1).toNat) 0 false 1 (encEnt e1) (.int .i64 e1.term) (mapGet he1) ?_
    refine At.a 1 ?_
    refine At.done rfl ?_
    refine AW.ret ?_
    refine ⟨_, Sub.refl _ _, ?_⟩
    refine KF.conv (fun w => .int .i64 w) (fun w => []) (show (e1.term) = (lastT l) from by rw [show ((l.length : Int) - 1).toNat = l.length - 1 from by omega] at he1; simp [lastT, he1]) ?_
    exact KF.m [] [.int .i64 e1.term]
set_option maxRecDepth 100000 in
set_option maxHeartbeats 4000000 in
theorem impl_isWhole_spec  (n : Int) : FnSpec Tryz.prog 150 [.int .i64 n] [] (.bool (inR n 0 1000000000)) [] := by
  refine FnSpec.of 5 Tryz.func150 rfl Tryz.ntmps150 (by simp) (AW.weakK ?_)
  refine AW.r ?_
  refine At.a 1 ?_
  refine At.done rfl ?_
  refine AW.r ?_
  refine At.a 1 ?_
  refine At.c (impl_within_spec  n 0 1000000000 ) Tryz.call69 true [] [] [] trivial ?_
  refine At.a 1 ?_
  refine At.done rfl ?_
  refine AW.ret ?_
  refine ⟨_, Sub.refl _ _, ?_⟩
  exact KF.m [] [.bool (inR n 0 1000000000)]
set_option maxRecDepth 100000 in
set_option maxHeartbeats 4000000 in
theorem impl_HardOk_spec  (h : Hard) (hl : h.log.length ≤ 1048576) : FnSpec Tryz.prog 70 [.agg [.int .i64 h.term, .int .i64 h.vote, .sl false 6 (h.log.map encEnt)]] [] (.bool (hardOk h)) [] := by
  refine FnSpec.of 46 Tryz.func70 rfl Tryz.ntmps70 (by simp) (AW.weakK ?_)
  refine AW.r ?_
  refine At.a 2 ?_
  refine At.done rfl ?_
  refine AW.seq ?_
  refine AW.r ?_
  refine At.a 3 ?_
  refine At.sL 7 encEnt h.log ?_
  refine At.a 1 ?_
  refine At.done rfl ?_
  refine AW.block ?_
  refine AW.loopW (fun (k : Nat) => Go.Sy.mk [.un, .ptr 101 0 0, .un, .un, .un, .un, .sl false 6 (h.log.map encEnt), .int .i64 (h.log.length : Int), .int .i64 (k : Int)] [(101, .box 26 [.int .i64 h.term, .int .i64 h.vote, .sl false 6 (h.log.map encEnt)])]) (fun (k : Nat) => k ≤ h.log.length ∧ logOk h.term 0 h.log = logOk h.term (lastT (h.log.take k)) (h.log.drop k)) (fun (k : Nat) => h.log.length - k) 0 ⟨by omega, by simp [lastT]⟩ (Sub.o [(101, 101)] [false, true, false, false, false, false, true, true, true]) ?_
  rintro k ⟨hk, hR⟩
  refine AW.r ?_
  refine At.a 1 ?_
  refine At.done rfl ?_
  refine AW.seq ?_
  refine AW.cD ((k : Int) < (h.log.length : Int)) (fun h1 => ?_) (fun h1 => ?_)
  · skip
    refine AW.skip ?_
    refine AW.seq ?_
    refine AW.block ?_
    refine AW.r ?_
    refine At.a 1 ?_
    refine At.iSl 24 11 (.tmp 6) (.tmp 8) false 6 (h.log.map encEnt) .i64 (k : Int) 45 (by omega) (by simp only [List.length_map, List.length_append, List.length_take, List.length_drop, List.length_replicate, List.length_set, List.length_cons, List.length_nil]; omega) ?_
    refine Exists.elim (show ∃ e, h.log[k]? = some e from ⟨_, List.getElem?_eq_getElem (by omega)⟩) fun e1 he1 => ?_
    refine At.lVp 45 12 (.tmp 11) false 6 (h.log.map encEnt) k 0 true 6 (encEnt e1) (.agg [.int .i64 e1.term, .int .i64 e1.cmd.kind, .int .i64 e1.cmd.release, .int .i64 e1.cmd.node, .int .i64 e1.cmd.size, .str e1.cmd.digest]) (mapGet he1) ?_
    refine At.a 3 ?_
    refine At.done rfl ?_
    refine AW.seq ?_
    refine AW.regionD Tryz_mix (At.start ?_)
    refine At.a 2 ?_
    refine At.c (impl_CmdOk_spec  e1.cmd ) Tryz.call101 true [] [] [] trivial ?_
    refine At.a 2 ?_
    by_cases h2 : (cmdOk e1.cmd) = true
    · refine At.sB 17 (!(cmdOk e1.cmd)) false (sayNF (sayB h2)) ?_
      refine At.a 5 ?_
      refine At.sliceSl (t := 24) (d := 23) (e := 45) (es := 6) (x := .tmp 21) (lx := none) (hx := some (.tmp 22)) (p := false) (xs := (h.log.map encEnt)) (vl := .un) (vh := .int .i64 (k : Int)) 0 k ((h.log.take k).map encEnt) (by kernel_rfl) (by kernel_rfl) (by kernel_rfl) (by kernel_rfl) (.inl ⟨rfl, rfl⟩) (.inr ⟨_, _, rfl, rfl⟩) (by omega) (by simp only [List.length_map, List.length_append, List.length_take, List.length_drop, List.length_replicate, List.length_set, List.length_cons, List.length_nil]; omega) (by simp [List.map_take, List.map_drop]) ?_
      refine At.c (impl_lastTerm_spec  (h.log.take k) (by simp only [List.length_map, List.length_append, List.length_take, List.length_drop, List.length_replicate, List.length_set, List.length_cons, List.length_nil]; omega)) Tryz.call113 true [] [] [] trivial ?_
      refine At.mm (d := 25) (b := .max) (x := .const (.int .i64 1)) (y := .tmp 24) (ats := #[3, 3]) (q := .i64) (m := 1) (n := lastT (h.log.take k)) (if (lastT (h.log.take k)) > 1 then lastT (h.log.take k) else 1) (by kernel_rfl) (by kernel_rfl) (by kernel_rfl) (by kernel_rfl) (.inr ⟨rfl, rfl⟩) ?_
      refine At.say 25 (.int .i64 (if (lastT (h.log.take k)) > 1 then lastT (h.log.take k) else 1)) (.int .i64 (max 1 (lastT (h.log.take k)))) (by kernel_rfl) (congrArg (V.int .i64) (by omega)) ?_
      refine At.a 2 ?_
      refine At.c (impl_within_spec  e1.term (max 1 (lastT (h.log.take k))) h.term ) Tryz.call69 true [] [] [] trivial ?_
      refine At.a 2 ?_
      refine At.done rfl ⟨by kernel_rfl, ?_⟩
      refine AW.cNB (inR e1.term (max 1 (lastT (h.log.take k))) h.term) (fun h3 => ?_) (fun h3 => ?_)
      · skip
        refine AW.r ?_
        refine At.a 1 ?_
        refine At.done rfl ?_
        refine AW.ret ?_
        refine ⟨_, Sub.refl _ _, ?_⟩
        refine KF.conv (fun w => .bool w) (fun w => []) (show (false) = (hardOk h) from by refine hardBad (hR.trans ?_); rw [dropCons he1]; first | exact logOk_bad0 (by assumption) | exact logOk_bad2 (by have := inR_not.1 (by assumption); omega)) ?_
        exact KF.m [] [.bool false]
      · skip
        have h3i := inR_iff.1 h3
        refine AW.skip ?_
        refine AW.region (At.start ?_)
        refine At.a 1 ?_
        refine At.sI 31 ((k : Int) + 1) (by omega) ?_
        refine At.a 1 ?_
        refine At.done rfl ?_
        exact ⟨k + 1, ⟨by omega, by rw [hR, dropCons he1, lastT_next he1]; exact logOk_step (by omega) (by omega) (by simp only [*]) (by omega)⟩, (by omega), Sub.o [(101, 101)] [false, true, false, false, false, false, true, true, true]⟩
    · refine At.sB 17 (!(cmdOk e1.cmd)) true (sayNT (sayB (Bool.eq_false_iff.2 h2))) ?_
      replace h2 := Bool.eq_false_iff.2 h2
      refine At.a 13 ?_
      refine At.done rfl ⟨by kernel_rfl, ?_⟩
      refine AW.cond true (by kernel_rfl) (fun _ => ?_) (fun h => by cases h)
      refine AW.r ?_
      refine At.a 1 ?_
      refine At.done rfl ?_
      refine AW.ret ?_
      refine ⟨_, Sub.refl _ _, ?_⟩
      refine KF.conv (fun w => .bool w) (fun w => []) (show (false) = (hardOk h) from by refine hardBad (hR.trans ?_); rw [dropCons he1]; first | exact logOk_bad0 (by assumption) | exact logOk_bad2 (by have := inR_not.1 (by assumption); omega)) ?_
      exact KF.m [] [.bool false]
  · skip
    refine AW.exit ?_
    refine AW.r ?_
    refine At.a 2 ?_
    refine At.c (impl_isWhole_spec  h.term ) Tryz.call150 true [] [] [] trivial ?_
    refine At.a 1 ?_
    by_cases h4 : (inR h.term 0 1000000000) = true
    · refine At.sB 35 (inR h.term 0 1000000000) true (sayB h4) ?_
      have h4i := inR_iff.1 h4
      refine At.a 2 ?_
      refine At.c (impl_within_spec  h.vote 0 5 ) Tryz.call69 true [] [] [] trivial ?_
      refine At.a 2 ?_
      by_cases h5 : (inR h.vote 0 5) = true
      · refine At.sB 40 (inR h.vote 0 5) true (sayB h5) ?_
        have h5i := inR_iff.1 h5
        refine At.a 3 ?_
        refine At.sL 43 encEnt h.log ?_
        refine At.a 3 ?_
        refine At.done rfl ?_
        refine AW.ret ?_
        refine ⟨_, Sub.refl _ _, ?_⟩
        refine KF.conv (fun w => .bool w) (fun w => []) (show (decide ((h.log.length : Int) ≤ 80)) = (hardOk h) from by have q : logOk h.term 0 h.log = true := (by rw [hR, List.drop_of_length_le (by omega)]; rfl); grind [hardOk]) ?_
        exact KF.m [] [.bool (decide ((h.log.length : Int) ≤ 80))]
      · refine At.sB 40 (inR h.vote 0 5) false (sayB (Bool.eq_false_iff.2 h5)) ?_
        replace h5 := Bool.eq_false_iff.2 h5
        refine At.a 6 ?_
        refine At.done rfl ?_
        refine AW.ret ?_
        refine ⟨_, Sub.refl _ _, ?_⟩
        refine KF.conv (fun w => .bool w) (fun w => []) (show (false) = (hardOk h) from by have q : logOk h.term 0 h.log = true := (by rw [hR, List.drop_of_length_le (by omega)]; rfl); grind [hardOk]) ?_
        exact KF.m [] [.bool false]
    · refine At.sB 35 (inR h.term 0 1000000000) false (sayB (Bool.eq_false_iff.2 h4)) ?_
      replace h4 := Bool.eq_false_iff.2 h4
      refine At.a 11 ?_
      refine At.done rfl ?_
      refine AW.ret ?_
      refine ⟨_, Sub.refl _ _, ?_⟩
      refine KF.conv (fun w => .bool w) (fun w => []) (show (false) = (hardOk h) from by have q : logOk h.term 0 h.log = true := (by rw [hR, List.drop_of_length_le (by omega)]; rfl); grind [hardOk]) ?_
      exact KF.m [] [.bool false]
set_option maxRecDepth 100000 in
set_option maxHeartbeats 4000000 in
theorem impl_nodesAscend_spec  (list : List Int) (of_ : Int) (hl : list.length ≤ 1048576) (ho : 0 ≤ of_ ∧ of_ ≤ 1000) : FnSpec Tryz.prog 71 [.sl false 1 (list.map encI), .int .i64 of_] [] (.bool (asc (of_ - 1) (-1) list)) [] := by
  refine FnSpec.of 33 Tryz.func71 rfl Tryz.ntmps71 (by simp) (AW.weakK ?_)
  refine AW.r ?_
  refine At.a 1 ?_
  refine At.done rfl ?_
  refine AW.seq ?_
  refine AW.r ?_
  refine At.a 2 ?_
  refine At.sL 8 encI list ?_
  refine At.a 1 ?_
  refine At.done rfl ?_
  refine AW.block ?_
  refine AW.loopW (fun (k : Nat) => Go.Sy.mk [.sl false 1 (list.map encI), .int .i64 of_, .un, .un, .un, .un, .un, .sl false 1 (list.map encI), .int .i64 (list.length : Int), .int .i64 (k : Int)] []) (fun (k : Nat) => k ≤ list.length ∧ ∃ p : Int, (k = 0 → p = -1) ∧ (∀ e, 0 < k → list[k - 1]? = some e → e = p) ∧ asc (of_ - 1) (-1) list = asc (of_ - 1) p (list.drop k)) (fun (k : Nat) => list.length - k) 0 ⟨by omega, -1, by omega, by omega, by rw [List.drop_zero]⟩ (Sub.o [] [true, true, false, false, false, false, false, true, true, true]) ?_
  rintro k ⟨hk, p, hp0, hp1, hR⟩
  refine AW.r ?_
  refine At.a 1 ?_
  refine At.done rfl ?_
  refine AW.seq ?_
  refine AW.cD ((k : Int) < (list.length : Int)) (fun h1 => ?_) (fun h1 => ?_)
  · skip
    refine AW.skip ?_
    refine AW.seq ?_
    refine AW.block ?_
    refine AW.r ?_
    refine At.a 1 ?_
    refine At.iSl 27 12 (.tmp 7) (.tmp 9) false 1 (list.map encI) .i64 (k : Int) 3 (by omega) (by simp only [List.length_map, List.length_append, List.length_take, List.length_drop, List.length_replicate, List.length_set, List.length_cons, List.length_nil]; omega) ?_
    refine Exists.elim (show ∃ e, list[k]? = some e from ⟨_, List.getElem?_eq_getElem (by omega)⟩) fun e1 he1 => ?_
    refine At.lVp 3 13 (.tmp 12) false 1 (list.map encI) k 0 false 1 (encI e1) (.int .i64 e1) (mapGet he1) ?_
    refine At.a 2 ?_
    refine At.done rfl ?_
    refine AW.r ?_
    refine At.a 3 ?_
    refine At.sI 16 (of_ - 1) (by omega) ?_
    refine At.c (impl_within_spec  e1 0 (of_ - 1) ) Tryz.call69 true [] [] [] trivial ?_
    refine At.a 2 ?_
    by_cases h2 : (inR e1 0 (of_ - 1)) = true
    · refine At.sB 19 (!(inR e1 0 (of_ - 1))) false (sayNF (sayB h2)) ?_
      have h2i := inR_iff.1 h2
      refine At.a 3 ?_
      by_cases h3 : (k : Int) > 0
      · refine At.sB 22 (decide ((k : Int) > 0)) true (sayT h3) ?_
        refine At.a 3 ?_
        refine At.sI 25 ((k : Int) - 1) (by omega) ?_
        refine At.iSl 27 26 (.tmp 23) (.tmp 25) false 1 (list.map encI) .i64 ((k : Int) - 1) 3 (by omega) (by simp only [List.length_map, List.length_append, List.length_take, List.length_drop, List.length_replicate, List.length_set, List.length_cons, List.length_nil]; omega) ?_
        refine Exists.elim (show ∃ e, list[((k : Int) - 1).toNat]? = some e from ⟨_, List.getElem?_eq_getElem (by omega)⟩) fun e2 he2 => ?_
        have qe2 := hp1 e2 (by omega) (by rw [show k - 1 = ((k : Int) - 1).toNat from by omega]; exact he2)
        refine At.lVp 3 27 (.tmp 26) false 1 (list.map encI) (((k : Int) - 1).toNat) 0 false 1 (encI e2) (.int .i64 e2) (mapGet he2) ?_
        refine At.a 4 ?_
        refine At.done rfl ?_
        refine AW.cD (e2 ≥ e1) (fun h4 => ?_) (fun h4 => ?_)
        · skip
          refine AW.r ?_
          refine At.a 1 ?_
          refine At.done rfl ?_
          refine AW.ret ?_
          refine ⟨_, Sub.refl _ _, ?_⟩
          refine KF.conv (fun w => .bool w) (fun w => []) (show (false) = (asc (of_ - 1) (-1) list) from by rw [hR, dropCons he1]; first | exact asc_bad1 (by assumption) | exact asc_bad2 (by omega)) ?_
          exact KF.m [] [.bool false]
        · skip
          refine AW.skip ?_
          refine AW.region (At.start ?_)
          refine At.a 1 ?_
          refine At.sI 32 ((k : Int) + 1) (by omega) ?_
          refine At.a 1 ?_
          refine At.done rfl ?_
          exact ⟨k + 1, ⟨by omega, e1, by omega, at_k he1, by have i1 := inR_iff.1 (show inR e1 0 (of_ - 1) = true by simpa using h2); rw [hR, dropCons he1]; exact asc_step (by simpa using h2) (by omega)⟩, (by omega), Sub.o [] [true, true, false, false, false, false, false, true, true, true]⟩
      · refine At.sB 22 (decide ((k : Int) > 0)) false (sayF h3) ?_
        refine At.a 9 ?_
        refine At.done rfl ?_
        refine AW.cond false (by kernel_rfl) (fun h => by cases h) (fun _ => ?_)
        refine AW.skip ?_
        refine AW.region (At.start ?_)
        refine At.a 1 ?_
        refine At.sI 32 ((k : Int) + 1) (by omega) ?_
        refine At.a 1 ?_
        refine At.done rfl ?_
        exact ⟨k + 1, ⟨by omega, e1, by omega, at_k he1, by have i1 := inR_iff.1 (show inR e1 0 (of_ - 1) = true by simpa using h2); rw [hR, dropCons he1]; exact asc_step (by simpa using h2) (by omega)⟩, (by omega), Sub.o [] [true, true, false, false, false, false, false, true, true, true]⟩
    · refine At.sB 19 (!(inR e1 0 (of_ - 1))) true (sayNT (sayB (Bool.eq_false_iff.2 h2))) ?_
      replace h2 := Bool.eq_false_iff.2 h2
      refine At.a 12 ?_
      refine At.done rfl ?_
      refine AW.cond true (by kernel_rfl) (fun _ => ?_) (fun h => by cases h)
      refine AW.r ?_
      refine At.a 1 ?_
      refine At.done rfl ?_
      refine AW.ret ?_
      refine ⟨_, Sub.refl _ _, ?_⟩
      refine KF.conv (fun w => .bool w) (fun w => []) (show (false) = (asc (of_ - 1) (-1) list) from by rw [hR, dropCons he1]; first | exact asc_bad1 (by assumption) | exact asc_bad2 (by omega)) ?_
      exact KF.m [] [.bool false]
  · skip
    refine AW.exit ?_
    refine AW.r ?_
    refine At.a 1 ?_
    refine At.done rfl ?_
    refine AW.ret ?_
    refine ⟨_, Sub.refl _ _, ?_⟩
    refine KF.conv (fun w => .bool w) (fun w => []) (show (true) = (asc (of_ - 1) (-1) list) from by rw [hR, List.drop_of_length_le (by omega)]; rfl) ?_
    exact KF.m [] [.bool true]
set_option maxRecDepth 100000 in
set_option maxHeartbeats 4000000 in
theorem slices_Index_spec  (s : List Int) (v : Int) (hl : s.length ≤ 1048576) : FnSpec Tryz.prog 151 [.sl false 1 (s.map encI), .int .i64 v] [] (.int .i64 (idxI v 0 s)) [] := by
  refine FnSpec.of 19 Tryz.func151 rfl Tryz.ntmps151 (by simp) (AW.weakK ?_)
  refine AW.r ?_
  refine At.a 1 ?_
  refine At.done rfl ?_
  refine AW.seq ?_
  refine AW.r ?_
  refine At.a 2 ?_
  refine At.sL 7 encI s ?_
  refine At.a 1 ?_
  refine At.done rfl ?_
  refine AW.block ?_
  refine AW.loopW (fun (k : Nat) => Go.Sy.mk [.sl false 1 (s.map encI), .int .i64 v, .un, .un, .un, .un, .un, .int .i64 (s.length : Int), .int .i64 (k : Int)] []) (fun (k : Nat) => k ≤ s.length ∧ idxI v 0 s = idxI v k (s.drop k)) (fun (k : Nat) => s.length - k) 0 ⟨by omega, by rw [List.drop_zero]⟩ (Sub.o [] [true, true, false, false, false, false, false, true, true]) ?_
  rintro k ⟨hk, hR⟩
  refine AW.r ?_
  refine At.a 1 ?_
  refine At.done rfl ?_
  refine AW.seq ?_
  refine AW.cD ((k : Int) < (s.length : Int)) (fun h1 => ?_) (fun h1 => ?_)
  · skip
    refine AW.skip ?_
    refine AW.seq ?_
    refine AW.block ?_
    refine AW.r ?_
    refine At.a 2 ?_
    refine At.done rfl ?_
    refine AW.r ?_
    refine At.a 3 ?_
    refine At.iSl 27 14 (.tmp 12) (.tmp 13) false 1 (s.map encI) .i64 (k : Int) 3 (by omega) (by simp only [List.length_map, List.length_append, List.length_take, List.length_drop, List.length_replicate, List.length_set, List.length_cons, List.length_nil]; omega) ?_
    refine Exists.elim (show ∃ e, s[k]? = some e from ⟨_, List.getElem?_eq_getElem (by omega)⟩) fun e1 he1 => ?_
    refine At.lVp 3 15 (.tmp 14) false 1 (s.map encI) k 0 false 1 (encI e1) (.int .i64 e1) (mapGet he1) ?_
    refine At.a 1 ?_
    refine At.done rfl ?_
    refine AW.cE v e1 (fun h2 => ?_) (fun h2 => ?_)
    · skip
      refine AW.r ?_
      refine At.a 2 ?_
      refine At.done rfl ?_
      refine AW.ret ?_
      refine ⟨_, Sub.refl _ _, ?_⟩
      refine KF.conv (fun w => .int .i64 w) (fun w => []) (show ((k : Int)) = (idxI v 0 s) from by rw [hR, dropCons he1, idxI, if_pos (by assumption)]) ?_
      exact KF.m [] [.int .i64 (k : Int)]
    · skip
      refine AW.skip ?_
      refine AW.region (At.start ?_)
      refine At.a 1 ?_
      refine At.sI 18 ((k : Int) + 1) (by omega) ?_
      refine At.a 1 ?_
      refine At.done rfl ?_
      exact ⟨k + 1, ⟨by omega, by rw [hR, dropCons he1, idxI, if_neg (by assumption)]⟩, (by omega), Sub.o [] [true, true, false, false, false, false, false, true, true]⟩
  · skip
    refine AW.exit ?_
    refine AW.r ?_
    refine At.a 1 ?_
    refine At.done rfl ?_
    refine AW.ret ?_
    refine ⟨_, Sub.refl _ _, ?_⟩
    refine KF.conv (fun w => .int .i64 w) (fun w => []) (show (-1) = (idxI v 0 s) from by rw [hR, List.drop_of_length_le (by omega)]; rfl) ?_
    exact KF.m [] [.int .i64 (-1)]
set_option maxRecDepth 100000 in
set_option maxHeartbeats 4000000 in
theorem slices_Contains_spec  (s : List Int) (v : Int) (hl : s.length ≤ 1048576) : FnSpec Tryz.prog 72 [.sl false 1 (s.map encI), .int .i64 v] [] (.bool (hasI v s)) [] := by
  refine FnSpec.of 9 Tryz.func72 rfl Tryz.ntmps72 (by simp) (AW.weakK ?_)
  refine AW.r ?_
  refine At.a 1 ?_
  refine At.done rfl ?_
  refine AW.r ?_
  refine At.a 2 ?_
  refine At.c (slices_Index_spec  s v (by omega)) Tryz.call151 true [] [] [] trivial ?_
  refine At.a 2 ?_
  refine At.done rfl ?_
  refine AW.ret ?_
  refine ⟨_, Sub.refl _ _, ?_⟩
  refine KF.conv (fun w => .bool w) (fun w => []) (show (decide ((idxI v 0 s) ≥ 0)) = (hasI v s) from idxI_has v s 0) ?_
  exact KF.m [] [.bool (decide ((idxI v 0 s) ≥ 0))]
set_option maxRecDepth 100000 in
set_option maxHeartbeats 4000000 in
theorem impl_numbersIn_spec  (list : List Int) (count : Int) (low : Int) (high : Int) (hl : list.length ≤ 1048576) : FnSpec Tryz.prog 73 [.sl false 1 (list.map encI), .int .i64 count, .int .i64 low, .int .i64 high] [] (.bool (allIn low high list && ((list.length : Int) == count))) [] := by
  refine FnSpec.of 27 Tryz.func73 rfl Tryz.ntmps73 (by simp) (AW.weakK ?_)
  refine AW.r ?_
  refine At.a 1 ?_
  refine At.done rfl ?_
  refine AW.seq ?_
  refine AW.r ?_
  refine At.a 2 ?_
  refine At.sL 12 encI list ?_
  refine At.a 1 ?_
  refine At.done rfl ?_
  refine AW.block ?_
  refine AW.loopW (fun (k : Nat) => Go.Sy.mk [.sl false 1 (list.map encI), .int .i64 count, .int .i64 low, .int .i64 high, .un, .un, .un, .un, .un, .un, .un, .sl false 1 (list.map encI), .int .i64 (list.length : Int), .int .i64 (k : Int)] []) (fun (k : Nat) => k ≤ list.length ∧ allIn low high list = allIn low high (list.drop k)) (fun (k : Nat) => list.length - k) 0 ⟨by omega, by rw [List.drop_zero]⟩ (Sub.o [] [true, true, true, true, false, false, false, false, false, false, false, true, true, true]) ?_
  rintro k ⟨hk, hR⟩
  refine AW.r ?_
  refine At.a 1 ?_
  refine At.done rfl ?_
  refine AW.seq ?_
  refine AW.cD ((k : Int) < (list.length : Int)) (fun h1 => ?_) (fun h1 => ?_)
  · skip
    refine AW.skip ?_
    refine AW.seq ?_
    refine AW.block ?_
    refine AW.r ?_
    refine At.iSl 27 15 (.tmp 11) (.tmp 13) false 1 (list.map encI) .i64 (k : Int) 3 (by omega) (by simp only [List.length_map, List.length_append, List.length_take, List.length_drop, List.length_replicate, List.length_set, List.length_cons, List.length_nil]; omega) ?_
    refine Exists.elim (show ∃ e, list[k]? = some e from ⟨_, List.getElem?_eq_getElem (by omega)⟩) fun e1 he1 => ?_
    refine At.lVp 3 16 (.tmp 15) false 1 (list.map encI) k 0 false 1 (encI e1) (.int .i64 e1) (mapGet he1) ?_
    refine At.a 1 ?_
    refine At.done rfl ?_
    refine AW.r ?_
    refine At.a 3 ?_
    refine At.c (impl_within_spec  e1 low high ) Tryz.call69 true [] [] [] trivial ?_
    refine At.a 1 ?_
    refine At.done rfl ?_
    refine AW.cNB (inR e1 low high) (fun h2 => ?_) (fun h2 => ?_)
    · skip
      refine AW.r ?_
      refine At.a 1 ?_
      refine At.done rfl ?_
      refine AW.ret ?_
      refine ⟨_, Sub.refl _ _, ?_⟩
      refine KF.conv (fun w => .bool w) (fun w => []) (show (false) = (allIn low high list && ((list.length : Int) == count)) from by rw [hR, dropCons he1, allIn]; simp only [*, Bool.false_and]) ?_
      exact KF.m [] [.bool false]
    · skip
      have h2i := inR_iff.1 h2
      refine AW.skip ?_
      refine AW.region (At.start ?_)
      refine At.a 1 ?_
      refine At.sI 22 ((k : Int) + 1) (by omega) ?_
      refine At.a 1 ?_
      refine At.done rfl ?_
      exact ⟨k + 1, ⟨by omega, by rw [hR, dropCons he1, allIn]; simp only [*, Bool.true_and]⟩, (by omega), Sub.o [] [true, true, true, true, false, false, false, false, false, false, false, true, true, true]⟩
  · skip
    refine AW.exit ?_
    refine AW.r ?_
    refine At.a 2 ?_
    refine At.sL 24 encI list ?_
    refine At.a 3 ?_
    refine At.done rfl ?_
    refine AW.ret ?_
    refine ⟨_, Sub.refl _ _, ?_⟩
    refine KF.conv (fun w => .bool w) (fun w => []) (show ((list.length : Int) == count) = (allIn low high list && ((list.length : Int) == count)) from by rw [hR, List.drop_of_length_le (by omega)]; rfl) ?_
    exact KF.m [] [.bool ((list.length : Int) == count)]
set_option maxRecDepth 100000 in
set_option maxHeartbeats 4000000 in
theorem impl_RaftOk_spec  (r : Raft) (hz : SmallR r) : FnSpec Tryz.prog 19 [.agg [.int .i64 r.id, .int .i64 r.of_, .int .i64 r.role, .int .i64 r.commit, .int .i64 r.hard.term, .int .i64 r.hard.vote, .sl false 6 (r.hard.log.map encEnt), .sl false 1 (r.yes.map encI), .sl false 1 (r.next.map encI), .sl false 1 (r.match_.map encI)]] [] (.bool (raftOk r)) [] := by
  obtain ⟨z1, z2, z3, z4⟩ := id hz
  refine FnSpec.of 105 Tryz.func19 rfl Tryz.ntmps19 (by simp) (AW.weakK ?_)
  refine AW.r ?_
  refine At.a 2 ?_
  refine At.done rfl ?_
  refine AW.r ?_
  refine At.a 4 ?_
  refine At.sL 9 encEnt r.hard.log ?_
  refine At.a 1 ?_
  refine At.done rfl ?_
  refine AW.seq ?_
  refine AW.r ?_
  refine At.a 2 ?_
  refine At.c (impl_isOf_spec  r.of_ ) Tryz.call68 true [] [] [] trivial ?_
  refine At.a 2 ?_
  by_cases h1 : (ofOk r.of_) = true
  · refine At.sB 14 (!(ofOk r.of_)) false (sayNF (sayB h1)) ?_
    have h1o := ofOk_iff.1 h1
    refine At.a 5 ?_
    refine At.sI 19 (r.of_ - 1) (by omega) ?_
    refine At.c (impl_within_spec  r.id 0 (r.of_ - 1) ) Tryz.call69 true [] [] [] trivial ?_
    refine At.a 3 ?_
    by_cases h2 : (inR r.id 0 (r.of_ - 1)) = true
    · refine At.sB 23 (!(inR r.id 0 (r.of_ - 1))) false (sayNF (sayB h2)) ?_
      have h2i := inR_iff.1 h2
      refine At.a 2 ?_
      refine At.c (impl_within_spec  r.role 1 3 ) Tryz.call69 true [] [] [] trivial ?_
      refine At.a 3 ?_
      by_cases h3 : (inR r.role 1 3) = true
      · refine At.sB 29 (!(inR r.role 1 3)) false (sayNF (sayB h3)) ?_
        have h3i := inR_iff.1 h3
        refine At.a 2 ?_
        refine At.c (impl_HardOk_spec  r.hard (by omega)) Tryz.call70 true [] [] [] trivial ?_
        refine At.a 3 ?_
        by_cases h4 : (hardOk r.hard) = true
        · refine At.sB 35 (!(hardOk r.hard)) false (sayNF (sayB h4)) ?_
          refine At.a 3 ?_
          refine At.c (impl_within_spec  r.commit 0 (r.hard.log.length : Int) ) Tryz.call69 true [] [] [] trivial ?_
          refine At.a 2 ?_
          refine At.done rfl ?_
          refine AW.cNB (inR r.commit 0 (r.hard.log.length : Int)) (fun h5 => ?_) (fun h5 => ?_)
          · skip
            refine AW.r ?_
            refine At.a 1 ?_
            refine At.done rfl ?_
            refine AW.ret ?_
            refine ⟨_, Sub.refl _ _, ?_⟩
            refine KF.conv (fun w => .bool w) (fun w => []) (show (false) = (raftOk r) from by grind [raft_all, raftOk3, allIn_zero]) ?_
            exact KF.m [] [.bool false]
          · skip
            have h5i := inR_iff.1 h5
            refine AW.skip ?_
            refine AW.seq ?_
            refine AW.seq ?_
            refine AW.cut [(101, 101)] [false, true, false, true] 65 (!(raftI2 r)) ?_ ?_
            · skip
              refine AW.region (At.start ?_)
              refine At.a 4 ?_
              refine At.c (impl_nodesAscend_spec  r.yes r.of_ (by omega) (by omega)) Tryz.call71 true [] [] [] trivial ?_
              refine At.a 2 ?_
              by_cases h6 : (asc (r.of_ - 1) (-1) r.yes) = true
              · refine At.sB 48 (!(asc (r.of_ - 1) (-1) r.yes)) false (sayNF (sayB h6)) ?_
                refine At.a 4 ?_
                refine At.c (slices_Contains_spec  r.yes r.id (by omega)) Tryz.call72 true [] [] [] trivial ?_
                refine At.a 2 ?_
                by_cases h7 : (hasI r.id r.yes) = true
                · refine At.sB 55 (hasI r.id r.yes) true (sayB h7) ?_
                  refine At.a 10 ?_
                  refine At.sB 65 true (!(raftI2 r)) (congrArg V.bool (by grind [raftI2])) ?_
                  refine At.done rfl ⟨rfl, ?_⟩
                  exact Sub.cut [(101, 101)] [false, true, false, true] 65 _ (by kernel_rfl) (by kernel_rfl) (by kernel_rfl) (by kernel_rfl)
                · refine At.sB 55 (hasI r.id r.yes) false (sayB (Bool.eq_false_iff.2 h7)) ?_
                  replace h7 := Bool.eq_false_iff.2 h7
                  refine At.a 3 ?_
                  refine At.sL 58 encI r.yes ?_
                  refine At.a 2 ?_
                  by_cases h8 : (r.yes.length : Int) > 0
                  · refine At.sB 60 (decide ((r.yes.length : Int) > 0)) true (sayT h8) ?_
                    refine At.a 5 ?_
                    refine At.sB 65 (r.role != 2) (!(raftI2 r)) (congrArg V.bool (by grind [raftI2])) ?_
                    refine At.done rfl ⟨rfl, ?_⟩
                    exact Sub.cut [(101, 101)] [false, true, false, true] 65 _ (by kernel_rfl) (by kernel_rfl) (by kernel_rfl) (by kernel_rfl)
                  · refine At.sB 60 (decide ((r.yes.length : Int) > 0)) false (sayF h8) ?_
                    refine At.a 5 ?_
                    refine At.sB 65 false (!(raftI2 r)) (congrArg V.bool (by grind [raftI2])) ?_
                    refine At.done rfl ⟨rfl, ?_⟩
                    exact Sub.cut [(101, 101)] [false, true, false, true] 65 _ (by kernel_rfl) (by kernel_rfl) (by kernel_rfl) (by kernel_rfl)
              · refine At.sB 48 (!(asc (r.of_ - 1) (-1) r.yes)) true (sayNT (sayB (Bool.eq_false_iff.2 h6))) ?_
                replace h6 := Bool.eq_false_iff.2 h6
                refine At.a 17 ?_
                refine At.sB 65 true (!(raftI2 r)) (congrArg V.bool (by grind [raftI2])) ?_
                refine At.done rfl ⟨rfl, ?_⟩
                exact Sub.cut [(101, 101)] [false, true, false, true] 65 _ (by kernel_rfl) (by kernel_rfl) (by kernel_rfl) (by kernel_rfl)
            refine AW.cNB (raftI2 r) (fun h9 => ?_) (fun h9 => ?_)
            · skip
              refine AW.r ?_
              refine At.a 1 ?_
              refine At.done rfl ?_
              refine AW.ret ?_
              refine ⟨_, Sub.refl _ _, ?_⟩
              refine KF.conv (fun w => .bool w) (fun w => []) (show (false) = (raftOk r) from by grind [raft_all, raftOk3, allIn_zero]) ?_
              exact KF.m [] [.bool false]
            · skip
              refine AW.skip ?_
              refine AW.r ?_
              refine At.a 1 ?_
              refine At.done rfl ?_
              refine AW.seq ?_
              refine AW.r ?_
              refine At.a 3 ?_
              refine At.done rfl ?_
              refine AW.cE r.role (3 : Int) (fun h10 => ?_) (fun h10 => ?_)
              · skip
                refine AW.region (At.start ?_)
                refine At.a 3 ?_
                refine At.done rfl ?_
                refine AW.seq ?_
                refine AW.cut [(101, 101)] [false, true, false, true, true] 5 (raftI4 r) ?_ ?_
                · skip
                  refine AW.region (At.start ?_)
                  refine At.a 4 ?_
                  by_cases h11 : r.role = 1
                  · refine At.sB 74 (r.role == 1) true (sayET h11) ?_
                    refine At.a 15 ?_
                    refine At.sB 5 true (raftI4 r) (congrArg V.bool (by grind [raftI4])) ?_
                    refine At.done rfl ⟨rfl, ?_⟩
                    exact Sub.cut [(101, 101)] [false, true, false, true, true] 5 _ (by kernel_rfl) (by kernel_rfl) (by kernel_rfl) (by kernel_rfl)
                  · refine At.sB 74 (r.role == 1) false (sayEF h11) ?_
                    refine At.a 5 ?_
                    by_cases h12 : r.hard.term ≥ 1
                    · refine At.sB 79 (decide (r.hard.term ≥ 1)) true (sayT h12) ?_
                      refine At.a 6 ?_
                      refine At.sI 85 (r.id + 1) (by omega) ?_
                      refine At.a 4 ?_
                      refine At.sB 5 (r.hard.vote == (r.id + 1)) (raftI4 r) (congrArg V.bool (by grind [raftI4])) ?_
                      refine At.done rfl ⟨rfl, ?_⟩
                      exact Sub.cut [(101, 101)] [false, true, false, true, true] 5 _ (by kernel_rfl) (by kernel_rfl) (by kernel_rfl) (by kernel_rfl)
                    · refine At.sB 79 (decide (r.hard.term ≥ 1)) false (sayF h12) ?_
                      refine At.a 10 ?_
                      refine At.sB 5 false (raftI4 r) (congrArg V.bool (by grind [raftI4])) ?_
                      refine At.done rfl ⟨rfl, ?_⟩
                      exact Sub.cut [(101, 101)] [false, true, false, true, true] 5 _ (by kernel_rfl) (by kernel_rfl) (by kernel_rfl) (by kernel_rfl)
                refine AW.r ?_
                refine At.a 2 ?_
                by_cases h13 : (raftI4 r) = true
                · refine At.sB 90 (raftI4 r) true (sayB h13) ?_
                  refine At.a 5 ?_
                  refine At.sI 95 ((r.hard.log.length : Int) + 1) (by omega) ?_
                  refine At.c (impl_numbersIn_spec  r.next r.of_ 1 ((r.hard.log.length : Int) + 1) (by omega)) Tryz.call73 true [] [] [] trivial ?_
                  refine At.a 2 ?_
                  by_cases h14 : (allIn 1 ((r.hard.log.length : Int) + 1) r.next && ((r.next.length : Int) == r.of_)) = true
                  · refine At.sB 98 (allIn 1 ((r.hard.log.length : Int) + 1) r.next && ((r.next.length : Int) == r.of_)) true (sayB h14) ?_
                    refine At.a 4 ?_
                    refine At.c (impl_numbersIn_spec  r.match_ r.of_ 0 (r.hard.log.length : Int) (by omega)) Tryz.call73 true [] [] [] trivial ?_
                    refine At.a 2 ?_
                    refine At.done rfl ?_
                    refine AW.ret ?_
                    refine ⟨_, Sub.refl _ _, ?_⟩
                    refine KF.conv (fun w => .bool w) (fun w => []) (show (allIn 0 (r.hard.log.length : Int) r.match_ && ((r.match_.length : Int) == r.of_)) = (raftOk r) from by grind [raft_all, raftOk3, allIn_zero]) ?_
                    exact KF.m [] [.bool (allIn 0 (r.hard.log.length : Int) r.match_ && ((r.match_.length : Int) == r.of_))]
                  · refine At.sB 98 (allIn 1 ((r.hard.log.length : Int) + 1) r.next && ((r.next.length : Int) == r.of_)) false (sayB (Bool.eq_false_iff.2 h14)) ?_
                    replace h14 := Bool.eq_false_iff.2 h14
                    refine At.a 7 ?_
                    refine At.done rfl ?_
                    refine AW.ret ?_
                    refine ⟨_, Sub.refl _ _, ?_⟩
                    refine KF.conv (fun w => .bool w) (fun w => []) (show (false) = (raftOk r) from by grind [raft_all, raftOk3, allIn_zero]) ?_
                    exact KF.m [] [.bool false]
                · refine At.sB 90 (raftI4 r) false (sayB (Bool.eq_false_iff.2 h13)) ?_
                  replace h13 := Bool.eq_false_iff.2 h13
                  refine At.a 15 ?_
                  refine At.done rfl ?_
                  refine AW.ret ?_
                  refine ⟨_, Sub.refl _ _, ?_⟩
                  refine KF.conv (fun w => .bool w) (fun w => []) (show (false) = (raftOk r) from by grind [raft_all, raftOk3, allIn_zero]) ?_
                  exact KF.m [] [.bool false]
              · skip
                refine AW.skip ?_
                refine AW.seq ?_
                refine AW.cut [(101, 101)] [false, true, false, true, true] 5 (raftI4 r) ?_ ?_
                · skip
                  refine AW.region (At.start ?_)
                  refine At.a 4 ?_
                  by_cases h15 : r.role = 1
                  · refine At.sB 74 (r.role == 1) true (sayET h15) ?_
                    refine At.a 15 ?_
                    refine At.sB 5 true (raftI4 r) (congrArg V.bool (by grind [raftI4])) ?_
                    refine At.done rfl ⟨rfl, ?_⟩
                    exact Sub.cut [(101, 101)] [false, true, false, true, true] 5 _ (by kernel_rfl) (by kernel_rfl) (by kernel_rfl) (by kernel_rfl)
                  · refine At.sB 74 (r.role == 1) false (sayEF h15) ?_
                    refine At.a 5 ?_
                    by_cases h16 : r.hard.term ≥ 1
                    · refine At.sB 79 (decide (r.hard.term ≥ 1)) true (sayT h16) ?_
                      refine At.a 6 ?_
                      refine At.sI 85 (r.id + 1) (by omega) ?_
                      refine At.a 4 ?_
                      refine At.sB 5 (r.hard.vote == (r.id + 1)) (raftI4 r) (congrArg V.bool (by grind [raftI4])) ?_
                      refine At.done rfl ⟨rfl, ?_⟩
                      exact Sub.cut [(101, 101)] [false, true, false, true, true] 5 _ (by kernel_rfl) (by kernel_rfl) (by kernel_rfl) (by kernel_rfl)
                    · refine At.sB 79 (decide (r.hard.term ≥ 1)) false (sayF h16) ?_
                      refine At.a 10 ?_
                      refine At.sB 5 false (raftI4 r) (congrArg V.bool (by grind [raftI4])) ?_
                      refine At.done rfl ⟨rfl, ?_⟩
                      exact Sub.cut [(101, 101)] [false, true, false, true, true] 5 _ (by kernel_rfl) (by kernel_rfl) (by kernel_rfl) (by kernel_rfl)
                refine AW.r ?_
                refine At.a 2 ?_
                by_cases h17 : (raftI4 r) = true
                · refine At.sB 90 (raftI4 r) true (sayB h17) ?_
                  refine At.a 5 ?_
                  refine At.sI 95 ((r.hard.log.length : Int) + 1) (by omega) ?_
                  refine At.c (impl_numbersIn_spec  r.next 0 1 ((r.hard.log.length : Int) + 1) (by omega)) Tryz.call73 true [] [] [] trivial ?_
                  refine At.a 2 ?_
                  by_cases h18 : (allIn 1 ((r.hard.log.length : Int) + 1) r.next && ((r.next.length : Int) == 0)) = true
                  · refine At.sB 98 (allIn 1 ((r.hard.log.length : Int) + 1) r.next && ((r.next.length : Int) == 0)) true (sayB h18) ?_
                    refine At.a 4 ?_
                    refine At.c (impl_numbersIn_spec  r.match_ 0 0 (r.hard.log.length : Int) (by omega)) Tryz.call73 true [] [] [] trivial ?_
                    refine At.a 2 ?_
                    refine At.done rfl ?_
                    refine AW.ret ?_
                    refine ⟨_, Sub.refl _ _, ?_⟩
                    refine KF.conv (fun w => .bool w) (fun w => []) (show (allIn 0 (r.hard.log.length : Int) r.match_ && ((r.match_.length : Int) == 0)) = (raftOk r) from by grind [raft_all, raftOk3, allIn_zero]) ?_
                    exact KF.m [] [.bool (allIn 0 (r.hard.log.length : Int) r.match_ && ((r.match_.length : Int) == 0))]
                  · refine At.sB 98 (allIn 1 ((r.hard.log.length : Int) + 1) r.next && ((r.next.length : Int) == 0)) false (sayB (Bool.eq_false_iff.2 h18)) ?_
                    replace h18 := Bool.eq_false_iff.2 h18
                    refine At.a 7 ?_
                    refine At.done rfl ?_
                    refine AW.ret ?_
                    refine ⟨_, Sub.refl _ _, ?_⟩
                    refine KF.conv (fun w => .bool w) (fun w => []) (show (false) = (raftOk r) from by grind [raft_all, raftOk3, allIn_zero]) ?_
                    exact KF.m [] [.bool false]
                · refine At.sB 90 (raftI4 r) false (sayB (Bool.eq_false_iff.2 h17)) ?_
                  replace h17 := Bool.eq_false_iff.2 h17
                  refine At.a 15 ?_
                  refine At.done rfl ?_
                  refine AW.ret ?_
                  refine ⟨_, Sub.refl _ _, ?_⟩
                  refine KF.conv (fun w => .bool w) (fun w => []) (show (false) = (raftOk r) from by grind [raft_all, raftOk3, allIn_zero]) ?_
                  exact KF.m [] [.bool false]
        · refine At.sB 35 (!(hardOk r.hard)) true (sayNT (sayB (Bool.eq_false_iff.2 h4))) ?_
          replace h4 := Bool.eq_false_iff.2 h4
          refine At.a 6 ?_
          refine At.done rfl ?_
          refine AW.cond true (by kernel_rfl) (fun _ => ?_) (fun h => by cases h)
          refine AW.r ?_
          refine At.a 1 ?_
          refine At.done rfl ?_
          refine AW.ret ?_
          refine ⟨_, Sub.refl _ _, ?_⟩
          refine KF.conv (fun w => .bool w) (fun w => []) (show (false) = (raftOk r) from by grind [raft_all, raftOk3, allIn_zero]) ?_
          exact KF.m [] [.bool false]
      · refine At.sB 29 (!(inR r.role 1 3)) true (sayNT (sayB (Bool.eq_false_iff.2 h3))) ?_
        replace h3 := Bool.eq_false_iff.2 h3
        refine At.a 12 ?_
        refine At.done rfl ?_
        refine AW.cond true (by kernel_rfl) (fun _ => ?_) (fun h => by cases h)
        refine AW.r ?_
        refine At.a 1 ?_
        refine At.done rfl ?_
        refine AW.ret ?_
        refine ⟨_, Sub.refl _ _, ?_⟩
        refine KF.conv (fun w => .bool w) (fun w => []) (show (false) = (raftOk r) from by grind [raft_all, raftOk3, allIn_zero]) ?_
        exact KF.m [] [.bool false]
    · refine At.sB 23 (!(inR r.id 0 (r.of_ - 1))) true (sayNT (sayB (Bool.eq_false_iff.2 h2))) ?_
      replace h2 := Bool.eq_false_iff.2 h2
      refine At.a 18 ?_
      refine At.done rfl ?_
      refine AW.cond true (by kernel_rfl) (fun _ => ?_) (fun h => by cases h)
      refine AW.r ?_
      refine At.a 1 ?_
      refine At.done rfl ?_
      refine AW.ret ?_
      refine ⟨_, Sub.refl _ _, ?_⟩
      refine KF.conv (fun w => .bool w) (fun w => []) (show (false) = (raftOk r) from by grind [raft_all, raftOk3, allIn_zero]) ?_
      exact KF.m [] [.bool false]
  · refine At.sB 14 (!(ofOk r.of_)) true (sayNT (sayB (Bool.eq_false_iff.2 h1))) ?_
    replace h1 := Bool.eq_false_iff.2 h1
    refine At.a 27 ?_
    refine At.done rfl ?_
    refine AW.cond true (by kernel_rfl) (fun _ => ?_) (fun h => by cases h)
    refine AW.r ?_
    refine At.a 1 ?_
    refine At.done rfl ?_
    refine AW.ret ?_
    refine ⟨_, Sub.refl _ _, ?_⟩
    refine KF.conv (fun w => .bool w) (fun w => []) (show (false) = (raftOk r) from by grind [raft_all, raftOk3, allIn_zero]) ?_
    exact KF.m [] [.bool false]
set_option maxRecDepth 100000 in
set_option maxHeartbeats 4000000 in
theorem impl_fieldsOf_spec  (kind : Int) : FnSpec Tryz.prog 76 [.int .i64 kind] [] (.str (fieldsL kind)) [] := by
  refine FnSpec.of 18 Tryz.func76 rfl Tryz.ntmps76 (by simp) (AW.weakK ?_)
  refine AW.r ?_
  refine At.a 1 ?_
  refine At.done rfl ?_
  refine AW.seq ?_
  refine AW.r ?_
  refine At.a 1 ?_
  refine At.done rfl ?_
  refine AW.block ?_
  refine AW.r ?_
  refine At.a 2 ?_
  refine At.done rfl ?_
  refine AW.cE kind (1 : Int) (fun h1 => ?_) (fun h1 => ?_)
  · skip
    refine AW.r ?_
    refine At.a 1 ?_
    refine At.done rfl ?_
    refine AW.ret ?_
    refine ⟨_, Sub.refl _ _, ?_⟩
    refine KF.conv (fun w => .str w) (fun w => []) (show ((⟨#[102, 116, 97, 120]⟩ : ByteArray)) = (fieldsL kind) from by simp [fieldsL, h1]) ?_
    exact KF.m [] [.str (⟨#[102, 116, 97, 120]⟩ : ByteArray)]
  · skip
    refine AW.r ?_
    refine At.a 2 ?_
    refine At.done rfl ?_
    refine AW.cE kind (2 : Int) (fun h2 => ?_) (fun h2 => ?_)
    · skip
      refine AW.r ?_
      refine At.a 1 ?_
      refine At.done rfl ?_
      refine AW.ret ?_
      refine ⟨_, Sub.refl _ _, ?_⟩
      refine KF.conv (fun w => .str w) (fun w => []) (show ((⟨#[102, 116, 121]⟩ : ByteArray)) = (fieldsL kind) from by simp [fieldsL, h1, h2]) ?_
      exact KF.m [] [.str (⟨#[102, 116, 121]⟩ : ByteArray)]
    · skip
      refine AW.r ?_
      refine At.a 2 ?_
      refine At.done rfl ?_
      refine AW.cE kind (3 : Int) (fun h3 => ?_) (fun h3 => ?_)
      · skip
        refine AW.r ?_
        refine At.a 1 ?_
        refine At.done rfl ?_
        refine AW.ret ?_
        refine ⟨_, Sub.refl _ _, ?_⟩
        refine KF.conv (fun w => .str w) (fun w => []) (show ((⟨#[102, 116, 97, 120, 99, 101]⟩ : ByteArray)) = (fieldsL kind) from by simp [fieldsL, h1, h2, h3]) ?_
        exact KF.m [] [.str (⟨#[102, 116, 97, 120, 99, 101]⟩ : ByteArray)]
      · skip
        refine AW.r ?_
        refine At.a 2 ?_
        refine At.done rfl ?_
        refine AW.cE kind (4 : Int) (fun h4 => ?_) (fun h4 => ?_)
        · skip
          refine AW.r ?_
          refine At.a 1 ?_
          refine At.done rfl ?_
          refine AW.ret ?_
          refine ⟨_, Sub.refl _ _, ?_⟩
          refine KF.conv (fun w => .str w) (fun w => []) (show ((⟨#[102, 116, 121, 97]⟩ : ByteArray)) = (fieldsL kind) from by simp [fieldsL, h1, h2, h3, h4]) ?_
          exact KF.m [] [.str (⟨#[102, 116, 121, 97]⟩ : ByteArray)]
        · skip
          refine AW.r ?_
          refine At.a 2 ?_
          refine At.done rfl ?_
          refine AW.cE kind (5 : Int) (fun h5 => ?_) (fun h5 => ?_)
          · skip
            refine AW.r ?_
            refine At.a 1 ?_
            refine At.done rfl ?_
            refine AW.ret ?_
            refine ⟨_, Sub.refl _ _, ?_⟩
            refine KF.conv (fun w => .str w) (fun w => []) (show ((⟨#[102, 114, 112]⟩ : ByteArray)) = (fieldsL kind) from by simp [fieldsL, h1, h2, h3, h4, h5]) ?_
            exact KF.m [] [.str (⟨#[102, 114, 112]⟩ : ByteArray)]
          · skip
            refine AW.r ?_
            refine At.a 2 ?_
            refine At.done rfl ?_
            refine AW.cE kind (6 : Int) (fun h6 => ?_) (fun h6 => ?_)
            · skip
              refine AW.r ?_
              refine At.a 1 ?_
              refine At.done rfl ?_
              refine AW.ret ?_
              refine ⟨_, Sub.refl _ _, ?_⟩
              refine KF.conv (fun w => .str w) (fun w => []) (show ((⟨#[102, 114, 112, 98]⟩ : ByteArray)) = (fieldsL kind) from by simp [fieldsL, h1, h2, h3, h4, h5, h6]) ?_
              exact KF.m [] [.str (⟨#[102, 114, 112, 98]⟩ : ByteArray)]
            · skip
              refine AW.r ?_
              refine At.a 2 ?_
              refine At.done rfl ?_
              refine AW.cE kind (7 : Int) (fun h7 => ?_) (fun h7 => ?_)
              · skip
                refine AW.r ?_
                refine At.a 1 ?_
                refine At.done rfl ?_
                refine AW.ret ?_
                refine ⟨_, Sub.refl _ _, ?_⟩
                refine KF.conv (fun w => .str w) (fun w => []) (show ((⟨#[102, 100]⟩ : ByteArray)) = (fieldsL kind) from by simp [fieldsL, h1, h2, h3, h4, h5, h6, h7]) ?_
                exact KF.m [] [.str (⟨#[102, 100]⟩ : ByteArray)]
              · skip
                refine AW.skip ?_
                refine AW.r ?_
                refine At.a 1 ?_
                refine At.done rfl ?_
                refine AW.ret ?_
                refine ⟨_, Sub.refl _ _, ?_⟩
                refine KF.conv (fun w => .str w) (fun w => []) (show ((⟨#[]⟩ : ByteArray)) = (fieldsL kind) from by simp [fieldsL, h1, h2, h3, h4, h5, h6, h7]) ?_
                exact KF.m [] [.str (⟨#[]⟩ : ByteArray)]
set_option maxRecDepth 100000 in
set_option maxHeartbeats 4000000 in
theorem impl_entryOk_spec  (e : Ent) : FnSpec Tryz.prog 174 [.agg [.int .i64 e.term, .int .i64 e.cmd.kind, .int .i64 e.cmd.release, .int .i64 e.cmd.node, .int .i64 e.cmd.size, .str e.cmd.digest]] [] (.bool (entOk e)) [] := by
  refine FnSpec.of 11 Tryz.func174 rfl Tryz.ntmps174 (by simp) (AW.weakK ?_)
  refine AW.r ?_
  refine At.a 2 ?_
  refine At.done rfl ?_
  refine AW.r ?_
  refine At.a 2 ?_
  refine At.c (impl_within_spec  e.term 1 1000000000 ) Tryz.call69 true [] [] [] trivial ?_
  refine At.a 1 ?_
  by_cases h1 : (inR e.term 1 1000000000) = true
  · refine At.sB 6 (inR e.term 1 1000000000) true (sayB h1) ?_
    have h1i := inR_iff.1 h1
    refine At.a 2 ?_
    refine At.c (impl_CmdOk_spec  e.cmd ) Tryz.call101 true [] [] [] trivial ?_
    refine At.a 2 ?_
    refine At.done rfl ?_
    refine AW.ret ?_
    refine ⟨_, Sub.refl _ _, ?_⟩
    refine KF.conv (fun w => .bool w) (fun w => []) (show (cmdOk e.cmd) = (entOk e) from by (try simp only [inR_iff, inR_not] at *); rw [Bool.eq_iff_iff]; simp only [entOk, noBytes]; (repeat' split) <;> (try simp [inR_iff]) <;> grind) ?_
    exact KF.m [] [.bool (cmdOk e.cmd)]
  · refine At.sB 6 (inR e.term 1 1000000000) false (sayB (Bool.eq_false_iff.2 h1)) ?_
    replace h1 := Bool.eq_false_iff.2 h1
    refine At.a 5 ?_
    refine At.done rfl ?_
    refine AW.ret ?_
    refine ⟨_, Sub.refl _ _, ?_⟩
    refine KF.conv (fun w => .bool w) (fun w => []) (show (false) = (entOk e) from by (try simp only [inR_iff, inR_not] at *); rw [Bool.eq_iff_iff]; simp only [entOk, noBytes]; (repeat' split) <;> (try simp [inR_iff]) <;> grind) ?_
    exact KF.m [] [.bool false]
set_option maxRecDepth 100000 in
set_option maxHeartbeats 4000000 in
theorem impl_entriesOk_spec  (list : List Ent) (hl : list.length ≤ 1048576) : FnSpec Tryz.prog 155 [.sl false 6 (list.map encEnt)] [] (.bool (entsFit list)) [] := by
  refine FnSpec.of 18 Tryz.func155 rfl Tryz.ntmps155 (by simp) (AW.weakK ?_)
  refine AW.r ?_
  refine At.a 1 ?_
  refine At.done rfl ?_
  refine AW.seq ?_
  refine AW.r ?_
  refine At.a 2 ?_
  refine At.sL 6 encEnt list ?_
  refine At.a 1 ?_
  refine At.done rfl ?_
  refine AW.block ?_
  refine AW.loopW (fun (k : Nat) => Go.Sy.mk [.sl false 6 (list.map encEnt), .un, .un, .un, .un, .sl false 6 (list.map encEnt), .int .i64 (list.length : Int), .int .i64 (k : Int)] []) (fun (k : Nat) => k ≤ list.length ∧ entsOk list = entsOk (list.drop k)) (fun (k : Nat) => list.length - k) 0 ⟨by omega, by rw [List.drop_zero]⟩ (Sub.o [] [true, false, false, false, false, true, true, true]) ?_
  rintro k ⟨hk, hR⟩
  refine AW.r ?_
  refine At.a 1 ?_
  refine At.done rfl ?_
  refine AW.seq ?_
  refine AW.cD ((k : Int) < (list.length : Int)) (fun h1 => ?_) (fun h1 => ?_)
  · skip
    refine AW.skip ?_
    refine AW.seq ?_
    refine AW.block ?_
    refine AW.r ?_
    refine At.iSl 24 9 (.tmp 5) (.tmp 7) false 6 (list.map encEnt) .i64 (k : Int) 45 (by omega) (by simp only [List.length_map, List.length_append, List.length_take, List.length_drop, List.length_replicate, List.length_set, List.length_cons, List.length_nil]; omega) ?_
    refine Exists.elim (show ∃ e, list[k]? = some e from ⟨_, List.getElem?_eq_getElem (by omega)⟩) fun e1 he1 => ?_
    refine At.lVp 45 10 (.tmp 9) false 6 (list.map encEnt) k 0 true 6 (encEnt e1) (.agg [.int .i64 e1.term, .int .i64 e1.cmd.kind, .int .i64 e1.cmd.release, .int .i64 e1.cmd.node, .int .i64 e1.cmd.size, .str e1.cmd.digest]) (mapGet he1) ?_
    refine At.a 2 ?_
    refine At.done rfl ?_
    refine AW.r ?_
    refine At.a 1 ?_
    refine At.c (impl_entryOk_spec  e1 ) Tryz.call174 true [] [] [] trivial ?_
    refine At.a 1 ?_
    refine At.done rfl ?_
    refine AW.cNB (entOk e1) (fun h2 => ?_) (fun h2 => ?_)
    · skip
      refine AW.r ?_
      refine At.a 1 ?_
      refine At.done rfl ?_
      refine AW.ret ?_
      refine ⟨_, Sub.refl _ _, ?_⟩
      refine KF.conv (fun w => .bool w) (fun w => []) (show (false) = (entsFit list) from by rw [dropCons he1] at hR; grind [entsFit, entsOk]) ?_
      exact KF.m [] [.bool false]
    · skip
      have h2n := entOk_nums h2
      refine AW.skip ?_
      refine AW.region (At.start ?_)
      refine At.a 1 ?_
      refine At.sI 14 ((k : Int) + 1) (by omega) ?_
      refine At.a 1 ?_
      refine At.done rfl ?_
      exact ⟨k + 1, ⟨by omega, by rw [hR, dropCons he1, entsOk]; simp only [*, Bool.true_and]⟩, (by omega), Sub.o [] [true, false, false, false, false, true, true, true]⟩
  · skip
    refine AW.exit ?_
    refine AW.r ?_
    refine At.a 2 ?_
    refine At.sL 16 encEnt list ?_
    refine At.a 2 ?_
    refine At.done rfl ?_
    refine AW.ret ?_
    refine ⟨_, Sub.refl _ _, ?_⟩
    refine KF.conv (fun w => .bool w) (fun w => []) (show (decide ((list.length : Int) ≤ 6)) = (entsFit list) from by rw [List.drop_of_length_le (by omega)] at hR; grind [entsFit, entsOk]) ?_
    exact KF.m [] [.bool (decide ((list.length : Int) ≤ 6))]
end Go.Proofs.YtlmadhahghiedaaGreat
