/- The contracts of the functions that FnExactOnYes reaches (each: what it answers, said over values), printed by a program of this session (wip/sy/g/gen.py). -/
import Derived.Test.YtlmadhahghiedaaGreatFFnExactOnYes3
set_option linter.unusedVariables false
set_option linter.unusedSimpArgs false
namespace Go.Proofs.YtlmadhahghiedaaGreat
open Go Go.Sy Go.Proofs
set_option maxRecDepth 100000 in
set_option maxHeartbeats 4000000 in
theorem impl_stepper_none_spec  (s : Stepper) (hz : SmallR s.was) : FnSpec Tryz.prog 88 [.ptr 0 0 0] [.box 102 [.int .i64 s.r.id, .int .i64 s.r.of_, .int .i64 s.r.role, .int .i64 s.r.commit, .int .i64 s.r.hard.term, .int .i64 s.r.hard.vote, .ref 1, .ref 2, .ref 3, .ref 4, .int .i64 s.was.id, .int .i64 s.was.of_, .int .i64 s.was.role, .int .i64 s.was.commit, .int .i64 s.was.hard.term, .int .i64 s.was.hard.vote, .sl false 6 (s.was.hard.log.map encEnt), .sl false 1 (s.was.yes.map encI), .sl false 1 (s.was.next.map encI), .sl false 1 (s.was.match_.map encI), .ref 5, .ref 6], .arr 45 6 (s.r.hard.log.map encEnt), .arr 3 1 (s.r.yes.map encI), .arr 3 1 (s.r.next.map encI), .arr 3 1 (s.r.match_.map encI), .arr 47 10 (s.recs.map encRec), .arr 51 17 (s.outs.map encOut)] (.tup [.agg [.int .i64 ((same s.was).id), .int .i64 ((same s.was).of_), .int .i64 ((same s.was).role), .int .i64 ((same s.was).commit), .int .i64 ((same s.was).hard.term), .int .i64 ((same s.was).hard.vote), .ref 7, .ref 8, .ref 9, .ref 10], .ref 11, .ref 12]) [.box 102 [.int .i64 s.r.id, .int .i64 s.r.of_, .int .i64 s.r.role, .int .i64 s.r.commit, .int .i64 s.r.hard.term, .int .i64 s.r.hard.vote, .ref 1, .ref 2, .ref 3, .ref 4, .int .i64 s.was.id, .int .i64 s.was.of_, .int .i64 s.was.role, .int .i64 s.was.commit, .int .i64 s.was.hard.term, .int .i64 s.was.hard.vote, .sl false 6 (s.was.hard.log.map encEnt), .sl false 1 (s.was.yes.map encI), .sl false 1 (s.was.next.map encI), .sl false 1 (s.was.match_.map encI), .ref 5, .ref 6], .arr 45 6 (s.r.hard.log.map encEnt), .arr 3 1 (s.r.yes.map encI), .arr 3 1 (s.r.next.map encI), .arr 3 1 (s.r.match_.map encI), .arr 47 10 (s.recs.map encRec), .arr 51 17 (s.outs.map encOut), .arr 45 6 (((same s.was).hard.log).map encEnt), .arr 3 1 (((same s.was).yes).map encI), .arr 3 1 (((same s.was).next).map encI), .arr 3 1 (((same s.was).match_).map encI), .arr 47 10 [], .arr 51 17 []] := by
  obtain ⟨z1, z2, z3, z4⟩ := id hz
  refine FnSpec.of 17 Tryz.func88 rfl Tryz.ntmps88 (by simp) (AW.weakK ?_)
  refine AW.r ?_
  refine At.a 3 ?_
  refine At.done rfl ?_
  refine AW.seq ?_
  refine AW.seq ?_
  refine AW.weak (Sub.nils [⟨true, 102, some 6, 5001, 45, 6⟩, ⟨true, 102, some 7, 5002, 3, 1⟩, ⟨true, 102, some 8, 5003, 3, 1⟩, ⟨true, 102, some 9, 5004, 3, 1⟩] (by kernel_rfl)) ?_
  refine AW.region (At.start ?_)
  refine At.a 4 ?_
  refine At.c (impl_RaftOk_spec  s.was hz) Tryz.call19 true [] [] [] trivial ?_
  refine At.a 1 ?_
  refine At.done rfl ?_
  refine AW.cNB (raftOk s.was) (fun h1 => ?_) (fun h1 => ?_)
  · skip
    refine AW.r ?_
    refine At.a 4 ?_
    refine At.done rfl ?_
    refine AW.ret ?_
    refine ⟨_, Sub.nils [⟨true, 102, some 6, 5005, 45, 6⟩, ⟨true, 102, some 7, 5006, 3, 1⟩, ⟨true, 102, some 8, 5007, 3, 1⟩, ⟨true, 102, some 9, 5008, 3, 1⟩, ⟨false, 3, none, 5009, 47, 10⟩, ⟨false, 4, none, 5010, 51, 17⟩] (by kernel_rfl), ?_⟩
    refine KF.conv (fun w => .tup [.agg [.int .i64 w.id, .int .i64 w.of_, .int .i64 w.role, .int .i64 w.commit, .int .i64 w.hard.term, .int .i64 w.hard.vote, .ref 7, .ref 8, .ref 9, .ref 10], .ref 11, .ref 12]) (fun w => [.box 102 [.int .i64 s.r.id, .int .i64 s.r.of_, .int .i64 s.r.role, .int .i64 s.r.commit, .int .i64 s.r.hard.term, .int .i64 s.r.hard.vote, .ref 1, .ref 2, .ref 3, .ref 4, .int .i64 s.was.id, .int .i64 s.was.of_, .int .i64 s.was.role, .int .i64 s.was.commit, .int .i64 s.was.hard.term, .int .i64 s.was.hard.vote, .sl false 6 (s.was.hard.log.map encEnt), .sl false 1 (s.was.yes.map encI), .sl false 1 (s.was.next.map encI), .sl false 1 (s.was.match_.map encI), .ref 5, .ref 6], .arr 45 6 (s.r.hard.log.map encEnt), .arr 3 1 (s.r.yes.map encI), .arr 3 1 (s.r.next.map encI), .arr 3 1 (s.r.match_.map encI), .arr 47 10 (s.recs.map encRec), .arr 51 17 (s.outs.map encOut), .arr 45 6 (w.hard.log.map encEnt), .arr 3 1 (w.yes.map encI), .arr 3 1 (w.next.map encI), .arr 3 1 (w.match_.map encI), .arr 47 10 [], .arr 51 17 []]) (show ((⟨0, 0, 0, 0, ⟨0, 0, []⟩, [], [], []⟩ : Raft)) = (same s.was) from by simp only [same, h1, if_true] <;> rfl) ?_
    exact KF.m [(0, 0), (1, 1), (2, 2), (3, 3), (4, 4), (5, 5), (6, 6), (5005, 7), (5006, 8), (5007, 9), (5008, 10), (5009, 11), (5010, 12)] [.agg [.int .i64 0, .int .i64 0, .int .i64 0, .int .i64 0, .int .i64 0, .int .i64 0, .ref 5005, .ref 5006, .ref 5007, .ref 5008], .ref 5009, .ref 5010]
  · skip
    have h1n := raftOk1_nums (raftOk_1 h1)
    refine AW.skip ?_
    refine AW.r ?_
    refine At.a 4 ?_
    refine At.c (impl_copyRaft_spec  s.was hz) Tryz.call157 true [] [(1320, 0), (1321, 1), (1322, 2), (1323, 3)] [] trivial ?_
    refine At.a 3 ?_
    refine At.done rfl ?_
    refine AW.ret ?_
    refine ⟨_, Sub.nils [⟨false, 3, none, 5011, 47, 10⟩, ⟨false, 4, none, 5012, 51, 17⟩] (by kernel_rfl), ?_⟩
    refine KF.conv (fun w => .tup [.agg [.int .i64 w.id, .int .i64 w.of_, .int .i64 w.role, .int .i64 w.commit, .int .i64 w.hard.term, .int .i64 w.hard.vote, .ref 7, .ref 8, .ref 9, .ref 10], .ref 11, .ref 12]) (fun w => [.box 102 [.int .i64 s.r.id, .int .i64 s.r.of_, .int .i64 s.r.role, .int .i64 s.r.commit, .int .i64 s.r.hard.term, .int .i64 s.r.hard.vote, .ref 1, .ref 2, .ref 3, .ref 4, .int .i64 s.was.id, .int .i64 s.was.of_, .int .i64 s.was.role, .int .i64 s.was.commit, .int .i64 s.was.hard.term, .int .i64 s.was.hard.vote, .sl false 6 (s.was.hard.log.map encEnt), .sl false 1 (s.was.yes.map encI), .sl false 1 (s.was.next.map encI), .sl false 1 (s.was.match_.map encI), .ref 5, .ref 6], .arr 45 6 (s.r.hard.log.map encEnt), .arr 3 1 (s.r.yes.map encI), .arr 3 1 (s.r.next.map encI), .arr 3 1 (s.r.match_.map encI), .arr 47 10 (s.recs.map encRec), .arr 51 17 (s.outs.map encOut), .arr 45 6 (w.hard.log.map encEnt), .arr 3 1 (w.yes.map encI), .arr 3 1 (w.next.map encI), .arr 3 1 (w.match_.map encI), .arr 47 10 [], .arr 51 17 []]) (show (s.was) = (same s.was) from by simp only [same, h1, if_true] <;> rfl) ?_
    exact KF.m [(0, 0), (1, 1), (2, 2), (3, 3), (4, 4), (5, 5), (6, 6), (1320, 7), (1321, 8), (1322, 9), (1323, 10), (5011, 11), (5012, 12)] [.agg [.int .i64 s.was.id, .int .i64 s.was.of_, .int .i64 s.was.role, .int .i64 s.was.commit, .int .i64 s.was.hard.term, .int .i64 s.was.hard.vote, .ref 1320, .ref 1321, .ref 1322, .ref 1323], .ref 5011, .ref 5012]
set_option maxRecDepth 100000 in
set_option maxHeartbeats 4000000 in
theorem impl_stepper_none_T_spec  (s : Stepper) (hz : SmallR s.was) (hok : raftOk s.was = true) : FnSpec Tryz.prog 88 [.ptr 0 0 0] [.box 102 [.int .i64 s.r.id, .int .i64 s.r.of_, .int .i64 s.r.role, .int .i64 s.r.commit, .int .i64 s.r.hard.term, .int .i64 s.r.hard.vote, .ref 1, .ref 2, .ref 3, .ref 4, .int .i64 s.was.id, .int .i64 s.was.of_, .int .i64 s.was.role, .int .i64 s.was.commit, .int .i64 s.was.hard.term, .int .i64 s.was.hard.vote, .sl false 6 (s.was.hard.log.map encEnt), .sl false 1 (s.was.yes.map encI), .sl false 1 (s.was.next.map encI), .sl false 1 (s.was.match_.map encI), .ref 5, .ref 6], .arr 45 6 (s.r.hard.log.map encEnt), .arr 3 1 (s.r.yes.map encI), .arr 3 1 (s.r.next.map encI), .arr 3 1 (s.r.match_.map encI), .arr 47 10 (s.recs.map encRec), .arr 51 17 (s.outs.map encOut)] (.tup [.agg [.int .i64 s.was.id, .int .i64 s.was.of_, .int .i64 s.was.role, .int .i64 s.was.commit, .int .i64 s.was.hard.term, .int .i64 s.was.hard.vote, .ref 7, .ref 8, .ref 9, .ref 10], .ref 11, .ref 12]) [.box 102 [.int .i64 s.r.id, .int .i64 s.r.of_, .int .i64 s.r.role, .int .i64 s.r.commit, .int .i64 s.r.hard.term, .int .i64 s.r.hard.vote, .ref 1, .ref 2, .ref 3, .ref 4, .int .i64 s.was.id, .int .i64 s.was.of_, .int .i64 s.was.role, .int .i64 s.was.commit, .int .i64 s.was.hard.term, .int .i64 s.was.hard.vote, .sl false 6 (s.was.hard.log.map encEnt), .sl false 1 (s.was.yes.map encI), .sl false 1 (s.was.next.map encI), .sl false 1 (s.was.match_.map encI), .ref 5, .ref 6], .arr 45 6 (s.r.hard.log.map encEnt), .arr 3 1 (s.r.yes.map encI), .arr 3 1 (s.r.next.map encI), .arr 3 1 (s.r.match_.map encI), .arr 47 10 (s.recs.map encRec), .arr 51 17 (s.outs.map encOut), .arr 45 6 (s.was.hard.log.map encEnt), .arr 3 1 (s.was.yes.map encI), .arr 3 1 (s.was.next.map encI), .arr 3 1 (s.was.match_.map encI), .arr 47 10 [], .arr 51 17 []] := by have := impl_stepper_none_spec s hz; rw [show same s.was = s.was from if_pos hok] at this; exact this
set_option maxRecDepth 100000 in
set_option maxHeartbeats 4000000 in
theorem impl_stepper_none_F_spec  (s : Stepper) (hz : SmallR s.was) (hok : ¬ raftOk s.was = true) : FnSpec Tryz.prog 88 [.ptr 0 0 0] [.box 102 [.int .i64 s.r.id, .int .i64 s.r.of_, .int .i64 s.r.role, .int .i64 s.r.commit, .int .i64 s.r.hard.term, .int .i64 s.r.hard.vote, .ref 1, .ref 2, .ref 3, .ref 4, .int .i64 s.was.id, .int .i64 s.was.of_, .int .i64 s.was.role, .int .i64 s.was.commit, .int .i64 s.was.hard.term, .int .i64 s.was.hard.vote, .sl false 6 (s.was.hard.log.map encEnt), .sl false 1 (s.was.yes.map encI), .sl false 1 (s.was.next.map encI), .sl false 1 (s.was.match_.map encI), .ref 5, .ref 6], .arr 45 6 (s.r.hard.log.map encEnt), .arr 3 1 (s.r.yes.map encI), .arr 3 1 (s.r.next.map encI), .arr 3 1 (s.r.match_.map encI), .arr 47 10 (s.recs.map encRec), .arr 51 17 (s.outs.map encOut)] (.tup [.agg [.int .i64 0, .int .i64 0, .int .i64 0, .int .i64 0, .int .i64 0, .int .i64 0, .ref 7, .ref 8, .ref 9, .ref 10], .ref 11, .ref 12]) [.box 102 [.int .i64 s.r.id, .int .i64 s.r.of_, .int .i64 s.r.role, .int .i64 s.r.commit, .int .i64 s.r.hard.term, .int .i64 s.r.hard.vote, .ref 1, .ref 2, .ref 3, .ref 4, .int .i64 s.was.id, .int .i64 s.was.of_, .int .i64 s.was.role, .int .i64 s.was.commit, .int .i64 s.was.hard.term, .int .i64 s.was.hard.vote, .sl false 6 (s.was.hard.log.map encEnt), .sl false 1 (s.was.yes.map encI), .sl false 1 (s.was.next.map encI), .sl false 1 (s.was.match_.map encI), .ref 5, .ref 6], .arr 45 6 (s.r.hard.log.map encEnt), .arr 3 1 (s.r.yes.map encI), .arr 3 1 (s.r.next.map encI), .arr 3 1 (s.r.match_.map encI), .arr 47 10 (s.recs.map encRec), .arr 51 17 (s.outs.map encOut), .arr 45 6 [], .arr 3 1 [], .arr 3 1 [], .arr 3 1 [], .arr 47 10 [], .arr 51 17 []] := by have := impl_stepper_none_spec s hz; rw [show same s.was = zRaft from if_neg hok] at this; exact this
set_option maxRecDepth 100000 in
set_option maxHeartbeats 4000000 in
theorem impl_stepper_follow_spec  (s : Stepper) : FnSpec Tryz.prog 92 [.ptr 0 0 0] [.box 102 [.int .i64 s.r.id, .int .i64 s.r.of_, .int .i64 s.r.role, .int .i64 s.r.commit, .int .i64 s.r.hard.term, .int .i64 s.r.hard.vote, .ref 1, .ref 2, .ref 3, .ref 4, .int .i64 s.was.id, .int .i64 s.was.of_, .int .i64 s.was.role, .int .i64 s.was.commit, .int .i64 s.was.hard.term, .int .i64 s.was.hard.vote, .sl false 6 (s.was.hard.log.map encEnt), .sl false 1 (s.was.yes.map encI), .sl false 1 (s.was.next.map encI), .sl false 1 (s.was.match_.map encI), .ref 5, .ref 6], .arr 45 6 (s.r.hard.log.map encEnt), .arr 3 1 (s.r.yes.map encI), .arr 3 1 (s.r.next.map encI), .arr 3 1 (s.r.match_.map encI), .arr 47 10 (s.recs.map encRec), .arr 51 17 (s.outs.map encOut)] (.tup []) [.box 102 [.int .i64 s.r.id, .int .i64 s.r.of_, .int .i64 1, .int .i64 s.r.commit, .int .i64 s.r.hard.term, .int .i64 s.r.hard.vote, .ref 1, .ref 7, .ref 8, .ref 9, .int .i64 s.was.id, .int .i64 s.was.of_, .int .i64 s.was.role, .int .i64 s.was.commit, .int .i64 s.was.hard.term, .int .i64 s.was.hard.vote, .sl false 6 (s.was.hard.log.map encEnt), .sl false 1 (s.was.yes.map encI), .sl false 1 (s.was.next.map encI), .sl false 1 (s.was.match_.map encI), .ref 5, .ref 6], .arr 45 6 (s.r.hard.log.map encEnt), .dead, .dead, .dead, .arr 47 10 (s.recs.map encRec), .arr 51 17 (s.outs.map encOut), .arr 3 1 [], .arr 3 1 [], .arr 3 1 []] := by
  refine FnSpec.of 18 Tryz.func92 rfl Tryz.ntmps92 (by simp) (AW.weakK ?_)
  refine AW.region (At.start ?_)
  refine At.a 20 ?_
  refine At.done rfl ?_
  refine ⟨_, (Sub.trans (Sub.trans (Sub.trans (Sub.nils [⟨true, 0, some 7, 5001, 3, 1⟩, ⟨true, 0, some 8, 5002, 3, 1⟩, ⟨true, 0, some 9, 5003, 3, 1⟩] (by kernel_rfl)) (Sub.mv 2 8002 (by kernel_rfl) (by decide))) (Sub.mv 3 8003 (by kernel_rfl) (by decide))) (Sub.mv 4 8004 (by kernel_rfl) (by decide))), ?_⟩
  refine KF.conv (fun w => .tup []) (fun w => [.box 102 [.int .i64 w.r.id, .int .i64 w.r.of_, .int .i64 w.r.role, .int .i64 w.r.commit, .int .i64 w.r.hard.term, .int .i64 w.r.hard.vote, .ref 1, .ref 7, .ref 8, .ref 9, .int .i64 w.was.id, .int .i64 w.was.of_, .int .i64 w.was.role, .int .i64 w.was.commit, .int .i64 w.was.hard.term, .int .i64 w.was.hard.vote, .sl false 6 (w.was.hard.log.map encEnt), .sl false 1 (w.was.yes.map encI), .sl false 1 (w.was.next.map encI), .sl false 1 (w.was.match_.map encI), .ref 5, .ref 6], .arr 45 6 (w.r.hard.log.map encEnt), .dead, .dead, .dead, .arr 47 10 (w.recs.map encRec), .arr 51 17 (w.outs.map encOut), .arr 3 1 (w.r.yes.map encI), .arr 3 1 (w.r.next.map encI), .arr 3 1 (w.r.match_.map encI)]) (show ((⟨⟨s.r.id, s.r.of_, 1, s.r.commit, ⟨s.r.hard.term, s.r.hard.vote, s.r.hard.log⟩, [], [], []⟩, s.was, s.recs, s.outs⟩ : Stepper)) = (({ s with r := ({ s.r with role := 1, yes := [], next := [], match_ := [] } : Raft) } : Stepper)) from by simp_all) ?_
  exact KF.m [(0, 0), (1, 1), (2, 2), (3, 3), (4, 4), (5, 5), (6, 6), (5001, 7), (5002, 8), (5003, 9)] []
set_option maxRecDepth 100000 in
set_option maxHeartbeats 4000000 in
theorem impl_stepper_followTerm_T_spec  (s : Stepper) (t_ : Int) (ht : t_ ≤ s.r.hard.term) : FnSpec Tryz.prog 91 [.ptr 0 0 0, .int .i64 t_] [.box 102 [.int .i64 s.r.id, .int .i64 s.r.of_, .int .i64 s.r.role, .int .i64 s.r.commit, .int .i64 s.r.hard.term, .int .i64 s.r.hard.vote, .ref 1, .ref 2, .ref 3, .ref 4, .int .i64 s.was.id, .int .i64 s.was.of_, .int .i64 s.was.role, .int .i64 s.was.commit, .int .i64 s.was.hard.term, .int .i64 s.was.hard.vote, .sl false 6 (s.was.hard.log.map encEnt), .sl false 1 (s.was.yes.map encI), .sl false 1 (s.was.next.map encI), .sl false 1 (s.was.match_.map encI), .ref 5, .ref 6], .arr 45 6 (s.r.hard.log.map encEnt), .arr 3 1 (s.r.yes.map encI), .arr 3 1 (s.r.next.map encI), .arr 3 1 (s.r.match_.map encI), .arr 47 10 (s.recs.map encRec), .arr 51 17 (s.outs.map encOut)] (.bool false) [.box 102 [.int .i64 s.r.id, .int .i64 s.r.of_, .int .i64 s.r.role, .int .i64 s.r.commit, .int .i64 s.r.hard.term, .int .i64 s.r.hard.vote, .ref 1, .ref 2, .ref 3, .ref 4, .int .i64 s.was.id, .int .i64 s.was.of_, .int .i64 s.was.role, .int .i64 s.was.commit, .int .i64 s.was.hard.term, .int .i64 s.was.hard.vote, .sl false 6 (s.was.hard.log.map encEnt), .sl false 1 (s.was.yes.map encI), .sl false 1 (s.was.next.map encI), .sl false 1 (s.was.match_.map encI), .ref 5, .ref 6], .arr 45 6 (s.r.hard.log.map encEnt), .arr 3 1 (s.r.yes.map encI), .arr 3 1 (s.r.next.map encI), .arr 3 1 (s.r.match_.map encI), .arr 47 10 (s.recs.map encRec), .arr 51 17 (s.outs.map encOut)] := by
  refine FnSpec.of 26 Tryz.func91 rfl Tryz.ntmps91 (by simp) (AW.weakK ?_)
  refine AW.r ?_
  refine At.a 1 ?_
  refine At.done rfl ?_
  refine AW.seq ?_
  refine AW.r ?_
  refine At.a 8 ?_
  refine At.done rfl ?_
  refine AW.condT (decide (t_ ≤ s.r.hard.term)) (by kernel_rfl) (decide_eq_true ht) ?_
  refine AW.r ?_
  refine At.a 1 ?_
  refine At.done rfl ?_
  refine AW.ret ?_
  refine ⟨_, Sub.refl _ _, ?_⟩
  exact KF.m [(0, 0), (1, 1), (2, 2), (3, 3), (4, 4), (5, 5), (6, 6)] [.bool false]
set_option maxRecDepth 100000 in
set_option maxHeartbeats 4000000 in
theorem impl_stepper_followTerm_F_spec  (s : Stepper) (t_ : Int) (ht : ¬ t_ ≤ s.r.hard.term) : FnSpec Tryz.prog 91 [.ptr 0 0 0, .int .i64 t_] [.box 102 [.int .i64 s.r.id, .int .i64 s.r.of_, .int .i64 s.r.role, .int .i64 s.r.commit, .int .i64 s.r.hard.term, .int .i64 s.r.hard.vote, .ref 1, .ref 2, .ref 3, .ref 4, .int .i64 s.was.id, .int .i64 s.was.of_, .int .i64 s.was.role, .int .i64 s.was.commit, .int .i64 s.was.hard.term, .int .i64 s.was.hard.vote, .sl false 6 (s.was.hard.log.map encEnt), .sl false 1 (s.was.yes.map encI), .sl false 1 (s.was.next.map encI), .sl false 1 (s.was.match_.map encI), .ref 5, .ref 6], .arr 45 6 (s.r.hard.log.map encEnt), .arr 3 1 (s.r.yes.map encI), .arr 3 1 (s.r.next.map encI), .arr 3 1 (s.r.match_.map encI), .arr 47 10 (s.recs.map encRec), .arr 51 17 (s.outs.map encOut)] (.bool true) [.box 102 [.int .i64 s.r.id, .int .i64 s.r.of_, .int .i64 1, .int .i64 s.r.commit, .int .i64 t_, .int .i64 0, .ref 1, .ref 7, .ref 8, .ref 9, .int .i64 s.was.id, .int .i64 s.was.of_, .int .i64 s.was.role, .int .i64 s.was.commit, .int .i64 s.was.hard.term, .int .i64 s.was.hard.vote, .sl false 6 (s.was.hard.log.map encEnt), .sl false 1 (s.was.yes.map encI), .sl false 1 (s.was.next.map encI), .sl false 1 (s.was.match_.map encI), .ref 5, .ref 6], .arr 45 6 (s.r.hard.log.map encEnt), .dead, .dead, .dead, .arr 47 10 (s.recs.map encRec), .arr 51 17 (s.outs.map encOut), .arr 3 1 [], .arr 3 1 [], .arr 3 1 []] := by
  refine FnSpec.of 26 Tryz.func91 rfl Tryz.ntmps91 (by simp) (AW.weakK ?_)
  refine AW.r ?_
  refine At.a 1 ?_
  refine At.done rfl ?_
  refine AW.seq ?_
  refine AW.r ?_
  refine At.a 8 ?_
  refine At.done rfl ?_
  refine AW.condF (decide (t_ ≤ s.r.hard.term)) (by kernel_rfl) (decide_eq_false ht) ?_
  refine AW.skip ?_
  refine AW.r ?_
  refine At.a 1 ?_
  refine At.c (impl_stepper_follow_spec  s ) Tryz.call92 true [(0, 0), (1, 1), (2, 2), (3, 3), (4, 4), (5, 5), (6, 6)] [(1280, 7), (1281, 8), (1282, 9)] [] trivial ?_
  refine At.done rfl ?_
  refine AW.r ?_
  refine At.a 13 ?_
  refine At.done rfl ?_
  refine AW.r ?_
  refine At.a 1 ?_
  refine At.done rfl ?_
  refine AW.ret ?_
  refine ⟨_, Sub.refl _ _, ?_⟩
  refine KF.conv (fun w => .bool true) (fun w => [.box 102 [.int .i64 w.r.id, .int .i64 w.r.of_, .int .i64 w.r.role, .int .i64 w.r.commit, .int .i64 w.r.hard.term, .int .i64 w.r.hard.vote, .ref 1, .ref 7, .ref 8, .ref 9, .int .i64 w.was.id, .int .i64 w.was.of_, .int .i64 w.was.role, .int .i64 w.was.commit, .int .i64 w.was.hard.term, .int .i64 w.was.hard.vote, .sl false 6 (w.was.hard.log.map encEnt), .sl false 1 (w.was.yes.map encI), .sl false 1 (w.was.next.map encI), .sl false 1 (w.was.match_.map encI), .ref 5, .ref 6], .arr 45 6 (w.r.hard.log.map encEnt), .dead, .dead, .dead, .arr 47 10 (w.recs.map encRec), .arr 51 17 (w.outs.map encOut), .arr 3 1 (w.r.yes.map encI), .arr 3 1 (w.r.next.map encI), .arr 3 1 (w.r.match_.map encI)]) (show ((⟨⟨s.r.id, s.r.of_, 1, s.r.commit, ⟨t_, 0, s.r.hard.log⟩, [], [], []⟩, s.was, s.recs, s.outs⟩ : Stepper)) = (({ s with r := ({ s.r with role := 1, yes := [], next := [], match_ := [], hard := { s.r.hard with term := t_, vote := 0 } } : Raft) } : Stepper)) from by simp_all) ?_
  exact KF.m [(0, 0), (1, 1), (2, 2), (3, 3), (4, 4), (5, 5), (6, 6), (1280, 7), (1281, 8), (1282, 9)] [.bool true]
set_option maxRecDepth 100000 in
set_option maxHeartbeats 4000000 in
theorem impl_stepper_end_spec  (s : Stepper) (hr : s.recs.length ≤ 1048576) : FnSpec Tryz.prog 90 [.ptr 0 0 0] [.box 102 [.int .i64 s.r.id, .int .i64 s.r.of_, .int .i64 s.r.role, .int .i64 s.r.commit, .int .i64 s.r.hard.term, .int .i64 s.r.hard.vote, .ref 1, .ref 2, .ref 3, .ref 4, .int .i64 s.was.id, .int .i64 s.was.of_, .int .i64 s.was.role, .int .i64 s.was.commit, .int .i64 s.was.hard.term, .int .i64 s.was.hard.vote, .sl false 6 (s.was.hard.log.map encEnt), .sl false 1 (s.was.yes.map encI), .sl false 1 (s.was.next.map encI), .sl false 1 (s.was.match_.map encI), .ref 5, .ref 6], .arr 45 6 (s.r.hard.log.map encEnt), .arr 3 1 (s.r.yes.map encI), .arr 3 1 (s.r.next.map encI), .arr 3 1 (s.r.match_.map encI), .arr 47 10 (s.recs.map encRec), .arr 51 17 (s.outs.map encOut)] (.tup [.agg [.int .i64 s.r.id, .int .i64 s.r.of_, .int .i64 s.r.role, .int .i64 s.r.commit, .int .i64 s.r.hard.term, .int .i64 s.r.hard.vote, .ref 1, .ref 2, .ref 3, .ref 4], .ref 7, .ref 6]) [.box 102 [.int .i64 s.r.id, .int .i64 s.r.of_, .int .i64 s.r.role, .int .i64 s.r.commit, .int .i64 s.r.hard.term, .int .i64 s.r.hard.vote, .ref 1, .ref 2, .ref 3, .ref 4, .int .i64 s.was.id, .int .i64 s.was.of_, .int .i64 s.was.role, .int .i64 s.was.commit, .int .i64 s.was.hard.term, .int .i64 s.was.hard.vote, .sl false 6 (s.was.hard.log.map encEnt), .sl false 1 (s.was.yes.map encI), .sl false 1 (s.was.next.map encI), .sl false 1 (s.was.match_.map encI), .un, .ref 6], .arr 45 6 (s.r.hard.log.map encEnt), .arr 3 1 (s.r.yes.map encI), .arr 3 1 (s.r.next.map encI), .arr 3 1 (s.r.match_.map encI), .dead, .arr 51 17 (s.outs.map encOut), .arr 47 10 ((endRecs s).map encRec)] := by
  refine FnSpec.of 60 Tryz.func90 rfl Tryz.ntmps90 (by simp) (AW.weakK ?_)
  refine AW.r ?_
  refine At.a 3 ?_
  refine At.done rfl ?_
  refine AW.seq ?_
  refine AW.weak (Sub.nils [⟨true, 102, some 6, 5001, 45, 6⟩, ⟨true, 102, some 7, 5002, 3, 1⟩, ⟨true, 102, some 8, 5003, 3, 1⟩, ⟨true, 102, some 9, 5004, 3, 1⟩] (by kernel_rfl)) ?_
  refine AW.regionD Tryz_mix (At.start ?_)
  refine At.a 14 ?_
  refine At.done rfl ⟨by kernel_rfl, ?_⟩
  refine AW.seq ?_
  refine AW.r ?_
  refine At.a 6 ?_
  by_cases h1 : s.r.hard.term = s.was.hard.term
  · refine At.sB 22 (s.r.hard.term == s.was.hard.term) true (sayET h1) ?_
    refine At.a 6 ?_
    refine At.done rfl ?_
    refine AW.cE s.r.hard.vote s.was.hard.vote (fun h2 => ?_) (fun h2 => ?_)
    · skip
      refine AW.seq ?_
      refine AW.regionD Tryz_mix (At.start ?_)
      refine At.a 15 ?_
      refine At.done rfl ⟨by kernel_rfl, ?_⟩
      refine AW.ret ?_
      refine ⟨_, (Sub.trans (Sub.trans (Sub.refl _ _) (Sub.mv 5 8005 (by kernel_rfl) (by decide))) (Sub.un1 0 20 102 [.int .i64 s.r.id, .int .i64 s.r.of_, .int .i64 s.r.role, .int .i64 s.r.commit, .int .i64 s.r.hard.term, .int .i64 s.r.hard.vote, .ref 1, .ref 2, .ref 3, .ref 4, .int .i64 s.was.id, .int .i64 s.was.of_, .int .i64 s.was.role, .int .i64 s.was.commit, .int .i64 s.was.hard.term, .int .i64 s.was.hard.vote, .sl false 6 (s.was.hard.log.map encEnt), .sl false 1 (s.was.yes.map encI), .sl false 1 (s.was.next.map encI), .sl false 1 (s.was.match_.map encI), .ref 8005, .ref 6] (by kernel_rfl))), ?_⟩
      refine KF.conv (fun w => .tup [.agg [.int .i64 s.r.id, .int .i64 s.r.of_, .int .i64 s.r.role, .int .i64 s.r.commit, .int .i64 s.r.hard.term, .int .i64 s.r.hard.vote, .ref 1, .ref 2, .ref 3, .ref 4], .ref 7, .ref 6]) (fun w => [.box 102 [.int .i64 s.r.id, .int .i64 s.r.of_, .int .i64 s.r.role, .int .i64 s.r.commit, .int .i64 s.r.hard.term, .int .i64 s.r.hard.vote, .ref 1, .ref 2, .ref 3, .ref 4, .int .i64 s.was.id, .int .i64 s.was.of_, .int .i64 s.was.role, .int .i64 s.was.commit, .int .i64 s.was.hard.term, .int .i64 s.was.hard.vote, .sl false 6 (s.was.hard.log.map encEnt), .sl false 1 (s.was.yes.map encI), .sl false 1 (s.was.next.map encI), .sl false 1 (s.was.match_.map encI), .un, .ref 6], .arr 45 6 (s.r.hard.log.map encEnt), .arr 3 1 (s.r.yes.map encI), .arr 3 1 (s.r.next.map encI), .arr 3 1 (s.r.match_.map encI), .dead, .arr 51 17 (s.outs.map encOut), .arr 47 10 (w.map encRec)]) (show (s.recs) = (endRecs s) from by simp [endRecs, voteRec, h1, h2]; try rfl) ?_
      exact KF.m [(0, 0), (1, 1), (2, 2), (3, 3), (4, 4), (5, 5), (6, 6), (8005, 7)] [.agg [.int .i64 s.r.id, .int .i64 s.r.of_, .int .i64 s.r.role, .int .i64 s.r.commit, .int .i64 s.r.hard.term, .int .i64 s.r.hard.vote, .ref 1, .ref 2, .ref 3, .ref 4], .ref 8005, .ref 6]
    · skip
      refine AW.skip ?_
      refine AW.seq ?_
      refine AW.regionD Tryz_mix (At.start ?_)
      refine At.a 9 ?_
      refine At.litK (t := 37) (d := 50) (e := 47) (es := 10) (bytes := 88) (n := 1) (parts := #[(0, .tmp 49)]) (45, 6) 150 [] [.int .i64 1, .int .i64 s.r.hard.term, .int .i64 s.r.hard.vote, .int .i64 0, .int .i64 0, .int .i64 0, .int .i64 0, .int .i64 0, .int .i64 0, .str (⟨#[]⟩ : ByteArray)] [.int .i64 1, .int .i64 s.r.hard.term, .int .i64 s.r.hard.vote, .int .i64 0, .int .i64 0, .int .i64 0, .int .i64 0, .int .i64 0, .int .i64 0, .str (⟨#[]⟩ : ByteArray)] [.int .i64 0, .int .i64 0, .int .i64 0, .int .i64 0, .int .i64 0, .int .i64 0, .int .i64 0, .int .i64 0, .int .i64 0, .str (⟨#[]⟩ : ByteArray)] [.agg [.int .i64 1, .int .i64 s.r.hard.term, .int .i64 s.r.hard.vote, .int .i64 0, .int .i64 0, .int .i64 0, .int .i64 0, .int .i64 0, .int .i64 0, .str (⟨#[]⟩ : ByteArray)]] [] (by kernel_rfl) (by kernel_rfl) (by kernel_rfl) (by kernel_rfl) rfl (fun p hp => by cases hp) (by kernel_rfl) ?_
      refine At.a 4 ?_
      refine At.append (t := 37) (d := 55) (e := 47) (es := 10) (bytes := 88) (s := .tmp 50) (x := .tmp 54) (S := .ref 150) (T := .ref 5) (xs := (([(⟨1, s.r.hard.term, s.r.hard.vote, 0, ⟨0, ⟨0, 0, 0, 0, (⟨#[]⟩ : ByteArray)⟩⟩⟩ : Rec)]).map encRec)) (ys := (s.recs.map encRec)) 155 [150] [] ((([(⟨1, s.r.hard.term, s.r.hard.vote, 0, ⟨0, ⟨0, 0, 0, 0, (⟨#[]⟩ : ByteArray)⟩⟩⟩ : Rec)]) ++ s.recs).map encRec) (by kernel_rfl) (by kernel_rfl) (by kernel_rfl) (by kernel_rfl) ⟨by kernel_rfl, rfl⟩ ⟨by kernel_rfl, .inl ⟨rfl, (allP_encRec _)⟩⟩ (by kernel_rfl) (by kernel_rfl) (by simp) (by simp only [List.length_map, List.length_append, List.length_take, List.length_drop, List.length_replicate, List.length_set, List.length_cons, List.length_nil]; omega) (by simp only [List.length_map, List.length_append, List.length_take, List.length_drop, List.length_replicate, List.length_set, List.length_cons, List.length_nil]; omega) ?_
      refine At.a 7 ?_
      refine At.done rfl ⟨by kernel_rfl, ?_⟩
      refine AW.ret ?_
      refine ⟨_, (Sub.trans (Sub.trans (Sub.refl _ _) (Sub.mv 5 8005 (by kernel_rfl) (by decide))) (Sub.un1 0 20 102 [.int .i64 s.r.id, .int .i64 s.r.of_, .int .i64 s.r.role, .int .i64 s.r.commit, .int .i64 s.r.hard.term, .int .i64 s.r.hard.vote, .ref 1, .ref 2, .ref 3, .ref 4, .int .i64 s.was.id, .int .i64 s.was.of_, .int .i64 s.was.role, .int .i64 s.was.commit, .int .i64 s.was.hard.term, .int .i64 s.was.hard.vote, .sl false 6 (s.was.hard.log.map encEnt), .sl false 1 (s.was.yes.map encI), .sl false 1 (s.was.next.map encI), .sl false 1 (s.was.match_.map encI), .ref 8005, .ref 6] (by kernel_rfl))), ?_⟩
      refine KF.conv (fun w => .tup [.agg [.int .i64 s.r.id, .int .i64 s.r.of_, .int .i64 s.r.role, .int .i64 s.r.commit, .int .i64 s.r.hard.term, .int .i64 s.r.hard.vote, .ref 1, .ref 2, .ref 3, .ref 4], .ref 7, .ref 6]) (fun w => [.box 102 [.int .i64 s.r.id, .int .i64 s.r.of_, .int .i64 s.r.role, .int .i64 s.r.commit, .int .i64 s.r.hard.term, .int .i64 s.r.hard.vote, .ref 1, .ref 2, .ref 3, .ref 4, .int .i64 s.was.id, .int .i64 s.was.of_, .int .i64 s.was.role, .int .i64 s.was.commit, .int .i64 s.was.hard.term, .int .i64 s.was.hard.vote, .sl false 6 (s.was.hard.log.map encEnt), .sl false 1 (s.was.yes.map encI), .sl false 1 (s.was.next.map encI), .sl false 1 (s.was.match_.map encI), .un, .ref 6], .arr 45 6 (s.r.hard.log.map encEnt), .arr 3 1 (s.r.yes.map encI), .arr 3 1 (s.r.next.map encI), .arr 3 1 (s.r.match_.map encI), .dead, .arr 51 17 (s.outs.map encOut), .arr 47 10 (w.map encRec)]) (show (([(⟨1, s.r.hard.term, s.r.hard.vote, 0, ⟨0, ⟨0, 0, 0, 0, (⟨#[]⟩ : ByteArray)⟩⟩⟩ : Rec)]) ++ s.recs) = (endRecs s) from by simp [endRecs, voteRec, h1, h2]; try rfl) ?_
      exact KF.m [(0, 0), (1, 1), (2, 2), (3, 3), (4, 4), (5, 5), (6, 6), (155, 7)] [.agg [.int .i64 s.r.id, .int .i64 s.r.of_, .int .i64 s.r.role, .int .i64 s.r.commit, .int .i64 s.r.hard.term, .int .i64 s.r.hard.vote, .ref 1, .ref 2, .ref 3, .ref 4], .ref 155, .ref 6]
  · refine At.sB 22 (s.r.hard.term == s.was.hard.term) false (sayEF h1) ?_
    refine At.a 6 ?_
    refine At.done rfl ?_
    refine AW.cond false (by kernel_rfl) (fun h => by cases h) (fun _ => ?_)
    refine AW.skip ?_
    refine AW.seq ?_
    refine AW.regionD Tryz_mix (At.start ?_)
    refine At.a 9 ?_
    refine At.litK (t := 37) (d := 50) (e := 47) (es := 10) (bytes := 88) (n := 1) (parts := #[(0, .tmp 49)]) (45, 6) 150 [] [.int .i64 1, .int .i64 s.r.hard.term, .int .i64 s.r.hard.vote, .int .i64 0, .int .i64 0, .int .i64 0, .int .i64 0, .int .i64 0, .int .i64 0, .str (⟨#[]⟩ : ByteArray)] [.int .i64 1, .int .i64 s.r.hard.term, .int .i64 s.r.hard.vote, .int .i64 0, .int .i64 0, .int .i64 0, .int .i64 0, .int .i64 0, .int .i64 0, .str (⟨#[]⟩ : ByteArray)] [.int .i64 0, .int .i64 0, .int .i64 0, .int .i64 0, .int .i64 0, .int .i64 0, .int .i64 0, .int .i64 0, .int .i64 0, .str (⟨#[]⟩ : ByteArray)] [.agg [.int .i64 1, .int .i64 s.r.hard.term, .int .i64 s.r.hard.vote, .int .i64 0, .int .i64 0, .int .i64 0, .int .i64 0, .int .i64 0, .int .i64 0, .str (⟨#[]⟩ : ByteArray)]] [] (by kernel_rfl) (by kernel_rfl) (by kernel_rfl) (by kernel_rfl) rfl (fun p hp => by cases hp) (by kernel_rfl) ?_
    refine At.a 4 ?_
    refine At.append (t := 37) (d := 55) (e := 47) (es := 10) (bytes := 88) (s := .tmp 50) (x := .tmp 54) (S := .ref 150) (T := .ref 5) (xs := (([(⟨1, s.r.hard.term, s.r.hard.vote, 0, ⟨0, ⟨0, 0, 0, 0, (⟨#[]⟩ : ByteArray)⟩⟩⟩ : Rec)]).map encRec)) (ys := (s.recs.map encRec)) 155 [150] [] ((([(⟨1, s.r.hard.term, s.r.hard.vote, 0, ⟨0, ⟨0, 0, 0, 0, (⟨#[]⟩ : ByteArray)⟩⟩⟩ : Rec)]) ++ s.recs).map encRec) (by kernel_rfl) (by kernel_rfl) (by kernel_rfl) (by kernel_rfl) ⟨by kernel_rfl, rfl⟩ ⟨by kernel_rfl, .inl ⟨rfl, (allP_encRec _)⟩⟩ (by kernel_rfl) (by kernel_rfl) (by simp) (by simp only [List.length_map, List.length_append, List.length_take, List.length_drop, List.length_replicate, List.length_set, List.length_cons, List.length_nil]; omega) (by simp only [List.length_map, List.length_append, List.length_take, List.length_drop, List.length_replicate, List.length_set, List.length_cons, List.length_nil]; omega) ?_
    refine At.a 7 ?_
    refine At.done rfl ⟨by kernel_rfl, ?_⟩
    refine AW.ret ?_
    refine ⟨_, (Sub.trans (Sub.trans (Sub.refl _ _) (Sub.mv 5 8005 (by kernel_rfl) (by decide))) (Sub.un1 0 20 102 [.int .i64 s.r.id, .int .i64 s.r.of_, .int .i64 s.r.role, .int .i64 s.r.commit, .int .i64 s.r.hard.term, .int .i64 s.r.hard.vote, .ref 1, .ref 2, .ref 3, .ref 4, .int .i64 s.was.id, .int .i64 s.was.of_, .int .i64 s.was.role, .int .i64 s.was.commit, .int .i64 s.was.hard.term, .int .i64 s.was.hard.vote, .sl false 6 (s.was.hard.log.map encEnt), .sl false 1 (s.was.yes.map encI), .sl false 1 (s.was.next.map encI), .sl false 1 (s.was.match_.map encI), .ref 8005, .ref 6] (by kernel_rfl))), ?_⟩
    refine KF.conv (fun w => .tup [.agg [.int .i64 s.r.id, .int .i64 s.r.of_, .int .i64 s.r.role, .int .i64 s.r.commit, .int .i64 s.r.hard.term, .int .i64 s.r.hard.vote, .ref 1, .ref 2, .ref 3, .ref 4], .ref 7, .ref 6]) (fun w => [.box 102 [.int .i64 s.r.id, .int .i64 s.r.of_, .int .i64 s.r.role, .int .i64 s.r.commit, .int .i64 s.r.hard.term, .int .i64 s.r.hard.vote, .ref 1, .ref 2, .ref 3, .ref 4, .int .i64 s.was.id, .int .i64 s.was.of_, .int .i64 s.was.role, .int .i64 s.was.commit, .int .i64 s.was.hard.term, .int .i64 s.was.hard.vote, .sl false 6 (s.was.hard.log.map encEnt), .sl false 1 (s.was.yes.map encI), .sl false 1 (s.was.next.map encI), .sl false 1 (s.was.match_.map encI), .un, .ref 6], .arr 45 6 (s.r.hard.log.map encEnt), .arr 3 1 (s.r.yes.map encI), .arr 3 1 (s.r.next.map encI), .arr 3 1 (s.r.match_.map encI), .dead, .arr 51 17 (s.outs.map encOut), .arr 47 10 (w.map encRec)]) (show (([(⟨1, s.r.hard.term, s.r.hard.vote, 0, ⟨0, ⟨0, 0, 0, 0, (⟨#[]⟩ : ByteArray)⟩⟩⟩ : Rec)]) ++ s.recs) = (endRecs s) from by simp [endRecs, voteRec, h1]; try rfl) ?_
    exact KF.m [(0, 0), (1, 1), (2, 2), (3, 3), (4, 4), (5, 5), (6, 6), (155, 7)] [.agg [.int .i64 s.r.id, .int .i64 s.r.of_, .int .i64 s.r.role, .int .i64 s.r.commit, .int .i64 s.r.hard.term, .int .i64 s.r.hard.vote, .ref 1, .ref 2, .ref 3, .ref 4], .ref 155, .ref 6]
set_option maxRecDepth 100000 in
set_option maxHeartbeats 4000000 in
theorem bits_Len64_spec  (x : Int) (hx : 0 ≤ x ∧ x ≤ 255) : FnSpec Tryz.prog 190 [.int .u64 x] [] (.int .i64 (lenT x)) [] := by
  refine FnSpec.of 25 Tryz.func190 rfl Tryz.ntmps190 (by simp) (AW.weakK ?_)
  refine AW.r ?_
  refine At.a 1 ?_
  refine At.done rfl ?_
  refine AW.seq ?_
  refine AW.r ?_
  refine At.a 2 ?_
  refine At.done rfl ?_
  refine AW.condF (decide (x ≥ 4294967296)) (by kernel_rfl) (decide_eq_false (by omega)) ?_
  refine AW.skip ?_
  refine AW.seq ?_
  refine AW.r ?_
  refine At.a 2 ?_
  refine At.done rfl ?_
  refine AW.condF (decide (x ≥ 65536)) (by kernel_rfl) (decide_eq_false (by omega)) ?_
  refine AW.skip ?_
  refine AW.seq ?_
  refine AW.r ?_
  refine At.a 2 ?_
  refine At.done rfl ?_
  refine AW.condF (decide (x ≥ 256)) (by kernel_rfl) (decide_eq_false (by omega)) ?_
  refine AW.skip ?_
  refine AW.r ?_
  refine At.a 2 ?_
  refine At.conv (s := 182) (t := 5) (d := 21) (x := .tmp 20) (kd := .u64) (kd' := .u8) (a := x) (.int .u8 ((u8Of x).toNat : Int)) (by kernel_rfl) (by kernel_rfl) (by kernel_rfl) (by kernel_rfl) (sayByte _) ?_
  refine Exists.elim (show ∃ e, (⟨#[0, 1, 2, 2, 3, 3, 3, 3, 4, 4, 4, 4, 4, 4, 4, 4, 5, 5, 5, 5, 5, 5, 5, 5, 5, 5, 5, 5, 5, 5, 5, 5, 6, 6, 6, 6, 6, 6, 6, 6, 6, 6, 6, 6, 6, 6, 6, 6, 6, 6, 6, 6, 6, 6, 6, 6, 6, 6, 6, 6, 6, 6, 6, 6, 7, 7, 7, 7, 7, 7, 7, 7, 7, 7, 7, 7, 7, 7, 7, 7, 7, 7, 7, 7, 7, 7, 7, 7, 7, 7, 7, 7, 7, 7, 7, 7, 7, 7, 7, 7, 7, 7, 7, 7, 7, 7, 7, 7, 7, 7, 7, 7, 7, 7, 7, 7, 7, 7, 7, 7, 7, 7, 7, 7, 7, 7, 7, 7, 8, 8, 8, 8, 8, 8, 8, 8, 8, 8, 8, 8, 8, 8, 8, 8, 8, 8, 8, 8, 8, 8, 8, 8, 8, 8, 8, 8, 8, 8, 8, 8, 8, 8, 8, 8, 8, 8, 8, 8, 8, 8, 8, 8, 8, 8, 8, 8, 8, 8, 8, 8, 8, 8, 8, 8, 8, 8, 8, 8, 8, 8, 8, 8, 8, 8, 8, 8, 8, 8, 8, 8, 8, 8, 8, 8, 8, 8, 8, 8, 8, 8, 8, 8, 8, 8, 8, 8, 8, 8, 8, 8, 8, 8, 8, 8, 8, 8, 8, 8, 8, 8, 8, 8, 8, 8, 8, 8, 8, 8, 8, 8, 8, 8, 8, 8, 8, 8, 8, 8, 8, 8, 8, 8, 8, 8, 8, 8]⟩ : ByteArray).data[(u8Of x).toNat]? = some e from ⟨_, Array.getElem?_eq_getElem (by have q := UInt8.toNat_lt (u8Of x); show _ < (256 : Nat); omega)⟩) fun e1 he1 => ?_
  have hbe1 := UInt8.toNat_lt e1
  refine At.idxStr (t := 9) (d := 22) (x := .const (.string ⟨#[0, 1, 2, 2, 3, 3, 3, 3, 4, 4, 4, 4, 4, 4, 4, 4, 5, 5, 5, 5, 5, 5, 5, 5, 5, 5, 5, 5, 5, 5, 5, 5, 6, 6, 6, 6, 6, 6, 6, 6, 6, 6, 6, 6, 6, 6, 6, 6, 6, 6, 6, 6, 6, 6, 6, 6, 6, 6, 6, 6, 6, 6, 6, 6, 7, 7, 7, 7, 7, 7, 7, 7, 7, 7, 7, 7, 7, 7, 7, 7, 7, 7, 7, 7, 7, 7, 7, 7, 7, 7, 7, 7, 7, 7, 7, 7, 7, 7, 7, 7, 7, 7, 7, 7, 7, 7, 7, 7, 7, 7, 7, 7, 7, 7, 7, 7, 7, 7, 7, 7, 7, 7, 7, 7, 7, 7, 7, 7, 8, 8, 8, 8, 8, 8, 8, 8, 8, 8, 8, 8, 8, 8, 8, 8, 8, 8, 8, 8, 8, 8, 8, 8, 8, 8, 8, 8, 8, 8, 8, 8, 8, 8, 8, 8, 8, 8, 8, 8, 8, 8, 8, 8, 8, 8, 8, 8, 8, 8, 8, 8, 8, 8, 8, 8, 8, 8, 8, 8, 8, 8, 8, 8, 8, 8, 8, 8, 8, 8, 8, 8, 8, 8, 8, 8, 8, 8, 8, 8, 8, 8, 8, 8, 8, 8, 8, 8, 8, 8, 8, 8, 8, 8, 8, 8, 8, 8, 8, 8, 8, 8, 8, 8, 8, 8, 8, 8, 8, 8, 8, 8, 8, 8, 8, 8, 8, 8, 8, 8, 8, 8, 8, 8, 8, 8, 8, 8]⟩)) (y := .tmp 21) (s := (⟨#[0, 1, 2, 2, 3, 3, 3, 3, 4, 4, 4, 4, 4, 4, 4, 4, 5, 5, 5, 5, 5, 5, 5, 5, 5, 5, 5, 5, 5, 5, 5, 5, 6, 6, 6, 6, 6, 6, 6, 6, 6, 6, 6, 6, 6, 6, 6, 6, 6, 6, 6, 6, 6, 6, 6, 6, 6, 6, 6, 6, 6, 6, 6, 6, 7, 7, 7, 7, 7, 7, 7, 7, 7, 7, 7, 7, 7, 7, 7, 7, 7, 7, 7, 7, 7, 7, 7, 7, 7, 7, 7, 7, 7, 7, 7, 7, 7, 7, 7, 7, 7, 7, 7, 7, 7, 7, 7, 7, 7, 7, 7, 7, 7, 7, 7, 7, 7, 7, 7, 7, 7, 7, 7, 7, 7, 7, 7, 7, 8, 8, 8, 8, 8, 8, 8, 8, 8, 8, 8, 8, 8, 8, 8, 8, 8, 8, 8, 8, 8, 8, 8, 8, 8, 8, 8, 8, 8, 8, 8, 8, 8, 8, 8, 8, 8, 8, 8, 8, 8, 8, 8, 8, 8, 8, 8, 8, 8, 8, 8, 8, 8, 8, 8, 8, 8, 8, 8, 8, 8, 8, 8, 8, 8, 8, 8, 8, 8, 8, 8, 8, 8, 8, 8, 8, 8, 8, 8, 8, 8, 8, 8, 8, 8, 8, 8, 8, 8, 8, 8, 8, 8, 8, 8, 8, 8, 8, 8, 8, 8, 8, 8, 8, 8, 8, 8, 8, 8, 8, 8, 8, 8, 8, 8, 8, 8, 8, 8, 8, 8, 8, 8, 8, 8, 8, 8, 8]⟩ : ByteArray)) (kd := .u8) (i := ((u8Of x).toNat : Int)) e1 (by kernel_rfl) (by kernel_rfl) (by kernel_rfl) (by kernel_rfl) (by omega) he1 ?_
  refine At.conv (s := 5) (t := 3) (d := 23) (x := .tmp 22) (kd := .u8) (kd' := .i64) (a := (e1.toNat : Int)) (.int .i64 (e1.toNat : Int)) (by kernel_rfl) (by kernel_rfl) (by kernel_rfl) (by kernel_rfl) (sayI _ (by have := UInt8.toNat_lt e1; omega)) ?_
  refine At.a 1 ?_
  refine At.sI 24 (0 + (e1.toNat : Int)) (by omega) ?_
  refine At.a 1 ?_
  refine At.done rfl ?_
  refine AW.ret ?_
  refine ⟨_, Sub.refl _ _, ?_⟩
  refine KF.conv (fun w => .int .i64 w) (fun w => []) (show (0 + (e1.toNat : Int)) = (lenT x) from by have q : len8.data[(u8Of x).toNat]? = some e1 := he1; unfold lenT; rw [q]; simp) ?_
  exact KF.m [] [.int .i64 (0 + (e1.toNat : Int))]
set_option maxRecDepth 100000 in
set_option maxHeartbeats 4000000 in
theorem bits_Len_spec  (x : Int) (hx : 0 ≤ x ∧ x ≤ 255) : FnSpec Tryz.prog 168 [.int .u64 x] [] (.int .i64 (lenT x)) [] := by
  refine FnSpec.of 8 Tryz.func168 rfl Tryz.ntmps168 (by simp) (AW.weakK ?_)
  refine AW.r ?_
  refine At.a 1 ?_
  refine At.done rfl ?_
  refine AW.seq ?_
  refine AW.cond false (by kernel_rfl) (fun h => by cases h) (fun _ => ?_)
  refine AW.skip ?_
  refine AW.r ?_
  refine At.a 1 ?_
  refine At.c (bits_Len64_spec  x (by omega)) Tryz.call190 true [] [] [] trivial ?_
  refine At.a 1 ?_
  refine At.done rfl ?_
  refine AW.ret ?_
  refine ⟨_, Sub.refl _ _, ?_⟩
  exact KF.m [] [.int .i64 (lenT x)]
set_option maxRecDepth 100000 in
set_option maxHeartbeats 4000000 in
theorem cmp_isNaN_spec  (x : Int) : FnSpec Tryz.prog 200 [.int .i64 x] [] (.bool false) [] := by
  refine FnSpec.of 6 Tryz.func200 rfl Tryz.ntmps200 (by simp) (AW.weakK ?_)
  refine AW.r ?_
  refine At.a 1 ?_
  refine At.done rfl ?_
  refine AW.r ?_
  refine At.a 4 ?_
  refine At.done rfl ?_
  refine AW.ret ?_
  refine ⟨_, Sub.refl _ _, ?_⟩
  refine KF.conv (fun w => .bool w) (fun w => []) (show (x != x) = (false) from by simp) ?_
  exact KF.m [] [.bool (x != x)]
set_option maxRecDepth 100000 in
set_option maxHeartbeats 4000000 in
theorem cmp_Less_spec  (x : Int) (y : Int) : FnSpec Tryz.prog 186 [.int .i64 x, .int .i64 y] [] (.bool (decide (x < y))) [] := by
  refine FnSpec.of 17 Tryz.func186 rfl Tryz.ntmps186 (by simp) (AW.weakK ?_)
  refine AW.r ?_
  refine At.a 1 ?_
  refine At.done rfl ?_
  refine AW.r ?_
  refine At.a 1 ?_
  refine At.c (cmp_isNaN_spec  x ) Tryz.call200 true [] [] [] trivial ?_
  refine At.a 11 ?_
  refine At.done rfl ?_
  refine AW.ret ?_
  refine ⟨_, Sub.refl _ _, ?_⟩
  exact KF.m [] [.bool (decide (x < y))]
set_option maxRecDepth 100000 in
set_option maxHeartbeats 4000000 in
theorem slices_insertionSortOrdered_spec  (data : List Int) (a_ : Int) (b_ : Int) (ha : a_ = 0) (hb : b_ = data.length) (hx : 1 ≤ data.length ∧ data.length ≤ 12) : FnSpec Tryz.prog 180 [.ref 0, .int .i64 a_, .int .i64 b_] [.arr 3 1 (data.map encI)] (.tup []) [.arr 3 1 ((isort data).map encI)] := by
  refine FnSpec.of 49 Tryz.func180 rfl Tryz.ntmps180 (by simp) (AW.weakK ?_)
  refine AW.r ?_
  refine At.a 2 ?_
  refine At.say 9 (.int .i64 (IntKind.i64.wrap (a_ + 1))) (.int .i64 1) (by kernel_rfl) (sayAs (by omega) (by omega)) ?_
  refine At.a 1 ?_
  refine At.done rfl ?_
  refine AW.block ?_
  refine AW.loopW (fun (x : Nat × List Int) => match x with | (k, q) => Go.Sy.mk [.ref 0, .int .i64 a_, .int .i64 b_, .un, .un, .un, .int .i64 (k : Int)] [(0, .arr 3 1 (q.map encI))]) (fun (x : Nat × List Int) => match x with | (k, q) => (1 ≤ k ∧ k ≤ data.length) ∧ q = isortN data k ++ data.drop k) (fun (x : Nat × List Int) => match x with | (k, q) => data.length - k) (1, data) ⟨by omega, isort_one hx.1⟩ (Sub.o [(0, 0)] [true, true, true, false, false, false, true]) ?_
  rintro ⟨k, q⟩ ⟨hk, hq⟩
  refine AW.seq ?_
  refine AW.r ?_
  refine At.a 3 ?_
  refine At.done rfl ?_
  refine AW.cD ((k : Int) < b_) (fun h1 => ?_) (fun h1 => ?_)
  · skip
    refine AW.skip ?_
    refine AW.seq ?_
    refine AW.block ?_
    refine AW.r ?_
    refine At.a 2 ?_
    refine At.done rfl ?_
    refine AW.block ?_
    refine AW.loopW (fun (x : Nat × List Int) => match x with | (j, p) => Go.Sy.mk [.ref 0, .int .i64 a_, .int .i64 b_, .un, .un, .un, .int .i64 (k : Int), .int .i64 (j : Int)] [(0, .arr 3 1 (p.map encI))]) (fun (x : Nat × List Int) => match x with | (j, p) => j ≤ k ∧ p = mid (nthI data k) (isortN data k) (data.drop (k + 1)) j ∧ insAt (nthI data k) (isortN data k) j = ins (nthI data k) (isortN data k)) (fun (x : Nat × List Int) => match x with | (j, p) => j) (k, q) ⟨by omega, hq.trans (mid_start data (by omega)), by rw [ins, isortN_len]⟩ (Sub.o [(0, 0)] [true, true, true, false, false, false, true, true]) ?_
    rintro ⟨j, p⟩ ⟨hj, hp, hins⟩
    have hpl := mid_row hj (by omega) hp
    refine AW.seq ?_
    refine AW.seq ?_
    refine AW.regionD Tryz_mix (At.start ?_)
    refine At.a 4 ?_
    by_cases h2 : (j : Int) > a_
    · refine At.sB 19 (decide ((j : Int) > a_)) true (sayT h2) ?_
      refine At.a 2 ?_
      refine At.iRf 27 22 (.tmp 20) (.tmp 21) 0 (p.map encI) .i64 (j : Int) 3 1 (by omega) (by simp only [List.length_map, List.length_append, List.length_take, List.length_drop, List.length_replicate, List.length_set, List.length_cons, List.length_nil]; omega) ?_
      refine Exists.elim (show ∃ e, p[j]? = some e from ⟨_, List.getElem?_eq_getElem (by omega)⟩) fun e1 he1 => ?_
      refine At.lEl 3 23 (.tmp 22) 0 3 1 (p.map encI) j 0 false 1 (encI e1) (.int .i64 e1) (mapGet he1) ?_
      refine At.a 3 ?_
      refine At.say 26 (.int .i64 (IntKind.i64.wrap ((j : Int) - 1))) (.int .i64 ((j - 1 : Nat) : Int)) (by kernel_rfl) (sayAs (by omega) (by omega)) ?_
      refine At.iRf 27 27 (.tmp 24) (.tmp 26) 0 (p.map encI) .i64 ((j - 1 : Nat) : Int) 3 1 (by omega) (by simp only [List.length_map, List.length_append, List.length_take, List.length_drop, List.length_replicate, List.length_set, List.length_cons, List.length_nil]; omega) ?_
      refine Exists.elim (show ∃ e, p[j - 1]? = some e from ⟨_, List.getElem?_eq_getElem (by omega)⟩) fun e2 he2 => ?_
      refine At.lEl 3 28 (.tmp 27) 0 3 1 (p.map encI) (j - 1) 0 false 1 (encI e2) (.int .i64 e2) (mapGet he2) ?_
      refine At.c (cmp_Less_spec  e1 e2 ) Tryz.call186 true [] [] [] trivial ?_
      refine At.a 1 ?_
      refine At.done rfl ⟨by kernel_rfl, ?_⟩
      refine AW.cD (e1 < e2) (fun h3 => ?_) (fun h3 => ?_)
      · skip
        refine AW.skip ?_
        refine AW.seq ?_
        refine AW.block ?_
        refine AW.regionD Tryz_mix (At.start ?_)
        refine At.a 5 ?_
        refine At.say 37 (.int .i64 (IntKind.i64.wrap ((j : Int) - 1))) (.int .i64 ((j - 1 : Nat) : Int)) (by kernel_rfl) (sayAs (by omega) (by omega)) ?_
        refine At.a 3 ?_
        refine At.say 40 (.int .i64 (IntKind.i64.wrap ((j : Int) - 1))) (.int .i64 ((j - 1 : Nat) : Int)) (by kernel_rfl) (sayAs (by omega) (by omega)) ?_
        refine At.iRf 27 41 (.tmp 38) (.tmp 40) 0 (p.map encI) .i64 ((j - 1 : Nat) : Int) 3 1 (by omega) (by simp only [List.length_map, List.length_append, List.length_take, List.length_drop, List.length_replicate, List.length_set, List.length_cons, List.length_nil]; omega) ?_
        refine At.lEl 3 42 (.tmp 41) 0 3 1 (p.map encI) (j - 1) 0 false 1 (encI e2) (.int .i64 e2) (mapGet he2) ?_
        refine At.a 2 ?_
        refine At.iRf 27 45 (.tmp 43) (.tmp 44) 0 (p.map encI) .i64 (j : Int) 3 1 (by omega) (by simp only [List.length_map, List.length_append, List.length_take, List.length_drop, List.length_replicate, List.length_set, List.length_cons, List.length_nil]; omega) ?_
        refine At.lEl 3 46 (.tmp 45) 0 3 1 (p.map encI) j 0 false 1 (encI e1) (.int .i64 e1) (mapGet he1) ?_
        refine At.iRf 27 47 (.tmp 33) (.tmp 34) 0 (p.map encI) .i64 (j : Int) 3 1 (by omega) (by simp only [List.length_map, List.length_append, List.length_take, List.length_drop, List.length_replicate, List.length_set, List.length_cons, List.length_nil]; omega) ?_
        refine At.sEl 3 0 3 1 j 0 (.tmp 47) (.tmp 42) (p.map encI) ((p.set j e2).map encI) [.int .i64 e2] (.int .i64 e2) (encI e1) (encI e2) (mapGet he1) setV ?_
        refine At.iRf 27 48 (.tmp 35) (.tmp 37) 0 ((p.set j e2).map encI) .i64 ((j - 1 : Nat) : Int) 3 1 (by omega) (by simp only [List.length_map, List.length_append, List.length_take, List.length_drop, List.length_replicate, List.length_set, List.length_cons, List.length_nil]; omega) ?_
        refine Exists.elim (show ∃ e, (p.set j e2)[j - 1]? = some e from ⟨_, List.getElem?_eq_getElem (by simp only [List.length_map, List.length_append, List.length_take, List.length_drop, List.length_replicate, List.length_set, List.length_cons, List.length_nil]; omega)⟩) fun e3 he3 => ?_
        refine At.sEl 3 0 3 1 (j - 1) 0 (.tmp 48) (.tmp 46) ((p.set j e2).map encI) (((p.set j e2).set (j - 1) e1).map encI) [.int .i64 e1] (.int .i64 e1) (encI e3) (encI e1) (mapGet he3) setV ?_
        refine At.done rfl ⟨by kernel_rfl, ?_⟩
        refine AW.region (At.start ?_)
        refine At.a 2 ?_
        refine At.say 32 (.int .i64 (IntKind.i64.wrap ((j : Int) - 1))) (.int .i64 ((j - 1 : Nat) : Int)) (by kernel_rfl) (sayAs (by omega) (by omega)) ?_
        refine At.a 1 ?_
        refine At.done rfl ?_
        exact ⟨(j - 1, ((p.set j e2).set (j - 1) e1)), (by have q1 := mid_step hj hp (by omega) he1 he2; exact ⟨by omega, q1.1, (insAt_go (by omega) (by rw [← q1.2.1, ← q1.2.2]; omega)).symm.trans hins⟩), (by simp only; omega), Sub.o [(0, 0)] [true, true, true, false, false, false, true, true]⟩
      · skip
        refine AW.exit ?_
        refine AW.region (At.start ?_)
        refine At.a 2 ?_
        refine At.sI 14 ((k : Int) + 1) (by omega) ?_
        refine At.a 1 ?_
        refine At.done rfl ?_
        exact ⟨(k + 1, p), ⟨by omega, by exact mid_exit1 hj hp hins (by omega) (by assumption) (by assumption) (by omega)⟩, (by simp only; omega), Sub.o [(0, 0)] [true, true, true, false, false, false, true]⟩
    · refine At.sB 19 (decide ((j : Int) > a_)) false (sayF h2) ?_
      refine At.a 11 ?_
      refine At.done rfl ⟨by kernel_rfl, ?_⟩
      refine AW.cond false (by kernel_rfl) (fun h => by cases h) (fun _ => ?_)
      refine AW.exit ?_
      refine AW.region (At.start ?_)
      refine At.a 2 ?_
      refine At.sI 14 ((k : Int) + 1) (by omega) ?_
      refine At.a 1 ?_
      refine At.done rfl ?_
      exact ⟨(k + 1, p), ⟨by omega, by exact mid_exit0 hp hins (by omega)⟩, (by simp only; omega), Sub.o [(0, 0)] [true, true, true, false, false, false, true]⟩
  · skip
    refine AW.exit ?_
    refine ⟨_, Sub.refl _ _, ?_⟩
    refine KF.conv (fun w => .tup []) (fun w => [.arr 3 1 (w.map encI)]) (show (q) = (isort data) from by rw [hq, show k = data.length from by omega, List.drop_length, List.append_nil]; rfl) ?_
    exact KF.m [(0, 0)] []
set_option maxRecDepth 100000 in
set_option maxHeartbeats 4000000 in
theorem slices_pdqsortOrdered_spec  (data : List Int) (a_ : Int) (b_ : Int) (lim : Int) (ha : a_ = 0) (hb : b_ = data.length) (hx : 1 ≤ data.length ∧ data.length ≤ 12) : FnSpec Tryz.prog 167 [.ref 0, .int .i64 a_, .int .i64 b_, .int .i64 lim] [.arr 3 1 (data.map encI)] (.tup []) [.arr 3 1 ((isort data).map encI)] := by
  refine FnSpec.of 134 Tryz.func167 rfl Tryz.ntmps167 (by simp) (AW.weakK ?_)
  refine AW.r ?_
  refine At.a 1 ?_
  refine At.done rfl ?_
  refine AW.r ?_
  refine At.a 1 ?_
  refine At.done rfl ?_
  refine AW.block ?_
  refine AW.loopW (fun (u : Unit) => Go.Sy.mk [.ref 0, .int .i64 a_, .int .i64 b_, .int .i64 lim, .un, .un, .un, .un, .bool true, .bool true] [(0, .arr 3 1 (data.map encI))]) (fun (u : Unit) => True) (fun (u : Unit) => 0) () trivial (Sub.o [(0, 0)] [true, true, true, true, false, false, false, false, true, true]) ?_
  rintro u _
  refine AW.block ?_
  refine AW.r ?_
  refine At.a 3 ?_
  refine At.sI 21 (b_ - a_) (by omega) ?_
  refine At.a 1 ?_
  refine At.done rfl ?_
  refine AW.seq ?_
  refine AW.r ?_
  refine At.a 2 ?_
  refine At.done rfl ?_
  refine AW.condT (decide ((b_ - a_) ≤ 12)) (by kernel_rfl) (decide_eq_true (by omega)) ?_
  refine AW.r ?_
  refine At.a 3 ?_
  refine At.c (slices_insertionSortOrdered_spec  data a_ b_ ha hb hx) Tryz.call180 true [(0, 0)] [] [] trivial ?_
  refine At.done rfl ?_
  refine AW.ret ?_
  refine ⟨_, Sub.refl _ _, ?_⟩
  exact KF.m [(0, 0)] []
set_option maxRecDepth 100000 in
set_option maxHeartbeats 4000000 in
theorem slices_Sort_spec  (x : List Int) (hx : 1 ≤ x.length ∧ x.length ≤ 12) : FnSpec Tryz.prog 140 [.ref 0] [.arr 3 1 (x.map encI)] (.tup []) [.arr 3 1 ((isort x).map encI)] := by
  refine FnSpec.of 11 Tryz.func140 rfl Tryz.ntmps140 (by simp) (AW.weakK ?_)
  refine AW.r ?_
  refine At.a 2 ?_
  refine At.sL 4 encI x ?_
  refine At.a 1 ?_
  refine At.done rfl ?_
  refine AW.region (At.start ?_)
  refine At.a 3 ?_
  refine At.conv (s := 3) (t := 162) (d := 8) (x := .tmp 7) (kd := .i64) (kd' := .u64) (a := (x.length : Int)) (.int .u64 (x.length : Int)) (by kernel_rfl) (by kernel_rfl) (by kernel_rfl) (by kernel_rfl) (sayU _ (by omega)) ?_
  refine At.c (bits_Len_spec  (x.length : Int) (by omega)) Tryz.call168 true [] [] [] trivial ?_
  refine At.c (slices_pdqsortOrdered_spec  x 0 (x.length : Int) (lenT (x.length : Int)) rfl rfl hx) Tryz.call167 true [(0, 0)] [] [] trivial ?_
  refine At.done rfl ?_
  refine ⟨_, Sub.refl _ _, ?_⟩
  exact KF.m [(0, 0)] []
set_option maxRecDepth 100000 in
set_option maxHeartbeats 4000000 in
theorem bits_Mul64_spec  (x : Int) (y : Int) (hx : 0 ≤ x ∧ x ≤ 1048576) (hy : 0 ≤ y ∧ y ≤ 1048576) (hp : 0 ≤ x * y ∧ x * y ≤ 4294967295) : FnSpec Tryz.prog 194 [.int .u64 x, .int .u64 y] [] (.tup [.int .u64 0, .int .u64 (x * y)]) [] := by
  refine FnSpec.of 51 Tryz.func194 rfl Tryz.ntmps194 (by simp) (AW.weakK ?_)
  refine AW.r ?_
  refine At.a 2 ?_
  refine At.done rfl ?_
  refine AW.r ?_
  refine At.a 1 ?_
  refine At.bits (t := 182) (u := 182) (d := 15) (op := .and) (x := .tmp 14) (y := .const (.int .u64 4294967295)) (kd := .u64) (a := x) (b := 4294967295) x (by kernel_rfl) (by kernel_rfl) (by kernel_rfl) (by kernel_rfl) (and32 (by omega) (by omega)) ?_
  refine At.a 1 ?_
  refine At.done rfl ?_
  refine AW.r ?_
  refine At.a 1 ?_
  refine At.shift (t := 182) (u := 162) (d := 17) (op := .shr) (x := .tmp 16) (y := .const (.int .u64 32)) (kd := .u64) (kd' := .u64) (a := x) (b := 32) 0 (by kernel_rfl) (by kernel_rfl) (by kernel_rfl) (by kernel_rfl) (by omega) (shr32 (by omega) (by omega)) ?_
  refine At.a 1 ?_
  refine At.done rfl ?_
  refine AW.r ?_
  refine At.a 1 ?_
  refine At.bits (t := 182) (u := 182) (d := 19) (op := .and) (x := .tmp 18) (y := .const (.int .u64 4294967295)) (kd := .u64) (a := y) (b := 4294967295) y (by kernel_rfl) (by kernel_rfl) (by kernel_rfl) (by kernel_rfl) (and32 (by omega) (by omega)) ?_
  refine At.a 1 ?_
  refine At.done rfl ?_
  refine AW.r ?_
  refine At.a 1 ?_
  refine At.shift (t := 182) (u := 162) (d := 21) (op := .shr) (x := .tmp 20) (y := .const (.int .u64 32)) (kd := .u64) (kd' := .u64) (a := y) (b := 32) 0 (by kernel_rfl) (by kernel_rfl) (by kernel_rfl) (by kernel_rfl) (by omega) (shr32 (by omega) (by omega)) ?_
  refine At.a 1 ?_
  refine At.done rfl ?_
  refine AW.r ?_
  refine At.a 3 ?_
  refine At.say 24 (.int .u64 (IntKind.u64.wrap (x * y))) (.int .u64 (x * y)) (by kernel_rfl) (sayU _ (by omega)) ?_
  refine At.a 1 ?_
  refine At.done rfl ?_
  refine AW.r ?_
  refine At.a 3 ?_
  refine At.say 27 (.int .u64 (IntKind.u64.wrap (0 * y))) (.int .u64 0) (by kernel_rfl) (sayUs (Int.zero_mul _) (by omega)) ?_
  refine At.a 1 ?_
  refine At.shift (t := 182) (u := 162) (d := 29) (op := .shr) (x := .tmp 28) (y := .const (.int .u64 32)) (kd := .u64) (kd' := .u64) (a := x * y) (b := 32) 0 (by kernel_rfl) (by kernel_rfl) (by kernel_rfl) (by kernel_rfl) (by omega) (shr32 (by omega) (by omega)) ?_
  refine At.a 1 ?_
  refine At.say 30 (.int .u64 (IntKind.u64.wrap (0 + 0))) (.int .u64 0) (by kernel_rfl) (sayU _ (by omega)) ?_
  refine At.a 1 ?_
  refine At.done rfl ?_
  refine AW.r ?_
  refine At.a 1 ?_
  refine At.bits (t := 182) (u := 182) (d := 32) (op := .and) (x := .tmp 31) (y := .const (.int .u64 4294967295)) (kd := .u64) (a := 0) (b := 4294967295) 0 (by kernel_rfl) (by kernel_rfl) (by kernel_rfl) (by kernel_rfl) (and32 (by omega) (by omega)) ?_
  refine At.a 1 ?_
  refine At.done rfl ?_
  refine AW.r ?_
  refine At.a 1 ?_
  refine At.shift (t := 182) (u := 162) (d := 34) (op := .shr) (x := .tmp 33) (y := .const (.int .u64 32)) (kd := .u64) (kd' := .u64) (a := 0) (b := 32) 0 (by kernel_rfl) (by kernel_rfl) (by kernel_rfl) (by kernel_rfl) (by omega) (shr32 (by omega) (by omega)) ?_
  refine At.a 1 ?_
  refine At.done rfl ?_
  refine AW.r ?_
  refine At.a 4 ?_
  refine At.say 38 (.int .u64 (IntKind.u64.wrap (x * 0))) (.int .u64 0) (by kernel_rfl) (sayUs (Int.mul_zero _) (by omega)) ?_
  refine At.a 1 ?_
  refine At.say 39 (.int .u64 (IntKind.u64.wrap (0 + 0))) (.int .u64 0) (by kernel_rfl) (sayU _ (by omega)) ?_
  refine At.a 1 ?_
  refine At.done rfl ?_
  refine AW.r ?_
  refine At.a 3 ?_
  refine At.say 42 (.int .u64 (IntKind.u64.wrap (0 * 0))) (.int .u64 0) (by kernel_rfl) (sayU _ (by omega)) ?_
  refine At.a 2 ?_
  refine At.say 44 (.int .u64 (IntKind.u64.wrap (0 + 0))) (.int .u64 0) (by kernel_rfl) (sayU _ (by omega)) ?_
  refine At.a 1 ?_
  refine At.shift (t := 182) (u := 162) (d := 46) (op := .shr) (x := .tmp 45) (y := .const (.int .u64 32)) (kd := .u64) (kd' := .u64) (a := 0) (b := 32) 0 (by kernel_rfl) (by kernel_rfl) (by kernel_rfl) (by kernel_rfl) (by omega) (shr32 (by omega) (by omega)) ?_
  refine At.a 1 ?_
  refine At.say 47 (.int .u64 (IntKind.u64.wrap (0 + 0))) (.int .u64 0) (by kernel_rfl) (sayU _ (by omega)) ?_
  refine At.a 1 ?_
  refine At.done rfl ?_
  refine AW.r ?_
  refine At.a 3 ?_
  refine At.say 50 (.int .u64 (IntKind.u64.wrap (x * y))) (.int .u64 (x * y)) (by kernel_rfl) (sayU _ (by omega)) ?_
  refine At.a 1 ?_
  refine At.done rfl ?_
  refine AW.ret ?_
  refine ⟨_, Sub.refl _ _, ?_⟩
  exact KF.m [] [.int .u64 0, .int .u64 (x * y)]
set_option maxRecDepth 100000 in
set_option maxHeartbeats 4000000 in
theorem bits_Mul_spec  (x : Int) (y : Int) (hx : 0 ≤ x ∧ x ≤ 1048576) (hy : 0 ≤ y ∧ y ≤ 1048576) (hp : 0 ≤ x * y ∧ x * y ≤ 4294967295) : FnSpec Tryz.prog 177 [.int .u64 x, .int .u64 y] [] (.tup [.int .u64 0, .int .u64 (x * y)]) [] := by
  refine FnSpec.of 30 Tryz.func177 rfl Tryz.ntmps177 (by simp) (AW.weakK ?_)
  refine AW.r ?_
  refine At.a 2 ?_
  refine At.done rfl ?_
  refine AW.seq ?_
  refine AW.cond false (by kernel_rfl) (fun h => by cases h) (fun _ => ?_)
  refine AW.skip ?_
  refine AW.r ?_
  refine At.a 2 ?_
  refine At.c (bits_Mul64_spec  x y hx hy hp) Tryz.call194 true [] [] [] trivial ?_
  refine At.a 5 ?_
  refine At.done rfl ?_
  refine AW.r ?_
  refine At.a 4 ?_
  refine At.done rfl ?_
  refine AW.ret ?_
  refine ⟨_, Sub.refl _ _, ?_⟩
  exact KF.m [] [.int .u64 0, .int .u64 (x * y)]
set_option maxRecDepth 100000 in
set_option maxHeartbeats 4000000 in
theorem slices_Repeat_spec  (x : List Int) (count : Int) (hx : x.length = 1) (hc : 1 ≤ count ∧ count ≤ 1048576) : FnSpec Tryz.prog 159 [.sl false 1 (x.map encI), .int .i64 count] [] (.ref 0) [.arr 3 1 ((repl x count).map encI)] := by
  have hxi : (x.length : Int) = 1 := by omega
  have hp : (x.length : Int) * count = count := by rw [hxi]; omega
  refine FnSpec.of 48 Tryz.func159 rfl Tryz.ntmps159 (by simp) (AW.weakK ?_)
  refine AW.r ?_
  refine At.a 1 ?_
  refine At.done rfl ?_
  refine AW.seq ?_
  refine AW.r ?_
  refine At.a 2 ?_
  refine At.done rfl ?_
  refine AW.condF (decide (count < 0)) (by kernel_rfl) (decide_eq_false (by omega)) ?_
  refine AW.skip ?_
  refine AW.r ?_
  refine At.a 2 ?_
  refine At.sL 14 encI x ?_
  refine At.conv (s := 3) (t := 162) (d := 15) (x := .tmp 14) (kd := .i64) (kd' := .u64) (a := (x.length : Int)) (.int .u64 (x.length : Int)) (by kernel_rfl) (by kernel_rfl) (by kernel_rfl) (by kernel_rfl) (sayU _ (by omega)) ?_
  refine At.a 1 ?_
  refine At.conv (s := 3) (t := 162) (d := 17) (x := .tmp 16) (kd := .i64) (kd' := .u64) (a := count) (.int .u64 count) (by kernel_rfl) (by kernel_rfl) (by kernel_rfl) (by kernel_rfl) (sayU _ (by omega)) ?_
  refine At.c (bits_Mul_spec  (x.length : Int) count (by omega) (by omega) (by rw [hp]; omega)) Tryz.call177 true [] [] [] trivial ?_
  refine At.a 5 ?_
  refine At.done rfl ?_
  refine AW.seq ?_
  refine AW.r ?_
  refine At.a 6 ?_
  refine At.done rfl ?_
  refine AW.condF (decide (((x.length : Int) * count) > 9223372036854775807)) (by kernel_rfl) (decide_eq_false (by omega)) ?_
  refine AW.skip ?_
  refine AW.r ?_
  refine At.a 1 ?_
  refine At.conv (s := 162) (t := 3) (d := 29) (x := .tmp 28) (kd := .u64) (kd' := .i64) (a := (x.length : Int) * count) (.int .i64 ((count.toNat : Nat) : Int)) (by kernel_rfl) (by kernel_rfl) (by kernel_rfl) (by kernel_rfl) (sayAs (hp.trans (by omega)) (by omega)) ?_
  refine At.make (t := 27) (d := 30) (e := 3) (es := 1) (bytes := 8) (x := .tmp 29) (y := .tmp 29) (ka := .i64) (kb := .i64) (zs := [.int .i64 0]) 130 count.toNat ((List.replicate count.toNat 0).map encI) (by kernel_rfl) (by kernel_rfl) (by kernel_rfl) (by kernel_rfl) (by kernel_rfl) (by omega) (by omega) (by rw [List.map_replicate]; rfl) ?_
  refine At.a 1 ?_
  refine At.done rfl ?_
  refine AW.r ?_
  refine At.a 2 ?_
  refine At.copy (t := 27) (t2 := 27) (d := 33) (e := 3) (es := 1) (i := 130) (off := 0) (m := ((List.replicate count.toNat 0).map encI).length) (x := .tmp 31) (y := .tmp 32) (S := .ref 130) (T := .sl false 1 (x.map encI)) (xs := ((List.replicate count.toNat 0).map encI)) (ys := (x.map encI)) 1 ((List.replicate 1 (x.headD 0) ++ List.replicate (count.toNat - 1) (0 : Int)).map encI) (by kernel_rfl) (by kernel_rfl) (by kernel_rfl) (by kernel_rfl) (.inl ⟨rfl, rfl, rfl⟩) (by kernel_rfl) ⟨rfl, rfl, (allP_encI _), rfl⟩ (allP_encI _) (by simp only [List.length_map, List.length_replicate, hx]; omega) (repl_start hx (by omega)) ?_
  refine At.a 1 ?_
  refine At.done rfl ?_
  refine AW.seq ?_
  refine AW.block ?_
  refine AW.loopW (fun (k : Nat) => Go.Sy.mk [.un, .un, .un, .un, .un, .un, .un, .ref 130, .int .i64 (k : Int)] [(130, .arr 3 1 ((List.replicate k (x.headD 0) ++ List.replicate (count.toNat - k) (0 : Int)).map encI))]) (fun (k : Nat) => 1 ≤ k ∧ k ≤ count.toNat) (fun (k : Nat) => count.toNat - k) 1 ⟨by omega, by omega⟩ (Sub.o [(130, 130)] [false, false, false, false, false, false, false, true, true]) ?_
  rintro k ⟨hk1, hk2⟩
  have hl : (List.replicate k (x.headD 0) ++ List.replicate (count.toNat - k) (0 : Int)).length = count.toNat := (by rw [List.length_append, List.length_replicate, List.length_replicate]; omega)
  refine AW.seq ?_
  refine AW.r ?_
  refine At.a 3 ?_
  refine At.sL 36 encI (List.replicate k (x.headD 0) ++ List.replicate (count.toNat - k) (0 : Int)) ?_
  refine At.a 1 ?_
  refine At.done rfl ?_
  refine AW.cD ((k : Int) < ((List.replicate k (x.headD 0) ++ List.replicate (count.toNat - k) (0 : Int)).length : Int)) (fun h1 => ?_) (fun h1 => ?_)
  · skip
    refine AW.skip ?_
    refine AW.block ?_
    refine AW.regionD Tryz_mix (At.start ?_)
    refine At.a 3 ?_
    refine At.sliceRef (t := 27) (d := 41) (e := 3) (es := 1) (i := 130) (x := .tmp 39) (lx := some (.tmp 40)) (hx := none) (xs := ((List.replicate k (x.headD 0) ++ List.replicate (count.toNat - k) (0 : Int)).map encI)) (vl := .int .i64 (k : Int)) (vh := .un) k (((List.replicate k (x.headD 0) ++ List.replicate (count.toNat - k) (0 : Int)).map encI).length) (by kernel_rfl) (by kernel_rfl) (by kernel_rfl) (by kernel_rfl) (by kernel_rfl) (.inr ⟨_, _, rfl, rfl⟩) (.inl ⟨rfl, rfl⟩) (by simp only [List.length_map, List.length_append, List.length_take, List.length_drop, List.length_replicate, List.length_set, List.length_cons, List.length_nil]; omega) (by omega) ?_
    refine At.a 2 ?_
    refine At.sliceRef (t := 27) (d := 44) (e := 3) (es := 1) (i := 130) (x := .tmp 42) (lx := none) (hx := some (.tmp 43)) (xs := ((List.replicate k (x.headD 0) ++ List.replicate (count.toNat - k) (0 : Int)).map encI)) (vl := .un) (vh := .int .i64 (k : Int)) 0 k (by kernel_rfl) (by kernel_rfl) (by kernel_rfl) (by kernel_rfl) (by kernel_rfl) (.inl ⟨rfl, rfl⟩) (.inr ⟨_, _, rfl, rfl⟩) (by omega) (by simp only [List.length_map, List.length_append, List.length_take, List.length_drop, List.length_replicate, List.length_set, List.length_cons, List.length_nil]; omega) ?_
    refine At.copy (t := 27) (t2 := 27) (d := 45) (e := 3) (es := 1) (i := 130) (off := k) (m := (((List.replicate k (x.headD 0) ++ List.replicate (count.toNat - k) (0 : Int)).map encI).length) - k) (x := .tmp 41) (y := .tmp 44) (S := .sub 130 k ((((List.replicate k (x.headD 0) ++ List.replicate (count.toNat - k) (0 : Int)).map encI).length) - k)) (T := .sub 130 0 (k - 0)) (xs := ((List.replicate k (x.headD 0) ++ List.replicate (count.toNat - k) (0 : Int)).map encI)) (ys := (((List.replicate k (x.headD 0) ++ List.replicate (count.toNat - k) (0 : Int)).map encI).drop 0).take (k - 0)) (min k (count.toNat - k)) ((List.replicate (k + min k (count.toNat - k)) (x.headD 0) ++ List.replicate (count.toNat - (k + min k (count.toNat - k))) (0 : Int)).map encI) (by kernel_rfl) (by kernel_rfl) (by kernel_rfl) (by kernel_rfl) (.inr rfl) (by kernel_rfl) ⟨((List.replicate k (x.headD 0) ++ List.replicate (count.toNat - k) (0 : Int)).map encI), by kernel_rfl, by rw [List.length_map]; (first | omega | (simp only [List.length_append, List.length_replicate]; omega)), rfl, by rw [← List.map_drop, ← List.map_take]; exact (allP_encI _), rfl⟩ (allP_encI _) (by simp only [List.length_map, List.length_append, List.length_replicate, List.length_take, List.length_drop]; omega) (repl_step (by omega)) ?_
    refine At.a 1 ?_
    refine At.sI 46 ((k : Int) + ((min k (count.toNat - k) : Nat) : Int)) (by omega) ?_
    refine At.a 1 ?_
    refine At.done rfl ⟨by kernel_rfl, ?_⟩
    exact ⟨k + min k (count.toNat - k), ⟨by omega, by omega⟩, (by omega), Sub.o [(130, 130)] [false, false, false, false, false, false, false, true, true]⟩
  · skip
    refine AW.exit ?_
    refine AW.r ?_
    refine At.a 2 ?_
    refine At.done rfl ?_
    refine AW.ret ?_
    refine ⟨_, Sub.refl _ _, ?_⟩
    refine KF.conv (fun w => .ref 0) (fun w => [.arr 3 1 (w.map encI)]) (show (List.replicate k (x.headD 0) ++ List.replicate (count.toNat - k) (0 : Int)) = (repl x count) from by have hk : k = count.toNat := (by omega); rw [hk, Nat.sub_self]; simp [repl]) ?_
    exact KF.m [(130, 0)] [.ref 130]
set_option maxRecDepth 100000 in
set_option maxHeartbeats 4000000 in
theorem impl_stepper_put_spec  (s : Stepper) (e : Ent) (hl : s.r.hard.log.length ≤ 1048576) (hr : s.recs.length ≤ 1048576) : FnSpec Tryz.prog 102 [.ptr 0 0 0, .agg [.int .i64 e.term, .int .i64 e.cmd.kind, .int .i64 e.cmd.release, .int .i64 e.cmd.node, .int .i64 e.cmd.size, .str e.cmd.digest]] [.box 102 [.int .i64 s.r.id, .int .i64 s.r.of_, .int .i64 s.r.role, .int .i64 s.r.commit, .int .i64 s.r.hard.term, .int .i64 s.r.hard.vote, .ref 1, .ref 2, .ref 3, .ref 4, .int .i64 s.was.id, .int .i64 s.was.of_, .int .i64 s.was.role, .int .i64 s.was.commit, .int .i64 s.was.hard.term, .int .i64 s.was.hard.vote, .sl false 6 (s.was.hard.log.map encEnt), .sl false 1 (s.was.yes.map encI), .sl false 1 (s.was.next.map encI), .sl false 1 (s.was.match_.map encI), .ref 5, .ref 6], .arr 45 6 (s.r.hard.log.map encEnt), .arr 3 1 (s.r.yes.map encI), .arr 3 1 (s.r.next.map encI), .arr 3 1 (s.r.match_.map encI), .arr 47 10 (s.recs.map encRec), .arr 51 17 (s.outs.map encOut)] (.tup []) [.box 102 [.int .i64 s.r.id, .int .i64 s.r.of_, .int .i64 s.r.role, .int .i64 s.r.commit, .int .i64 s.r.hard.term, .int .i64 s.r.hard.vote, .ref 7, .ref 2, .ref 3, .ref 4, .int .i64 s.was.id, .int .i64 s.was.of_, .int .i64 s.was.role, .int .i64 s.was.commit, .int .i64 s.was.hard.term, .int .i64 s.was.hard.vote, .sl false 6 (s.was.hard.log.map encEnt), .sl false 1 (s.was.yes.map encI), .sl false 1 (s.was.next.map encI), .sl false 1 (s.was.match_.map encI), .ref 8, .ref 6], .dead, .arr 3 1 (s.r.yes.map encI), .arr 3 1 (s.r.next.map encI), .arr 3 1 (s.r.match_.map encI), .dead, .arr 51 17 (s.outs.map encOut), .arr 45 6 ((s.r.hard.log ++ [e]).map encEnt), .arr 47 10 ((s.recs ++ [(⟨2, 0, 0, ((s.r.hard.log ++ [e]).length : Int), e⟩ : Rec)]).map encRec)] := by
  refine FnSpec.of 36 Tryz.func102 rfl Tryz.ntmps102 (by simp) (AW.weakK ?_)
  refine AW.r ?_
  refine At.a 1 ?_
  refine At.done rfl ?_
  refine AW.seq ?_
  refine AW.regionD Tryz_mix (At.start ?_)
  refine At.a 8 ?_
  refine At.litK (t := 24) (d := 12) (e := 45) (es := 6) (bytes := 56) (n := 1) (parts := #[(0, .tmp 11)]) (45, 6) 112 [] [.int .i64 e.term, .int .i64 e.cmd.kind, .int .i64 e.cmd.release, .int .i64 e.cmd.node, .int .i64 e.cmd.size, .str e.cmd.digest] [.int .i64 e.term, .int .i64 e.cmd.kind, .int .i64 e.cmd.release, .int .i64 e.cmd.node, .int .i64 e.cmd.size, .str e.cmd.digest] [.int .i64 0, .int .i64 0, .int .i64 0, .int .i64 0, .int .i64 0, .str (⟨#[]⟩ : ByteArray)] [.agg [.int .i64 e.term, .int .i64 e.cmd.kind, .int .i64 e.cmd.release, .int .i64 e.cmd.node, .int .i64 e.cmd.size, .str e.cmd.digest]] [] (by kernel_rfl) (by kernel_rfl) (by kernel_rfl) (by kernel_rfl) rfl (fun p hp => by cases hp) (by kernel_rfl) ?_
  refine At.append (t := 24) (d := 13) (e := 45) (es := 6) (bytes := 56) (s := .tmp 10) (x := .tmp 12) (S := .ref 1) (T := .ref 112) (xs := (s.r.hard.log.map encEnt)) (ys := (([e]).map encEnt)) 113 [1] [112] ((s.r.hard.log ++ ([e])).map encEnt) (by kernel_rfl) (by kernel_rfl) (by kernel_rfl) (by kernel_rfl) ⟨by kernel_rfl, rfl⟩ ⟨by kernel_rfl, .inr rfl⟩ (by kernel_rfl) (by kernel_rfl) (by simp) (by simp only [List.length_map, List.length_append, List.length_take, List.length_drop, List.length_replicate, List.length_set, List.length_cons, List.length_nil]; omega) (by simp only [List.length_map, List.length_append, List.length_take, List.length_drop, List.length_replicate, List.length_set, List.length_cons, List.length_nil]; omega) ?_
  refine At.a 5 ?_
  refine At.done rfl ⟨by kernel_rfl, ?_⟩
  refine AW.regionD Tryz_mix (At.start ?_)
  refine At.a 12 ?_
  refine At.sL 29 encEnt (s.r.hard.log ++ ([e])) ?_
  refine At.a 2 ?_
  refine At.litK (t := 37) (d := 32) (e := 47) (es := 10) (bytes := 88) (n := 1) (parts := #[(0, .tmp 31)]) (45, 6) 132 [] [.int .i64 2, .int .i64 0, .int .i64 0, .int .i64 ((s.r.hard.log ++ ([e])).length : Int), .int .i64 e.term, .int .i64 e.cmd.kind, .int .i64 e.cmd.release, .int .i64 e.cmd.node, .int .i64 e.cmd.size, .str e.cmd.digest] [.int .i64 2, .int .i64 0, .int .i64 0, .int .i64 ((s.r.hard.log ++ ([e])).length : Int), .int .i64 e.term, .int .i64 e.cmd.kind, .int .i64 e.cmd.release, .int .i64 e.cmd.node, .int .i64 e.cmd.size, .str e.cmd.digest] [.int .i64 0, .int .i64 0, .int .i64 0, .int .i64 0, .int .i64 0, .int .i64 0, .int .i64 0, .int .i64 0, .int .i64 0, .str (⟨#[]⟩ : ByteArray)] [.agg [.int .i64 2, .int .i64 0, .int .i64 0, .int .i64 ((s.r.hard.log ++ ([e])).length : Int), .int .i64 e.term, .int .i64 e.cmd.kind, .int .i64 e.cmd.release, .int .i64 e.cmd.node, .int .i64 e.cmd.size, .str e.cmd.digest]] [] (by kernel_rfl) (by kernel_rfl) (by kernel_rfl) (by kernel_rfl) rfl (fun p hp => by cases hp) (by kernel_rfl) ?_
  refine At.append (t := 37) (d := 33) (e := 47) (es := 10) (bytes := 88) (s := .tmp 22) (x := .tmp 32) (S := .ref 5) (T := .ref 132) (xs := (s.recs.map encRec)) (ys := (([(⟨2, 0, 0, ((s.r.hard.log ++ ([e])).length : Int), e⟩ : Rec)]).map encRec)) 133 [5] [132] ((s.recs ++ ([(⟨2, 0, 0, ((s.r.hard.log ++ ([e])).length : Int), e⟩ : Rec)])).map encRec) (by kernel_rfl) (by kernel_rfl) (by kernel_rfl) (by kernel_rfl) ⟨by kernel_rfl, rfl⟩ ⟨by kernel_rfl, .inr rfl⟩ (by kernel_rfl) (by kernel_rfl) (by simp) (by simp only [List.length_map, List.length_append, List.length_take, List.length_drop, List.length_replicate, List.length_set, List.length_cons, List.length_nil]; omega) (by simp only [List.length_map, List.length_append, List.length_take, List.length_drop, List.length_replicate, List.length_set, List.length_cons, List.length_nil]; omega) ?_
  refine At.a 3 ?_
  refine At.done rfl ⟨by kernel_rfl, ?_⟩
  refine ⟨_, Sub.refl _ _, ?_⟩
  refine KF.conv (fun w => .tup []) (fun w => [.box 102 [.int .i64 w.r.id, .int .i64 w.r.of_, .int .i64 w.r.role, .int .i64 w.r.commit, .int .i64 w.r.hard.term, .int .i64 w.r.hard.vote, .ref 7, .ref 2, .ref 3, .ref 4, .int .i64 w.was.id, .int .i64 w.was.of_, .int .i64 w.was.role, .int .i64 w.was.commit, .int .i64 w.was.hard.term, .int .i64 w.was.hard.vote, .sl false 6 (w.was.hard.log.map encEnt), .sl false 1 (w.was.yes.map encI), .sl false 1 (w.was.next.map encI), .sl false 1 (w.was.match_.map encI), .ref 8, .ref 6], .dead, .arr 3 1 (w.r.yes.map encI), .arr 3 1 (w.r.next.map encI), .arr 3 1 (w.r.match_.map encI), .dead, .arr 51 17 (w.outs.map encOut), .arr 45 6 (w.r.hard.log.map encEnt), .arr 47 10 (w.recs.map encRec)]) (show ((⟨⟨s.r.id, s.r.of_, s.r.role, s.r.commit, ⟨s.r.hard.term, s.r.hard.vote, s.r.hard.log ++ ([e])⟩, s.r.yes, s.r.next, s.r.match_⟩, s.was, s.recs ++ ([(⟨2, 0, 0, ((s.r.hard.log ++ ([e])).length : Int), e⟩ : Rec)]), s.outs⟩ : Stepper)) = (({ s with r := ({ s.r with hard := { s.r.hard with log := s.r.hard.log ++ [e] } } : Raft), recs := s.recs ++ [(⟨2, 0, 0, ((s.r.hard.log ++ [e]).length : Int), e⟩ : Rec)] } : Stepper)) from by rfl) ?_
  exact KF.m [(0, 0), (1, 1), (2, 2), (3, 3), (4, 4), (5, 5), (6, 6), (113, 7), (133, 8)] []
set_option maxRecDepth 100000 in
set_option maxHeartbeats 4000000 in
theorem impl_stepper_had_spec  (s : Stepper) (hi : 0 ≤ s.r.id ∧ s.r.id < s.r.match_.length) : FnSpec Tryz.prog 103 [.ptr 0 0 0] [.box 102 [.int .i64 s.r.id, .int .i64 s.r.of_, .int .i64 s.r.role, .int .i64 s.r.commit, .int .i64 s.r.hard.term, .int .i64 s.r.hard.vote, .ref 1, .ref 2, .ref 3, .ref 4, .int .i64 s.was.id, .int .i64 s.was.of_, .int .i64 s.was.role, .int .i64 s.was.commit, .int .i64 s.was.hard.term, .int .i64 s.was.hard.vote, .sl false 6 (s.was.hard.log.map encEnt), .sl false 1 (s.was.yes.map encI), .sl false 1 (s.was.next.map encI), .sl false 1 (s.was.match_.map encI), .ref 5, .ref 6], .arr 45 6 (s.r.hard.log.map encEnt), .arr 3 1 (s.r.yes.map encI), .arr 3 1 (s.r.next.map encI), .arr 3 1 (s.r.match_.map encI), .arr 47 10 (s.recs.map encRec), .arr 51 17 (s.outs.map encOut)] (.tup []) [.box 102 [.int .i64 s.r.id, .int .i64 s.r.of_, .int .i64 s.r.role, .int .i64 (if s.r.of_ = 1 then (s.r.hard.log.length : Int) else s.r.commit), .int .i64 s.r.hard.term, .int .i64 s.r.hard.vote, .ref 1, .ref 2, .ref 3, .ref 4, .int .i64 s.was.id, .int .i64 s.was.of_, .int .i64 s.was.role, .int .i64 s.was.commit, .int .i64 s.was.hard.term, .int .i64 s.was.hard.vote, .sl false 6 (s.was.hard.log.map encEnt), .sl false 1 (s.was.yes.map encI), .sl false 1 (s.was.next.map encI), .sl false 1 (s.was.match_.map encI), .ref 5, .ref 6], .arr 45 6 (s.r.hard.log.map encEnt), .arr 3 1 (s.r.yes.map encI), .arr 3 1 (s.r.next.map encI), .arr 3 1 ((s.r.match_.set (s.r.id).toNat (s.r.hard.log.length : Int)).map encI), .arr 47 10 (s.recs.map encRec), .arr 51 17 (s.outs.map encOut)] := by
  refine FnSpec.of 33 Tryz.func103 rfl Tryz.ntmps103 (by simp) (AW.weakK ?_)
  refine AW.r ?_
  refine At.a 7 ?_
  refine At.sL 9 encEnt s.r.hard.log ?_
  refine At.a 1 ?_
  refine At.done rfl ?_
  refine AW.seq ?_
  refine AW.regionD Tryz_mix (At.start ?_)
  refine At.a 11 ?_
  refine At.iRf 27 21 (.tmp 14) (.tmp 19) 4 (s.r.match_.map encI) .i64 s.r.id 3 1 (by omega) (by simp only [List.length_map, List.length_append, List.length_take, List.length_drop, List.length_replicate, List.length_set, List.length_cons, List.length_nil]; omega) ?_
  refine Exists.elim (show ∃ e, s.r.match_[(s.r.id).toNat]? = some e from ⟨_, List.getElem?_eq_getElem (by omega)⟩) fun e1 he1 => ?_
  refine At.sEl 3 4 3 1 ((s.r.id).toNat) 0 (.tmp 21) (.tmp 20) (s.r.match_.map encI) ((s.r.match_.set ((s.r.id).toNat) (s.r.hard.log.length : Int)).map encI) [.int .i64 (s.r.hard.log.length : Int)] (.int .i64 (s.r.hard.log.length : Int)) (encI e1) (encI (s.r.hard.log.length : Int)) (mapGet he1) setV ?_
  refine At.done rfl ⟨by kernel_rfl, ?_⟩
  refine AW.r ?_
  refine At.a 6 ?_
  refine At.done rfl ?_
  refine AW.cE s.r.of_ (1 : Int) (fun h1 => ?_) (fun h1 => ?_)
  · skip
    refine AW.region (At.start ?_)
    refine At.a 6 ?_
    refine At.done rfl ?_
    refine ⟨_, Sub.refl _ _, ?_⟩
    refine KF.conv (fun w => .tup []) (fun w => [.box 102 [.int .i64 w.r.id, .int .i64 w.r.of_, .int .i64 w.r.role, .int .i64 w.r.commit, .int .i64 w.r.hard.term, .int .i64 w.r.hard.vote, .ref 1, .ref 2, .ref 3, .ref 4, .int .i64 w.was.id, .int .i64 w.was.of_, .int .i64 w.was.role, .int .i64 w.was.commit, .int .i64 w.was.hard.term, .int .i64 w.was.hard.vote, .sl false 6 (w.was.hard.log.map encEnt), .sl false 1 (w.was.yes.map encI), .sl false 1 (w.was.next.map encI), .sl false 1 (w.was.match_.map encI), .ref 5, .ref 6], .arr 45 6 (w.r.hard.log.map encEnt), .arr 3 1 (w.r.yes.map encI), .arr 3 1 (w.r.next.map encI), .arr 3 1 (w.r.match_.map encI), .arr 47 10 (w.recs.map encRec), .arr 51 17 (w.outs.map encOut)]) (show ((⟨⟨s.r.id, s.r.of_, s.r.role, (s.r.hard.log.length : Int), ⟨s.r.hard.term, s.r.hard.vote, s.r.hard.log⟩, s.r.yes, s.r.next, s.r.match_.set ((s.r.id).toNat) (s.r.hard.log.length : Int)⟩, s.was, s.recs, s.outs⟩ : Stepper)) = (({ s with r := ({ s.r with match_ := s.r.match_.set (s.r.id).toNat (s.r.hard.log.length : Int), commit := if s.r.of_ = 1 then (s.r.hard.log.length : Int) else s.r.commit } : Raft) } : Stepper)) from by simp [had, h1]) ?_
    exact KF.m [(0, 0), (1, 1), (2, 2), (3, 3), (4, 4), (5, 5), (6, 6)] []
  · skip
    refine AW.skip ?_
    refine ⟨_, Sub.refl _ _, ?_⟩
    refine KF.conv (fun w => .tup []) (fun w => [.box 102 [.int .i64 w.r.id, .int .i64 w.r.of_, .int .i64 w.r.role, .int .i64 w.r.commit, .int .i64 w.r.hard.term, .int .i64 w.r.hard.vote, .ref 1, .ref 2, .ref 3, .ref 4, .int .i64 w.was.id, .int .i64 w.was.of_, .int .i64 w.was.role, .int .i64 w.was.commit, .int .i64 w.was.hard.term, .int .i64 w.was.hard.vote, .sl false 6 (w.was.hard.log.map encEnt), .sl false 1 (w.was.yes.map encI), .sl false 1 (w.was.next.map encI), .sl false 1 (w.was.match_.map encI), .ref 5, .ref 6], .arr 45 6 (w.r.hard.log.map encEnt), .arr 3 1 (w.r.yes.map encI), .arr 3 1 (w.r.next.map encI), .arr 3 1 (w.r.match_.map encI), .arr 47 10 (w.recs.map encRec), .arr 51 17 (w.outs.map encOut)]) (show ((⟨⟨s.r.id, s.r.of_, s.r.role, s.r.commit, ⟨s.r.hard.term, s.r.hard.vote, s.r.hard.log⟩, s.r.yes, s.r.next, s.r.match_.set ((s.r.id).toNat) (s.r.hard.log.length : Int)⟩, s.was, s.recs, s.outs⟩ : Stepper)) = (({ s with r := ({ s.r with match_ := s.r.match_.set (s.r.id).toNat (s.r.hard.log.length : Int), commit := if s.r.of_ = 1 then (s.r.hard.log.length : Int) else s.r.commit } : Raft) } : Stepper)) from by simp [had, h1]) ?_
    exact KF.m [(0, 0), (1, 1), (2, 2), (3, 3), (4, 4), (5, 5), (6, 6)] []
set_option maxRecDepth 100000 in
set_option maxHeartbeats 4000000 in
theorem impl_stepper_message_spec  (s : Stepper) (kind : Int) : FnSpec Tryz.prog 114 [.ptr 0 0 0, .int .i64 kind] [.box 102 [.int .i64 s.r.id, .int .i64 s.r.of_, .int .i64 s.r.role, .int .i64 s.r.commit, .int .i64 s.r.hard.term, .int .i64 s.r.hard.vote, .ref 1, .ref 2, .ref 3, .ref 4, .int .i64 s.was.id, .int .i64 s.was.of_, .int .i64 s.was.role, .int .i64 s.was.commit, .int .i64 s.was.hard.term, .int .i64 s.was.hard.vote, .sl false 6 (s.was.hard.log.map encEnt), .sl false 1 (s.was.yes.map encI), .sl false 1 (s.was.next.map encI), .sl false 1 (s.was.match_.map encI), .ref 5, .ref 6], .arr 45 6 (s.r.hard.log.map encEnt), .arr 3 1 (s.r.yes.map encI), .arr 3 1 (s.r.next.map encI), .arr 3 1 (s.r.match_.map encI), .arr 47 10 (s.recs.map encRec), .arr 51 17 (s.outs.map encOut)] (.agg [.int .i64 kind, .int .i64 s.r.id, .int .i64 s.r.hard.term, .int .i64 0, .int .i64 0, .int .i64 0, .bool false, .int .i64 0, .int .i64 0, .str (⟨#[]⟩), .int .i64 0, .int .i64 0, .int .i64 0, .int .i64 0, .str (⟨#[]⟩), .ref 7]) [.box 102 [.int .i64 s.r.id, .int .i64 s.r.of_, .int .i64 s.r.role, .int .i64 s.r.commit, .int .i64 s.r.hard.term, .int .i64 s.r.hard.vote, .ref 1, .ref 2, .ref 3, .ref 4, .int .i64 s.was.id, .int .i64 s.was.of_, .int .i64 s.was.role, .int .i64 s.was.commit, .int .i64 s.was.hard.term, .int .i64 s.was.hard.vote, .sl false 6 (s.was.hard.log.map encEnt), .sl false 1 (s.was.yes.map encI), .sl false 1 (s.was.next.map encI), .sl false 1 (s.was.match_.map encI), .ref 5, .ref 6], .arr 45 6 (s.r.hard.log.map encEnt), .arr 3 1 (s.r.yes.map encI), .arr 3 1 (s.r.next.map encI), .arr 3 1 (s.r.match_.map encI), .arr 47 10 (s.recs.map encRec), .arr 51 17 (s.outs.map encOut), .arr 45 6 []] := by
  refine FnSpec.of 18 Tryz.func114 rfl Tryz.ntmps114 (by simp) (AW.weakK ?_)
  refine AW.r ?_
  refine At.a 1 ?_
  refine At.done rfl ?_
  refine AW.seq ?_
  refine AW.weak (Sub.nils [⟨true, 104, some 15, 5001, 45, 6⟩] (by kernel_rfl)) ?_
  refine AW.regionD Tryz_mix (At.start ?_)
  refine At.a 14 ?_
  refine At.done rfl ⟨by kernel_rfl, ?_⟩
  refine AW.ret ?_
  refine ⟨_, Sub.nils [⟨true, 104, some 15, 5002, 45, 6⟩] (by kernel_rfl), ?_⟩
  refine KF.conv (fun w => .agg [.int .i64 w.kind, .int .i64 w.from_, .int .i64 w.term, .int .i64 w.at_, .int .i64 w.atTerm, .int .i64 w.commit, .bool w.yes, .int .i64 w.release, .int .i64 w.part, .str w.bytes, .int .i64 w.cmd.kind, .int .i64 w.cmd.release, .int .i64 w.cmd.node, .int .i64 w.cmd.size, .str w.cmd.digest, .ref 7]) (fun w => [.box 102 [.int .i64 s.r.id, .int .i64 s.r.of_, .int .i64 s.r.role, .int .i64 s.r.commit, .int .i64 s.r.hard.term, .int .i64 s.r.hard.vote, .ref 1, .ref 2, .ref 3, .ref 4, .int .i64 s.was.id, .int .i64 s.was.of_, .int .i64 s.was.role, .int .i64 s.was.commit, .int .i64 s.was.hard.term, .int .i64 s.was.hard.vote, .sl false 6 (s.was.hard.log.map encEnt), .sl false 1 (s.was.yes.map encI), .sl false 1 (s.was.next.map encI), .sl false 1 (s.was.match_.map encI), .ref 5, .ref 6], .arr 45 6 (s.r.hard.log.map encEnt), .arr 3 1 (s.r.yes.map encI), .arr 3 1 (s.r.next.map encI), .arr 3 1 (s.r.match_.map encI), .arr 47 10 (s.recs.map encRec), .arr 51 17 (s.outs.map encOut), .arr 45 6 (w.entries.map encEnt)]) (show ((⟨kind, s.r.id, s.r.hard.term, 0, 0, 0, false, 0, 0, (⟨#[]⟩ : ByteArray), ⟨0, 0, 0, 0, (⟨#[]⟩ : ByteArray)⟩, []⟩ : Msg)) = ((⟨kind, s.r.id, s.r.hard.term, 0, 0, 0, false, 0, 0, ⟨#[]⟩, ⟨0, 0, 0, 0, ⟨#[]⟩⟩, []⟩ : Msg)) from rfl) ?_
  exact KF.m [(0, 0), (1, 1), (2, 2), (3, 3), (4, 4), (5, 5), (6, 6), (5002, 7)] [.agg [.int .i64 kind, .int .i64 s.r.id, .int .i64 s.r.hard.term, .int .i64 0, .int .i64 0, .int .i64 0, .bool false, .int .i64 0, .int .i64 0, .str (⟨#[]⟩ : ByteArray), .int .i64 0, .int .i64 0, .int .i64 0, .int .i64 0, .str (⟨#[]⟩ : ByteArray), .ref 5002]]
set_option maxRecDepth 100000 in
set_option maxHeartbeats 4000000 in
theorem impl_termAt_spec  (l : List Ent) (at_ : Int) (hl : l.length ≤ 1048576) (ha : 0 ≤ at_ ∧ at_ ≤ l.length) : FnSpec Tryz.prog 158 [.sl false 6 (l.map encEnt), .int .i64 at_] [] (.int .i64 (termAt l at_)) [] := by
  refine FnSpec.of 13 Tryz.func158 rfl Tryz.ntmps158 (by simp) (AW.weakK ?_)
  refine AW.r ?_
  refine At.a 1 ?_
  refine At.done rfl ?_
  refine AW.seq ?_
  refine AW.r ?_
  refine At.a 2 ?_
  refine At.done rfl ?_
  refine AW.cE at_ (0 : Int) (fun h1 => ?_) (fun h1 => ?_)
  · skip
    refine AW.r ?_
    refine At.a 1 ?_
    refine At.done rfl ?_
    refine AW.ret ?_
    refine ⟨_, Sub.refl _ _, ?_⟩
    refine KF.conv (fun w => .int .i64 w) (fun w => []) (show (0) = (termAt l at_) from by unfold termAt; first | (rw [if_pos (by omega)]; done) | (rw [if_neg (by omega), he1]; rfl)) ?_
    exact KF.m [] [.int .i64 0]
  · skip
    refine AW.skip ?_
    refine AW.r ?_
    refine At.a 3 ?_
    refine At.sI 9 (at_ - 1) (by omega) ?_
    refine At.iSl 24 10 (.tmp 7) (.tmp 9) false 6 (l.map encEnt) .i64 (at_ - 1) 45 (by omega) (by simp only [List.length_map, List.length_append, List.length_take, List.length_drop, List.length_replicate, List.length_set, List.length_cons, List.length_nil]; omega) ?_
    refine At.a 1 ?_
    refine Exists.elim (show ∃ e, l[(at_ - 1).toNat]? = some e from ⟨_, List.getElem?_eq_getElem (by omega)⟩) fun e1 he1 => ?_
    refine At.lVp 3 12 (.tmp 11) false 6 (l.map encEnt) ((at_ - 1).toNat) 0 false 1 (encEnt e1) (.int .i64 e1.term) (mapGet he1) ?_
    refine At.a 1 ?_
    refine At.done rfl ?_
    refine AW.ret ?_
    refine ⟨_, Sub.refl _ _, ?_⟩
    refine KF.conv (fun w => .int .i64 w) (fun w => []) (show (e1.term) = (termAt l at_) from by unfold termAt; first | (rw [if_pos (by omega)]; done) | (rw [if_neg (by omega), he1]; rfl)) ?_
    exact KF.m [] [.int .i64 e1.term]
set_option maxRecDepth 100000 in
set_option maxHeartbeats 4000000 in
theorem impl_stepper_send_spec  (s : Stepper) (i : Int) (hz : SmallR s.r) (hi : 0 ≤ i ∧ i < s.r.next.length) (hn : NextOk s.r) (ho : s.outs.length ≤ 2000) : FnSpec Tryz.prog 106 [.ptr 0 0 0, .int .i64 i] [.box 102 [.int .i64 s.r.id, .int .i64 s.r.of_, .int .i64 s.r.role, .int .i64 s.r.commit, .int .i64 s.r.hard.term, .int .i64 s.r.hard.vote, .ref 1, .ref 2, .ref 3, .ref 4, .int .i64 s.was.id, .int .i64 s.was.of_, .int .i64 s.was.role, .int .i64 s.was.commit, .int .i64 s.was.hard.term, .int .i64 s.was.hard.vote, .sl false 6 (s.was.hard.log.map encEnt), .sl false 1 (s.was.yes.map encI), .sl false 1 (s.was.next.map encI), .sl false 1 (s.was.match_.map encI), .ref 5, .ref 6], .arr 45 6 (s.r.hard.log.map encEnt), .arr 3 1 (s.r.yes.map encI), .arr 3 1 (s.r.next.map encI), .arr 3 1 (s.r.match_.map encI), .arr 47 10 (s.recs.map encRec), .arr 51 17 (s.outs.map encOut)] (.tup []) [.box 102 [.int .i64 s.r.id, .int .i64 s.r.of_, .int .i64 s.r.role, .int .i64 s.r.commit, .int .i64 s.r.hard.term, .int .i64 s.r.hard.vote, .ref 1, .ref 2, .ref 3, .ref 4, .int .i64 s.was.id, .int .i64 s.was.of_, .int .i64 s.was.role, .int .i64 s.was.commit, .int .i64 s.was.hard.term, .int .i64 s.was.hard.vote, .sl false 6 (s.was.hard.log.map encEnt), .sl false 1 (s.was.yes.map encI), .sl false 1 (s.was.next.map encI), .sl false 1 (s.was.match_.map encI), .ref 5, .ref 7], .arr 45 6 (s.r.hard.log.map encEnt), .arr 3 1 (s.r.yes.map encI), .arr 3 1 (s.r.next.map encI), .arr 3 1 (s.r.match_.map encI), .arr 47 10 (s.recs.map encRec), .dead, .arr 51 17 ((s.outs ++ [sendOf s.r i]).map encOut)] := by
  obtain ⟨z1, z2, z3, z4⟩ := id hz
  refine FnSpec.of 59 Tryz.func106 rfl Tryz.ntmps106 (by simp) (AW.weakK ?_)
  refine AW.r ?_
  refine At.a 7 ?_
  refine At.done rfl ?_
  refine AW.r ?_
  refine At.a 1 ?_
  refine At.c (impl_stepper_message_spec  s 3 ) Tryz.call114 true [(0, 0), (1, 1), (2, 2), (3, 3), (4, 4), (5, 5), (6, 6)] [(1260, 7)] [] trivial ?_
  refine At.a 2 ?_
  refine At.done rfl ?_
  refine AW.r ?_
  refine At.a 6 ?_
  refine At.iRf 27 20 (.tmp 18) (.tmp 19) 3 (s.r.next.map encI) .i64 i 3 1 (by omega) (by simp only [List.length_map, List.length_append, List.length_take, List.length_drop, List.length_replicate, List.length_set, List.length_cons, List.length_nil]; omega) ?_
  refine Exists.elim (show ∃ e, s.r.next[(i).toNat]? = some e from ⟨_, List.getElem?_eq_getElem (by omega)⟩) fun e1 he1 => ?_
  have hxe1 := hn _ (List.mem_of_getElem? he1)
  refine At.lEl 3 21 (.tmp 20) 3 3 1 (s.r.next.map encI) ((i).toNat) 0 false 1 (encI e1) (.int .i64 e1) (mapGet he1) ?_
  refine At.a 1 ?_
  refine At.sI 22 (e1 - 1) (by omega) ?_
  refine At.a 2 ?_
  refine At.done rfl ?_
  refine AW.seq ?_
  refine AW.regionD Tryz_mix (At.start ?_)
  refine At.a 3 ?_
  refine At.c (impl_termAt_spec  s.r.hard.log (e1 - 1) (by omega) (by omega)) Tryz.call158 false [] [] [(1, 6, (s.r.hard.log.map encEnt))] ⟨rfl, ⟨45, (s.r.hard.log.map encEnt), by kernel_rfl, FrzIs.same (allP_encEnt _)⟩, trivial⟩ ?_
  refine At.a 9 ?_
  refine At.done rfl ⟨by kernel_rfl, ?_⟩
  refine AW.r ?_
  refine At.a 6 ?_
  refine At.sJ 40 ((e1 - 1) + 6) (e1 + 5) (by omega) (by omega) ?_
  refine At.a 2 ?_
  refine At.sL 42 encEnt s.r.hard.log ?_
  refine At.mm (d := 43) (b := .min) (x := .tmp 40) (y := .tmp 42) (ats := #[3, 3]) (q := .i64) (m := e1 + 5) (n := (s.r.hard.log.length : Int)) (if (s.r.hard.log.length : Int) < (e1 + 5) then (s.r.hard.log.length : Int) else e1 + 5) (by kernel_rfl) (by kernel_rfl) (by kernel_rfl) (by kernel_rfl) (.inl ⟨rfl, rfl⟩) ?_
  refine At.say 43 (.int .i64 (if (s.r.hard.log.length : Int) < (e1 + 5) then (s.r.hard.log.length : Int) else e1 + 5)) (.int .i64 (min (e1 + 5) (s.r.hard.log.length : Int))) (by kernel_rfl) (congrArg (V.int .i64) (by omega)) ?_
  refine At.sliceRef (t := 24) (d := 44) (e := 45) (es := 6) (i := 1) (x := .tmp 35) (lx := some (.tmp 37)) (hx := some (.tmp 43)) (xs := (s.r.hard.log.map encEnt)) (vl := .int .i64 (e1 - 1)) (vh := .int .i64 (min (e1 + 5) (s.r.hard.log.length : Int))) ((e1 - 1).toNat) ((min (e1 + 5) (s.r.hard.log.length : Int)).toNat) (by kernel_rfl) (by kernel_rfl) (by kernel_rfl) (by kernel_rfl) (by kernel_rfl) (.inr ⟨_, _, rfl, sayNat (by omega)⟩) (.inr ⟨_, _, rfl, sayNat (by omega)⟩) (by omega) (by simp only [List.length_map, List.length_append, List.length_take, List.length_drop, List.length_replicate, List.length_set, List.length_cons, List.length_nil]; omega) ?_
  refine At.call (impl_copyLog_spec  ((s.r.hard.log.drop ((e1 - 1).toNat)).take (((min (e1 + 5) (s.r.hard.log.length : Int)).toNat) - ((e1 - 1).toNat))) (by simp only [List.length_map, List.length_append, List.length_take, List.length_drop, List.length_replicate, List.length_set, List.length_cons, List.length_nil]; omega)) Tryz.call162 false [] [(1900, 0)] [(1, 6, (s.r.hard.log.map encEnt))] (by kernel_rfl) (by kernel_rfl) (Eq.trans (b := [.sl false 6 (((s.r.hard.log.map encEnt).drop ((e1 - 1).toNat)).take (((min (e1 + 5) (s.r.hard.log.length : Int)).toNat) - ((e1 - 1).toNat)))]) (by kernel_rfl) (by simp only [List.map_take, List.map_drop])) (by kernel_rfl) (by kernel_rfl) ⟨rfl, ⟨45, (s.r.hard.log.map encEnt), by kernel_rfl, FrzIs.same (allP_encEnt _)⟩, trivial⟩ ?_
  refine At.a 2 ?_
  refine At.done rfl ?_
  refine AW.regionD Tryz_mix (At.start ?_)
  refine At.a 8 ?_
  refine At.litK (t := 38) (d := 55) (e := 51) (es := 17) (bytes := 168) (n := 1) (parts := #[(0, .tmp 54)]) (45, 6) 155 [1900] [.int .i64 i, .int .i64 3, .int .i64 s.r.id, .int .i64 s.r.hard.term, .int .i64 (e1 - 1), .int .i64 (termAt s.r.hard.log (e1 - 1)), .int .i64 s.r.commit, .bool false, .int .i64 0, .int .i64 0, .str (⟨#[]⟩), .int .i64 0, .int .i64 0, .int .i64 0, .int .i64 0, .str (⟨#[]⟩), .ref 1900] [.int .i64 i, .int .i64 3, .int .i64 s.r.id, .int .i64 s.r.hard.term, .int .i64 (e1 - 1), .int .i64 (termAt s.r.hard.log (e1 - 1)), .int .i64 s.r.commit, .bool false, .int .i64 0, .int .i64 0, .str (⟨#[]⟩), .int .i64 0, .int .i64 0, .int .i64 0, .int .i64 0, .str (⟨#[]⟩), .own 45 6 (((s.r.hard.log.drop ((e1 - 1).toNat)).take (((min (e1 + 5) (s.r.hard.log.length : Int)).toNat) - ((e1 - 1).toNat))).map encEnt)] [.int .i64 0, .int .i64 0, .int .i64 0, .int .i64 0, .int .i64 0, .int .i64 0, .int .i64 0, .bool false, .int .i64 0, .int .i64 0, .str (⟨#[]⟩ : ByteArray), .int .i64 0, .int .i64 0, .int .i64 0, .int .i64 0, .str (⟨#[]⟩ : ByteArray), .nil] [.agg [.int .i64 i, .int .i64 3, .int .i64 s.r.id, .int .i64 s.r.hard.term, .int .i64 (e1 - 1), .int .i64 (termAt s.r.hard.log (e1 - 1)), .int .i64 s.r.commit, .bool false, .int .i64 0, .int .i64 0, .str (⟨#[]⟩), .int .i64 0, .int .i64 0, .int .i64 0, .int .i64 0, .str (⟨#[]⟩), .own 45 6 (((s.r.hard.log.drop ((e1 - 1).toNat)).take (((min (e1 + 5) (s.r.hard.log.length : Int)).toNat) - ((e1 - 1).toNat))).map encEnt)]] [(45, 6, (((s.r.hard.log.drop ((e1 - 1).toNat)).take (((min (e1 + 5) (s.r.hard.log.length : Int)).toNat) - ((e1 - 1).toNat))).map encEnt))] (by kernel_rfl) (by kernel_rfl) (by kernel_rfl) (by kernel_rfl) (by kernel_rfl) (by intro p hp; simp only [List.mem_cons, List.not_mem_nil, or_false] at hp; subst hp; all_goals first | exact flatEnts | (intro x hx; cases hx)) (by kernel_rfl) ?_
  refine At.append (t := 38) (d := 56) (e := 51) (es := 17) (bytes := 168) (s := .tmp 51) (x := .tmp 55) (S := .ref 6) (T := .ref 155) (xs := (s.outs.map encOut)) (ys := (([(⟨i, ⟨3, s.r.id, s.r.hard.term, e1 - 1, termAt s.r.hard.log (e1 - 1), s.r.commit, false, 0, 0, ⟨#[]⟩, ⟨0, 0, 0, 0, ⟨#[]⟩⟩, ((s.r.hard.log.drop ((e1 - 1).toNat)).take (((min (e1 + 5) (s.r.hard.log.length : Int)).toNat) - ((e1 - 1).toNat)))⟩⟩ : Out)]).map encOut)) 156 [6] [155] ((s.outs ++ ([(⟨i, ⟨3, s.r.id, s.r.hard.term, e1 - 1, termAt s.r.hard.log (e1 - 1), s.r.commit, false, 0, 0, ⟨#[]⟩, ⟨0, 0, 0, 0, ⟨#[]⟩⟩, ((s.r.hard.log.drop ((e1 - 1).toNat)).take (((min (e1 + 5) (s.r.hard.log.length : Int)).toNat) - ((e1 - 1).toNat)))⟩⟩ : Out)])).map encOut) (by kernel_rfl) (by kernel_rfl) (by kernel_rfl) (by kernel_rfl) ⟨by kernel_rfl, rfl⟩ ⟨by kernel_rfl, .inr rfl⟩ (by kernel_rfl) (by kernel_rfl) (by simp) (by simp only [List.length_map, List.length_append, List.length_take, List.length_drop, List.length_replicate, List.length_set, List.length_cons, List.length_nil]; omega) (by simp only [List.length_map, List.length_append, List.length_take, List.length_drop, List.length_replicate, List.length_set, List.length_cons, List.length_nil]; omega) ?_
  refine At.a 3 ?_
  refine At.done rfl ⟨by kernel_rfl, ?_⟩
  refine ⟨_, Sub.refl _ _, ?_⟩
  refine KF.conv (fun w => .tup []) (fun w => [.box 102 [.int .i64 w.r.id, .int .i64 w.r.of_, .int .i64 w.r.role, .int .i64 w.r.commit, .int .i64 w.r.hard.term, .int .i64 w.r.hard.vote, .ref 1, .ref 2, .ref 3, .ref 4, .int .i64 w.was.id, .int .i64 w.was.of_, .int .i64 w.was.role, .int .i64 w.was.commit, .int .i64 w.was.hard.term, .int .i64 w.was.hard.vote, .sl false 6 (w.was.hard.log.map encEnt), .sl false 1 (w.was.yes.map encI), .sl false 1 (w.was.next.map encI), .sl false 1 (w.was.match_.map encI), .ref 5, .ref 7], .arr 45 6 (w.r.hard.log.map encEnt), .arr 3 1 (w.r.yes.map encI), .arr 3 1 (w.r.next.map encI), .arr 3 1 (w.r.match_.map encI), .arr 47 10 (w.recs.map encRec), .dead, .arr 51 17 (w.outs.map encOut)]) (show ((⟨s.r, s.was, s.recs, s.outs ++ ([(⟨i, ⟨3, s.r.id, s.r.hard.term, e1 - 1, termAt s.r.hard.log (e1 - 1), s.r.commit, false, 0, 0, ⟨#[]⟩, ⟨0, 0, 0, 0, ⟨#[]⟩⟩, ((s.r.hard.log.drop ((e1 - 1).toNat)).take (((min (e1 + 5) (s.r.hard.log.length : Int)).toNat) - ((e1 - 1).toNat)))⟩⟩ : Out)])⟩ : Stepper)) = (({ s with outs := s.outs ++ [sendOf s.r i] } : Stepper)) from by simp only [sendOf, nextOf, he1, Option.getD_some]; rw [takeMin _ _ 6 _ (by omega)]; rfl) ?_
  exact KF.m [(0, 0), (1, 1), (2, 2), (3, 3), (4, 4), (5, 5), (6, 6), (156, 7)] []
set_option maxRecDepth 100000 in
set_option maxHeartbeats 4000000 in
theorem impl_stepper_sendAll_spec  (s : Stepper) (hz : SmallR s.r) (hf : 0 ≤ s.r.of_ ∧ s.r.of_ ≤ 5) (hx : s.r.of_ ≤ s.r.next.length) (hn : NextOk s.r) (ho : s.outs.length ≤ 1000) : FnSpec Tryz.prog 81 [.ptr 0 0 0] [.box 102 [.int .i64 s.r.id, .int .i64 s.r.of_, .int .i64 s.r.role, .int .i64 s.r.commit, .int .i64 s.r.hard.term, .int .i64 s.r.hard.vote, .ref 1, .ref 2, .ref 3, .ref 4, .int .i64 s.was.id, .int .i64 s.was.of_, .int .i64 s.was.role, .int .i64 s.was.commit, .int .i64 s.was.hard.term, .int .i64 s.was.hard.vote, .sl false 6 (s.was.hard.log.map encEnt), .sl false 1 (s.was.yes.map encI), .sl false 1 (s.was.next.map encI), .sl false 1 (s.was.match_.map encI), .ref 5, .ref 6], .arr 45 6 (s.r.hard.log.map encEnt), .arr 3 1 (s.r.yes.map encI), .arr 3 1 (s.r.next.map encI), .arr 3 1 (s.r.match_.map encI), .arr 47 10 (s.recs.map encRec), .arr 51 17 (s.outs.map encOut)] (.tup []) [.box 102 [.int .i64 s.r.id, .int .i64 s.r.of_, .int .i64 s.r.role, .int .i64 s.r.commit, .int .i64 s.r.hard.term, .int .i64 s.r.hard.vote, .ref 1, .ref 2, .ref 3, .ref 4, .int .i64 s.was.id, .int .i64 s.was.of_, .int .i64 s.was.role, .int .i64 s.was.commit, .int .i64 s.was.hard.term, .int .i64 s.was.hard.vote, .sl false 6 (s.was.hard.log.map encEnt), .sl false 1 (s.was.yes.map encI), .sl false 1 (s.was.next.map encI), .sl false 1 (s.was.match_.map encI), .ref 5, .ref 7], .arr 45 6 (s.r.hard.log.map encEnt), .arr 3 1 (s.r.yes.map encI), .arr 3 1 (s.r.next.map encI), .arr 3 1 (s.r.match_.map encI), .arr 47 10 (s.recs.map encRec), .dead, .arr 51 17 ((s.outs ++ sendAll s.r).map encOut)] := by
  obtain ⟨z1, z2, z3, z4⟩ := id hz
  refine FnSpec.of 22 Tryz.func81 rfl Tryz.ntmps81 (by simp) (AW.weakK ?_)
  refine AW.r ?_
  refine At.a 6 ?_
  refine At.done rfl ?_
  refine AW.block ?_
  refine AW.weak (Sub.mv 6 7000 (by kernel_rfl) (by decide)) ?_
  refine AW.loopW (fun (x : Nat × List Out) => match x with | (k, o) => Go.Sy.mk [.ptr 0 0 0, .un, .un, .un, .un, .un, .un, .int .i64 s.r.of_, .int .i64 (k : Int)] [(0, .box 102 [.int .i64 s.r.id, .int .i64 s.r.of_, .int .i64 s.r.role, .int .i64 s.r.commit, .int .i64 s.r.hard.term, .int .i64 s.r.hard.vote, .ref 1, .ref 2, .ref 3, .ref 4, .int .i64 s.was.id, .int .i64 s.was.of_, .int .i64 s.was.role, .int .i64 s.was.commit, .int .i64 s.was.hard.term, .int .i64 s.was.hard.vote, .sl false 6 (s.was.hard.log.map encEnt), .sl false 1 (s.was.yes.map encI), .sl false 1 (s.was.next.map encI), .sl false 1 (s.was.match_.map encI), .ref 5, .ref 7000]), (1, .arr 45 6 (s.r.hard.log.map encEnt)), (2, .arr 3 1 (s.r.yes.map encI)), (3, .arr 3 1 (s.r.next.map encI)), (4, .arr 3 1 (s.r.match_.map encI)), (5, .arr 47 10 (s.recs.map encRec)), (6, .dead), (7000, .arr 51 17 (o.map encOut))]) (fun (x : Nat × List Out) => match x with | (k, o) => (k : Int) ≤ s.r.of_ ∧ o = s.outs ++ sendUp s.r k) (fun (x : Nat × List Out) => match x with | (k, o) => s.r.of_.toNat - k) (0, s.outs) ⟨by omega, by simp [sendUp]⟩ (Sub.o [(0, 0), (1, 1), (2, 2), (3, 3), (4, 4), (5, 5), (6, 6), (7000, 7000)] [true, false, false, false, false, false, false, true, true]) ?_
  rintro ⟨k, o⟩ ⟨hk, hR⟩
  have hlen := sendUp_len s.r k
  have hlen2 := congrArg List.length hR
  try rw [List.length_append] at hlen2
  refine AW.r ?_
  refine At.a 1 ?_
  refine At.done rfl ?_
  refine AW.seq ?_
  refine AW.cD ((k : Int) < s.r.of_) (fun h1 => ?_) (fun h1 => ?_)
  · skip
    refine AW.skip ?_
    refine AW.seq ?_
    refine AW.block ?_
    refine AW.r ?_
    refine At.a 2 ?_
    refine At.done rfl ?_
    refine AW.r ?_
    refine At.a 7 ?_
    refine At.done rfl ?_
    refine AW.cU (k : Int) s.r.id (fun h2 => ?_) (fun h2 => ?_)
    · skip
      refine AW.region (At.start ?_)
      refine At.a 2 ?_
      refine At.c (impl_stepper_send_spec  (⟨s.r, s.was, s.recs, o⟩ : Stepper) (k : Int) hz (by dsimp only; omega) hn (by dsimp only; omega)) Tryz.call106 true [(0, 0), (1, 1), (2, 2), (3, 3), (4, 4), (5, 5), (7000, 6)] [(1400, 7)] [] trivial ?_
      refine At.done rfl ?_
      refine AW.region (At.start ?_)
      refine At.a 1 ?_
      refine At.sI 21 ((k : Int) + 1) (by omega) ?_
      refine At.a 1 ?_
      refine At.done rfl ?_
      exact ⟨(k + 1, (o ++ [sendOf s.r (k : Int)])), ⟨by omega, by rw [hR, sendUp, if_neg (by grind)]; (try rw [termAt_end]); first | rfl | exact List.append_assoc _ _ _⟩, (by simp only; omega), Sub.o [(0, 0), (1, 1), (2, 2), (3, 3), (4, 4), (5, 5), (6, 6), (1400, 7000)] [true, false, false, false, false, false, false, true, true]⟩
    · skip
      refine AW.skip ?_
      refine AW.region (At.start ?_)
      refine At.a 1 ?_
      refine At.sI 21 ((k : Int) + 1) (by omega) ?_
      refine At.a 1 ?_
      refine At.done rfl ?_
      exact ⟨(k + 1, o), ⟨by omega, by rw [hR, sendUp, if_pos (by grind)]; simp⟩, (by simp only; omega), Sub.o [(0, 0), (1, 1), (2, 2), (3, 3), (4, 4), (5, 5), (6, 6), (7000, 7000)] [true, false, false, false, false, false, false, true, true]⟩
  · skip
    refine AW.exit ?_
    refine ⟨_, Sub.refl _ _, ?_⟩
    refine KF.conv (fun w => .tup []) (fun w => [.box 102 [.int .i64 w.r.id, .int .i64 w.r.of_, .int .i64 w.r.role, .int .i64 w.r.commit, .int .i64 w.r.hard.term, .int .i64 w.r.hard.vote, .ref 1, .ref 2, .ref 3, .ref 4, .int .i64 w.was.id, .int .i64 w.was.of_, .int .i64 w.was.role, .int .i64 w.was.commit, .int .i64 w.was.hard.term, .int .i64 w.was.hard.vote, .sl false 6 (w.was.hard.log.map encEnt), .sl false 1 (w.was.yes.map encI), .sl false 1 (w.was.next.map encI), .sl false 1 (w.was.match_.map encI), .ref 5, .ref 7], .arr 45 6 (w.r.hard.log.map encEnt), .arr 3 1 (w.r.yes.map encI), .arr 3 1 (w.r.next.map encI), .arr 3 1 (w.r.match_.map encI), .arr 47 10 (w.recs.map encRec), .dead, .arr 51 17 (w.outs.map encOut)]) (show ((⟨s.r, s.was, s.recs, o⟩ : Stepper)) = (({ s with outs := s.outs ++ sendAll s.r } : Stepper)) from by rw [hR, sendAll, show s.r.of_.toNat = k from by omega]) ?_
    exact KF.m [(0, 0), (1, 1), (2, 2), (3, 3), (4, 4), (5, 5), (6, 6), (7000, 7)] []
set_option maxRecDepth 100000 in
set_option maxHeartbeats 4000000 in
theorem impl_stepper_lead_T_spec  (s : Stepper) (hz : SmallR s.r) (hf : 0 ≤ s.r.of_ ∧ s.r.of_ ≤ 5) (hi : 0 ≤ s.r.id ∧ s.r.id < s.r.of_) (ho : s.outs.length ≤ 1000) (hr : s.recs.length ≤ 1000) (hlt : s.r.hard.log.length < 80) : FnSpec Tryz.prog 96 [.ptr 0 0 0] [.box 102 [.int .i64 s.r.id, .int .i64 s.r.of_, .int .i64 s.r.role, .int .i64 s.r.commit, .int .i64 s.r.hard.term, .int .i64 s.r.hard.vote, .ref 1, .ref 2, .ref 3, .ref 4, .int .i64 s.was.id, .int .i64 s.was.of_, .int .i64 s.was.role, .int .i64 s.was.commit, .int .i64 s.was.hard.term, .int .i64 s.was.hard.vote, .sl false 6 (s.was.hard.log.map encEnt), .sl false 1 (s.was.yes.map encI), .sl false 1 (s.was.next.map encI), .sl false 1 (s.was.match_.map encI), .ref 5, .ref 6], .arr 45 6 (s.r.hard.log.map encEnt), .arr 3 1 (s.r.yes.map encI), .arr 3 1 (s.r.next.map encI), .arr 3 1 (s.r.match_.map encI), .arr 47 10 (s.recs.map encRec), .arr 51 17 (s.outs.map encOut)] (.tup []) [.box 102 [.int .i64 ((leadR s.r).id), .int .i64 ((leadR s.r).of_), .int .i64 ((leadR s.r).role), .int .i64 ((leadR s.r).commit), .int .i64 ((leadR s.r).hard.term), .int .i64 ((leadR s.r).hard.vote), .ref 7, .ref 8, .ref 9, .ref 10, .int .i64 s.was.id, .int .i64 s.was.of_, .int .i64 s.was.role, .int .i64 s.was.commit, .int .i64 s.was.hard.term, .int .i64 s.was.hard.vote, .sl false 6 (s.was.hard.log.map encEnt), .sl false 1 (s.was.yes.map encI), .sl false 1 (s.was.next.map encI), .sl false 1 (s.was.match_.map encI), .ref 11, .ref 12], .dead, .dead, .dead, .dead, .dead, .dead, .arr 45 6 (((leadR s.r).hard.log).map encEnt), .arr 3 1 (((leadR s.r).yes).map encI), .arr 3 1 (((leadR s.r).next).map encI), .arr 3 1 (((leadR s.r).match_).map encI), .arr 47 10 ((s.recs ++ leadRecs s.r).map encRec), .arr 51 17 ((s.outs ++ sendAll (leadR s.r)).map encOut)] := by
  obtain ⟨z1, z2, z3, z4⟩ := id hz
  refine FnSpec.of 57 Tryz.func96 rfl Tryz.ntmps96 (by simp) (AW.weakK ?_)
  refine AW.r ?_
  refine At.a 7 ?_
  refine At.sL 9 encEnt s.r.hard.log ?_
  refine At.a 1 ?_
  refine At.done rfl ?_
  refine AW.r ?_
  refine At.a 10 ?_
  refine At.done rfl ?_
  refine AW.seq ?_
  refine AW.weak (Sub.nils [⟨true, 0, some 7, 5001, 3, 1⟩] (by kernel_rfl)) ?_
  refine AW.regionD Tryz_mix (At.start ?_)
  refine At.a 4 ?_
  refine At.sI 21 ((s.r.hard.log.length : Int) + 1) (by omega) ?_
  refine At.litK (t := 27) (d := 22) (e := 3) (es := 1) (bytes := 8) (n := 1) (parts := #[(0, .tmp 21)]) (45, 6) 122 [] [.int .i64 ((s.r.hard.log.length : Int) + 1)] [.int .i64 ((s.r.hard.log.length : Int) + 1)] [.int .i64 0] [.int .i64 ((s.r.hard.log.length : Int) + 1)] [] (by kernel_rfl) (by kernel_rfl) (by kernel_rfl) (by kernel_rfl) rfl (fun p hp => by cases hp) (by kernel_rfl) ?_
  refine At.a 5 ?_
  refine At.c (slices_Repeat_spec  ([(s.r.hard.log.length : Int) + 1]) s.r.of_ rfl (by omega)) Tryz.call159 false [] [(1560, 0)] [(122, 1, (([(s.r.hard.log.length : Int) + 1]).map encI))] ⟨rfl, ⟨3, (([(s.r.hard.log.length : Int) + 1]).map encI), by kernel_rfl, FrzIs.same (allP_encI _)⟩, trivial⟩ ?_
  refine At.a 5 ?_
  refine At.say 33 (.int .i64 s.r.of_) (.int .i64 (((s.r.of_).toNat : Nat) : Int)) (by kernel_rfl) (congrArg (V.int .i64) (Int.toNat_of_nonneg (by omega)).symm) ?_
  refine At.make (t := 27) (d := 34) (e := 3) (es := 1) (bytes := 8) (x := .tmp 33) (y := .tmp 33) (ka := .i64) (kb := .i64) (zs := [.int .i64 0]) 134 ((s.r.of_).toNat) ((List.replicate ((s.r.of_).toNat) 0).map encI) (by kernel_rfl) (by kernel_rfl) (by kernel_rfl) (by kernel_rfl) (by kernel_rfl) (by omega) (by omega) (by rw [List.map_replicate]; rfl) ?_
  refine At.a 8 ?_
  refine At.done rfl ⟨by kernel_rfl, ?_⟩
  refine AW.seq ?_
  refine AW.r ?_
  refine At.a 2 ?_
  refine At.done rfl ?_
  refine AW.condT (decide ((s.r.hard.log.length : Int) < 80)) (by kernel_rfl) (decide_eq_true (by omega)) ?_
  refine AW.region (At.start ?_)
  refine At.a 9 ?_
  refine At.c (impl_stepper_put_spec  (⟨⟨s.r.id, s.r.of_, 3, s.r.commit, ⟨s.r.hard.term, s.r.hard.vote, s.r.hard.log⟩, [], repl ([(s.r.hard.log.length : Int) + 1]) s.r.of_, List.replicate ((s.r.of_).toNat) 0⟩, s.was, s.recs, s.outs⟩ : Stepper) (⟨s.r.hard.term, ⟨1, 0, 0, 0, (⟨#[]⟩ : ByteArray)⟩⟩ : Ent) (by dsimp only; omega) (by dsimp only; omega)) Tryz.call102 true [(0, 0), (1, 1), (5001, 2), (1560, 3), (134, 4), (5, 5), (6, 6)] [(2040, 7), (2041, 8)] [] trivial ?_
  refine At.done rfl ?_
  refine AW.r ?_
  refine At.a 1 ?_
  refine At.c (impl_stepper_had_spec  (⟨⟨s.r.id, s.r.of_, 3, s.r.commit, ⟨s.r.hard.term, s.r.hard.vote, s.r.hard.log ++ [(⟨s.r.hard.term, ⟨1, 0, 0, 0, (⟨#[]⟩ : ByteArray)⟩⟩ : Ent)]⟩, [], repl ([(s.r.hard.log.length : Int) + 1]) s.r.of_, List.replicate ((s.r.of_).toNat) 0⟩, s.was, s.recs ++ [(⟨2, 0, 0, ((s.r.hard.log ++ [(⟨s.r.hard.term, ⟨1, 0, 0, 0, (⟨#[]⟩ : ByteArray)⟩⟩ : Ent)]).length : Int), (⟨s.r.hard.term, ⟨1, 0, 0, 0, (⟨#[]⟩ : ByteArray)⟩⟩ : Ent)⟩ : Rec)], s.outs⟩ : Stepper) (by dsimp only; simp only [List.length_replicate]; omega)) Tryz.call103 true [(0, 0), (2040, 1), (5001, 2), (1560, 3), (134, 4), (2041, 5), (6, 6)] [] [] trivial ?_
  refine At.done rfl ?_
  refine AW.region (At.start ?_)
  refine At.a 1 ?_
  refine At.c (impl_stepper_sendAll_spec  (⟨⟨s.r.id, s.r.of_, 3, if s.r.of_ = 1 then ((s.r.hard.log ++ [(⟨s.r.hard.term, ⟨1, 0, 0, 0, (⟨#[]⟩ : ByteArray)⟩⟩ : Ent)]).length : Int) else s.r.commit, ⟨s.r.hard.term, s.r.hard.vote, s.r.hard.log ++ [(⟨s.r.hard.term, ⟨1, 0, 0, 0, (⟨#[]⟩ : ByteArray)⟩⟩ : Ent)]⟩, [], repl ([(s.r.hard.log.length : Int) + 1]) s.r.of_, (List.replicate ((s.r.of_).toNat) 0).set (s.r.id).toNat ((s.r.hard.log ++ [(⟨s.r.hard.term, ⟨1, 0, 0, 0, (⟨#[]⟩ : ByteArray)⟩⟩ : Ent)]).length : Int)⟩, s.was, s.recs ++ [(⟨2, 0, 0, ((s.r.hard.log ++ [(⟨s.r.hard.term, ⟨1, 0, 0, 0, (⟨#[]⟩ : ByteArray)⟩⟩ : Ent)]).length : Int), (⟨s.r.hard.term, ⟨1, 0, 0, 0, (⟨#[]⟩ : ByteArray)⟩⟩ : Ent)⟩ : Rec)], s.outs⟩ : Stepper) (by unfold SmallR; simp only [repl, List.length_append, List.length_set, List.length_replicate, List.length_cons, List.length_nil]; omega) (by dsimp only; omega) (by dsimp only; simp only [repl, List.length_replicate]; omega) (nextOk_repl rfl ⟨by omega, by dsimp only; (try simp only [List.length_append]); omega⟩) (by omega)) Tryz.call81 true [(0, 0), (2040, 1), (5001, 2), (1560, 3), (134, 4), (2041, 5), (6, 6)] [(2120, 7)] [] trivial ?_
  refine At.done rfl ?_
  refine ⟨_, (Sub.trans (Sub.trans (Sub.trans (Sub.refl _ _) (Sub.mv 2 8002 (by kernel_rfl) (by decide))) (Sub.mv 3 8003 (by kernel_rfl) (by decide))) (Sub.mv 4 8004 (by kernel_rfl) (by decide))), ?_⟩
  refine KF.conv (fun w => .tup []) (fun w => [.box 102 [.int .i64 w.r.id, .int .i64 w.r.of_, .int .i64 w.r.role, .int .i64 w.r.commit, .int .i64 w.r.hard.term, .int .i64 w.r.hard.vote, .ref 7, .ref 8, .ref 9, .ref 10, .int .i64 w.was.id, .int .i64 w.was.of_, .int .i64 w.was.role, .int .i64 w.was.commit, .int .i64 w.was.hard.term, .int .i64 w.was.hard.vote, .sl false 6 (w.was.hard.log.map encEnt), .sl false 1 (w.was.yes.map encI), .sl false 1 (w.was.next.map encI), .sl false 1 (w.was.match_.map encI), .ref 11, .ref 12], .dead, .dead, .dead, .dead, .dead, .dead, .arr 45 6 (w.r.hard.log.map encEnt), .arr 3 1 (w.r.yes.map encI), .arr 3 1 (w.r.next.map encI), .arr 3 1 (w.r.match_.map encI), .arr 47 10 (w.recs.map encRec), .arr 51 17 (w.outs.map encOut)]) (show ((⟨⟨s.r.id, s.r.of_, 3, if s.r.of_ = 1 then ((s.r.hard.log ++ [(⟨s.r.hard.term, ⟨1, 0, 0, 0, (⟨#[]⟩ : ByteArray)⟩⟩ : Ent)]).length : Int) else s.r.commit, ⟨s.r.hard.term, s.r.hard.vote, s.r.hard.log ++ [(⟨s.r.hard.term, ⟨1, 0, 0, 0, (⟨#[]⟩ : ByteArray)⟩⟩ : Ent)]⟩, [], repl ([(s.r.hard.log.length : Int) + 1]) s.r.of_, (List.replicate ((s.r.of_).toNat) 0).set (s.r.id).toNat ((s.r.hard.log ++ [(⟨s.r.hard.term, ⟨1, 0, 0, 0, (⟨#[]⟩ : ByteArray)⟩⟩ : Ent)]).length : Int)⟩, s.was, s.recs ++ [(⟨2, 0, 0, ((s.r.hard.log ++ [(⟨s.r.hard.term, ⟨1, 0, 0, 0, (⟨#[]⟩ : ByteArray)⟩⟩ : Ent)]).length : Int), (⟨s.r.hard.term, ⟨1, 0, 0, 0, (⟨#[]⟩ : ByteArray)⟩⟩ : Ent)⟩ : Rec)], s.outs ++ sendAll (⟨s.r.id, s.r.of_, 3, if s.r.of_ = 1 then ((s.r.hard.log ++ [(⟨s.r.hard.term, ⟨1, 0, 0, 0, (⟨#[]⟩ : ByteArray)⟩⟩ : Ent)]).length : Int) else s.r.commit, ⟨s.r.hard.term, s.r.hard.vote, s.r.hard.log ++ [(⟨s.r.hard.term, ⟨1, 0, 0, 0, (⟨#[]⟩ : ByteArray)⟩⟩ : Ent)]⟩, [], repl ([(s.r.hard.log.length : Int) + 1]) s.r.of_, (List.replicate ((s.r.of_).toNat) 0).set (s.r.id).toNat ((s.r.hard.log ++ [(⟨s.r.hard.term, ⟨1, 0, 0, 0, (⟨#[]⟩ : ByteArray)⟩⟩ : Ent)]).length : Int)⟩)⟩ : Stepper)) = (({ s with r := leadR s.r, recs := s.recs ++ leadRecs s.r, outs := s.outs ++ sendAll (leadR s.r) } : Stepper)) from by simp [leadR, leadRecs, had, put, lead0, noneE, putRec, repl, hlt, and_true] <;> first | rfl | exact ⟨rfl, rfl⟩) ?_
  exact KF.m [(0, 0), (1, 1), (2, 2), (3, 3), (4, 4), (5, 5), (6, 6), (2040, 7), (5001, 8), (1560, 9), (134, 10), (2041, 11), (2120, 12)] []
set_option maxRecDepth 100000 in
set_option maxHeartbeats 4000000 in
theorem impl_stepper_lead_F_spec  (s : Stepper) (hz : SmallR s.r) (hf : 0 ≤ s.r.of_ ∧ s.r.of_ ≤ 5) (hi : 0 ≤ s.r.id ∧ s.r.id < s.r.of_) (ho : s.outs.length ≤ 1000) (hr : s.recs.length ≤ 1000) (hlt : ¬ s.r.hard.log.length < 80) : FnSpec Tryz.prog 96 [.ptr 0 0 0] [.box 102 [.int .i64 s.r.id, .int .i64 s.r.of_, .int .i64 s.r.role, .int .i64 s.r.commit, .int .i64 s.r.hard.term, .int .i64 s.r.hard.vote, .ref 1, .ref 2, .ref 3, .ref 4, .int .i64 s.was.id, .int .i64 s.was.of_, .int .i64 s.was.role, .int .i64 s.was.commit, .int .i64 s.was.hard.term, .int .i64 s.was.hard.vote, .sl false 6 (s.was.hard.log.map encEnt), .sl false 1 (s.was.yes.map encI), .sl false 1 (s.was.next.map encI), .sl false 1 (s.was.match_.map encI), .ref 5, .ref 6], .arr 45 6 (s.r.hard.log.map encEnt), .arr 3 1 (s.r.yes.map encI), .arr 3 1 (s.r.next.map encI), .arr 3 1 (s.r.match_.map encI), .arr 47 10 (s.recs.map encRec), .arr 51 17 (s.outs.map encOut)] (.tup []) [.box 102 [.int .i64 ((leadR s.r).id), .int .i64 ((leadR s.r).of_), .int .i64 ((leadR s.r).role), .int .i64 ((leadR s.r).commit), .int .i64 ((leadR s.r).hard.term), .int .i64 ((leadR s.r).hard.vote), .ref 1, .ref 7, .ref 8, .ref 9, .int .i64 s.was.id, .int .i64 s.was.of_, .int .i64 s.was.role, .int .i64 s.was.commit, .int .i64 s.was.hard.term, .int .i64 s.was.hard.vote, .sl false 6 (s.was.hard.log.map encEnt), .sl false 1 (s.was.yes.map encI), .sl false 1 (s.was.next.map encI), .sl false 1 (s.was.match_.map encI), .ref 5, .ref 10], .arr 45 6 (((leadR s.r).hard.log).map encEnt), .dead, .dead, .dead, .arr 47 10 ((s.recs ++ leadRecs s.r).map encRec), .dead, .arr 3 1 (((leadR s.r).yes).map encI), .arr 3 1 (((leadR s.r).next).map encI), .arr 3 1 (((leadR s.r).match_).map encI), .arr 51 17 ((s.outs ++ sendAll (leadR s.r)).map encOut)] := by
  obtain ⟨z1, z2, z3, z4⟩ := id hz
  refine FnSpec.of 57 Tryz.func96 rfl Tryz.ntmps96 (by simp) (AW.weakK ?_)
  refine AW.r ?_
  refine At.a 7 ?_
  refine At.sL 9 encEnt s.r.hard.log ?_
  refine At.a 1 ?_
  refine At.done rfl ?_
  refine AW.r ?_
  refine At.a 10 ?_
  refine At.done rfl ?_
  refine AW.seq ?_
  refine AW.weak (Sub.nils [⟨true, 0, some 7, 5001, 3, 1⟩] (by kernel_rfl)) ?_
  refine AW.regionD Tryz_mix (At.start ?_)
  refine At.a 4 ?_
  refine At.sI 21 ((s.r.hard.log.length : Int) + 1) (by omega) ?_
  refine At.litK (t := 27) (d := 22) (e := 3) (es := 1) (bytes := 8) (n := 1) (parts := #[(0, .tmp 21)]) (45, 6) 122 [] [.int .i64 ((s.r.hard.log.length : Int) + 1)] [.int .i64 ((s.r.hard.log.length : Int) + 1)] [.int .i64 0] [.int .i64 ((s.r.hard.log.length : Int) + 1)] [] (by kernel_rfl) (by kernel_rfl) (by kernel_rfl) (by kernel_rfl) rfl (fun p hp => by cases hp) (by kernel_rfl) ?_
  refine At.a 5 ?_
  refine At.c (slices_Repeat_spec  ([(s.r.hard.log.length : Int) + 1]) s.r.of_ rfl (by omega)) Tryz.call159 false [] [(1560, 0)] [(122, 1, (([(s.r.hard.log.length : Int) + 1]).map encI))] ⟨rfl, ⟨3, (([(s.r.hard.log.length : Int) + 1]).map encI), by kernel_rfl, FrzIs.same (allP_encI _)⟩, trivial⟩ ?_
  refine At.a 5 ?_
  refine At.say 33 (.int .i64 s.r.of_) (.int .i64 (((s.r.of_).toNat : Nat) : Int)) (by kernel_rfl) (congrArg (V.int .i64) (Int.toNat_of_nonneg (by omega)).symm) ?_
  refine At.make (t := 27) (d := 34) (e := 3) (es := 1) (bytes := 8) (x := .tmp 33) (y := .tmp 33) (ka := .i64) (kb := .i64) (zs := [.int .i64 0]) 134 ((s.r.of_).toNat) ((List.replicate ((s.r.of_).toNat) 0).map encI) (by kernel_rfl) (by kernel_rfl) (by kernel_rfl) (by kernel_rfl) (by kernel_rfl) (by omega) (by omega) (by rw [List.map_replicate]; rfl) ?_
  refine At.a 8 ?_
  refine At.done rfl ⟨by kernel_rfl, ?_⟩
  refine AW.seq ?_
  refine AW.r ?_
  refine At.a 2 ?_
  refine At.done rfl ?_
  refine AW.condF (decide ((s.r.hard.log.length : Int) < 80)) (by kernel_rfl) (decide_eq_false (by omega)) ?_
  refine AW.skip ?_
  refine AW.r ?_
  refine At.a 1 ?_
  refine At.c (impl_stepper_had_spec  (⟨⟨s.r.id, s.r.of_, 3, s.r.commit, ⟨s.r.hard.term, s.r.hard.vote, s.r.hard.log⟩, [], repl ([(s.r.hard.log.length : Int) + 1]) s.r.of_, List.replicate ((s.r.of_).toNat) 0⟩, s.was, s.recs, s.outs⟩ : Stepper) (by dsimp only; simp only [List.length_replicate]; omega)) Tryz.call103 true [(0, 0), (1, 1), (5001, 2), (1560, 3), (134, 4), (5, 5), (6, 6)] [] [] trivial ?_
  refine At.done rfl ?_
  refine AW.region (At.start ?_)
  refine At.a 1 ?_
  refine At.c (impl_stepper_sendAll_spec  (⟨⟨s.r.id, s.r.of_, 3, if s.r.of_ = 1 then (s.r.hard.log.length : Int) else s.r.commit, ⟨s.r.hard.term, s.r.hard.vote, s.r.hard.log⟩, [], repl ([(s.r.hard.log.length : Int) + 1]) s.r.of_, (List.replicate ((s.r.of_).toNat) 0).set (s.r.id).toNat (s.r.hard.log.length : Int)⟩, s.was, s.recs, s.outs⟩ : Stepper) (by unfold SmallR; simp only [repl, List.length_append, List.length_set, List.length_replicate, List.length_cons, List.length_nil]; omega) (by dsimp only; omega) (by dsimp only; simp only [repl, List.length_replicate]; omega) (nextOk_repl rfl ⟨by omega, by dsimp only; (try simp only [List.length_append]); omega⟩) (by omega)) Tryz.call81 true [(0, 0), (1, 1), (5001, 2), (1560, 3), (134, 4), (5, 5), (6, 6)] [(2120, 7)] [] trivial ?_
  refine At.done rfl ?_
  refine ⟨_, (Sub.trans (Sub.trans (Sub.trans (Sub.refl _ _) (Sub.mv 2 8002 (by kernel_rfl) (by decide))) (Sub.mv 3 8003 (by kernel_rfl) (by decide))) (Sub.mv 4 8004 (by kernel_rfl) (by decide))), ?_⟩
  refine KF.conv (fun w => .tup []) (fun w => [.box 102 [.int .i64 w.r.id, .int .i64 w.r.of_, .int .i64 w.r.role, .int .i64 w.r.commit, .int .i64 w.r.hard.term, .int .i64 w.r.hard.vote, .ref 1, .ref 7, .ref 8, .ref 9, .int .i64 w.was.id, .int .i64 w.was.of_, .int .i64 w.was.role, .int .i64 w.was.commit, .int .i64 w.was.hard.term, .int .i64 w.was.hard.vote, .sl false 6 (w.was.hard.log.map encEnt), .sl false 1 (w.was.yes.map encI), .sl false 1 (w.was.next.map encI), .sl false 1 (w.was.match_.map encI), .ref 5, .ref 10], .arr 45 6 (w.r.hard.log.map encEnt), .dead, .dead, .dead, .arr 47 10 (w.recs.map encRec), .dead, .arr 3 1 (w.r.yes.map encI), .arr 3 1 (w.r.next.map encI), .arr 3 1 (w.r.match_.map encI), .arr 51 17 (w.outs.map encOut)]) (show ((⟨⟨s.r.id, s.r.of_, 3, if s.r.of_ = 1 then (s.r.hard.log.length : Int) else s.r.commit, ⟨s.r.hard.term, s.r.hard.vote, s.r.hard.log⟩, [], repl ([(s.r.hard.log.length : Int) + 1]) s.r.of_, (List.replicate ((s.r.of_).toNat) 0).set (s.r.id).toNat (s.r.hard.log.length : Int)⟩, s.was, s.recs, s.outs ++ sendAll (⟨s.r.id, s.r.of_, 3, if s.r.of_ = 1 then (s.r.hard.log.length : Int) else s.r.commit, ⟨s.r.hard.term, s.r.hard.vote, s.r.hard.log⟩, [], repl ([(s.r.hard.log.length : Int) + 1]) s.r.of_, (List.replicate ((s.r.of_).toNat) 0).set (s.r.id).toNat (s.r.hard.log.length : Int)⟩)⟩ : Stepper)) = (({ s with r := leadR s.r, recs := s.recs ++ leadRecs s.r, outs := s.outs ++ sendAll (leadR s.r) } : Stepper)) from by simp [leadR, leadRecs, had, put, lead0, noneE, putRec, repl, hlt, and_true] <;> first | rfl | exact ⟨rfl, rfl⟩) ?_
  exact KF.m [(0, 0), (1, 1), (2, 2), (3, 3), (4, 4), (5, 5), (6, 6), (5001, 7), (1560, 8), (134, 9), (2120, 10)] []
end Go.Proofs.YtlmadhahghiedaaGreat
