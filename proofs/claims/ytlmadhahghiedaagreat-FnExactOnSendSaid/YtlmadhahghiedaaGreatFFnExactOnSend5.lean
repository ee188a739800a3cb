/- The contracts of the functions that FnExactOnSend reaches (each: what it answers, said over values), printed by a program of this session (wip/sy/g/gen.py). -/
import Derived.Test.YtlmadhahghiedaaGreatFFnExactOnSend4
set_option linter.unusedVariables false
set_option linter.unusedSimpArgs false
namespace Go.Proofs.YtlmadhahghiedaaGreat
open Go Go.Sy Go.Proofs
set_option maxRecDepth 100000 in
set_option maxHeartbeats 4000000 in
theorem impl_stepper_none_spec  (s : Stepper) (hz : SmallR s.was) : FnSpec Tryz.prog 88 [.ptr 0 0 0] [.box 102 [.int .i64 s.r.id, .int .i64 s.r.of_, .int .i64 s.r.role, .int .i64 s.r.commit, .int .i64 s.r.hard.term, .int .i64 s.r.hard.vote, .ref 1, .ref 2, .ref 3, .ref 4, .int .i64 s.was.id, .int .i64 s.was.of_, .int .i64 s.was.role, .int .i64 s.was.commit, .int .i64 s.was.hard.term, .int .i64 s.was.hard.vote, .sl false 6 (s.was.hard.log.map encEnt), .sl false 1 (s.was.yes.map encI), .sl false 1 (s.was.next.map encI), .sl false 1 (s.was.match_.map encI), .ref 5, .ref 6], .arr 45 6 (s.r.hard.log.map encEnt), .arr 3 1 (s.r.yes.map encI), .arr 3 1 (s.r.next.map encI), .arr 3 1 (s.r.match_.map encI), .arr 47 10 (s.recs.map encRec), .arr 51 17 (s.outs.map encOut)] (.tup [.agg [.int .i64 ((same s.was).id), .int .i64 ((same s.was).of_), .int .i64 ((same s.was).role), .int .i64 ((same s.was).commit), .int .i64 ((same s.was).hard.term), .int .i64 ((same s.was).hard.vote), .ref 7, .ref 8, .ref 9, .ref 10], .ref 11, .ref 12]) [.box 102 [.int .i64 s.r.id, .int .i64 s.r.of_, .int .i64 s.r.role, .int .i64 s.r.commit, .int .i64 s.r.hard.term, .int .i64 s.r.hard.vote, .ref 1, .ref 2, .ref 3, .ref 4, .int .i64 s.was.id, .int .i64 s.was.of_, .int .i64 s.was.role, .int .i64 s.was.commit, .int .i64 s.was.hard.term, .int .i64 s.was.hard.vote, .sl false 6 (s.was.hard.log.map encEnt), .sl false 1 (s.was.yes.map encI), .sl false 1 (s.was.next.map encI), .sl false 1 (s.was.match_.map encI), .ref 5, .ref 6], .arr 45 6 (s.r.hard.log.map encEnt), .arr 3 1 (s.r.yes.map encI), .arr 3 1 (s.r.next.map encI), .arr 3 1 (s.r.match_.map encI), .arr 47 10 (s.recs.map encRec), .arr 51 17 (s.outs.map encOut), .arr 45 6 (((same s.was).hard.log).map encEnt), .arr 3 1 (((same s.was).yes).map encI), .arr 3 1 (((same s.was).next).map encI), .arr 3 1 (((same s.was).match_).map encI), .arr 47 10 [], .arr 51 17 []] := by
  obtain ⟨z1, z2, z3, z4⟩ := id hz
  refine FnSpec.of 17 Tryz.func88 rfl Tryz.ntmps88 (by simp) (AW.weakK ?_)
  refine AW.r ?_
  refine At.a 3 ?_
  refine At.done rfl ?_
  refine AW.seq ?_
  refine AW.seq ?_
  refine AW.weak (Sub.nils [⟨true, 102, some 6, 5001, 45, 6⟩, ⟨true, 102, some 7, 5002, 3, 1⟩, ⟨true, 102, some 8, 5003, 3, 1⟩, ⟨true, 102, some 9, 5004, 3, 1⟩] (by kernel_rfl)) ?_
  refine AW.region (At.start ?_)
  refine At.a 4 ?_
  refine At.c (impl_RaftOk_spec  s.was hz) Tryz.call19 true [] [] [] trivial ?_
  refine At.a 1 ?_
  refine At.done rfl ?_
  refine AW.cNB (raftOk s.was) (fun h1 => ?_) (fun h1 => ?_)
  · skip
    refine AW.r ?_
    refine At.a 4 ?_
    refine At.done rfl ?_
    refine AW.ret ?_
    refine ⟨_, Sub.nils [⟨true, 102, some 6, 5005, 45, 6⟩, ⟨true, 102, some 7, 5006, 3, 1⟩, ⟨true, 102, some 8, 5007, 3, 1⟩, ⟨true, 102, some 9, 5008, 3, 1⟩, ⟨false, 3, none, 5009, 47, 10⟩, ⟨false, 4, none, 5010, 51, 17⟩] (by kernel_rfl), ?_⟩
    refine KF.conv (fun w => .tup [.agg [.int .i64 w.id, .int .i64 w.of_, .int .i64 w.role, .int .i64 w.commit, .int .i64 w.hard.term, .int .i64 w.hard.vote, .ref 7, .ref 8, .ref 9, .ref 10], .ref 11, .ref 12]) (fun w => [.box 102 [.int .i64 s.r.id, .int .i64 s.r.of_, .int .i64 s.r.role, .int .i64 s.r.commit, .int .i64 s.r.hard.term, .int .i64 s.r.hard.vote, .ref 1, .ref 2, .ref 3, .ref 4, .int .i64 s.was.id, .int .i64 s.was.of_, .int .i64 s.was.role, .int .i64 s.was.commit, .int .i64 s.was.hard.term, .int .i64 s.was.hard.vote, .sl false 6 (s.was.hard.log.map encEnt), .sl false 1 (s.was.yes.map encI), .sl false 1 (s.was.next.map encI), .sl false 1 (s.was.match_.map encI), .ref 5, .ref 6], .arr 45 6 (s.r.hard.log.map encEnt), .arr 3 1 (s.r.yes.map encI), .arr 3 1 (s.r.next.map encI), .arr 3 1 (s.r.match_.map encI), .arr 47 10 (s.recs.map encRec), .arr 51 17 (s.outs.map encOut), .arr 45 6 (w.hard.log.map encEnt), .arr 3 1 (w.yes.map encI), .arr 3 1 (w.next.map encI), .arr 3 1 (w.match_.map encI), .arr 47 10 [], .arr 51 17 []]) (show ((⟨0, 0, 0, 0, ⟨0, 0, []⟩, [], [], []⟩ : Raft)) = (same s.was) from by simp only [same, h1, if_true] <;> rfl) ?_
    exact KF.m [(0, 0), (1, 1), (2, 2), (3, 3), (4, 4), (5, 5), (6, 6), (5005, 7), (5006, 8), (5007, 9), (5008, 10), (5009, 11), (5010, 12)] [.agg [.int .i64 0, .int .i64 0, .int .i64 0, .int .i64 0, .int .i64 0, .int .i64 0, .ref 5005, .ref 5006, .ref 5007, .ref 5008], .ref 5009, .ref 5010]
  · skip
    have h1n := raftOk1_nums (raftOk_1 h1)
    refine AW.skip ?_
    refine AW.r ?_
    refine At.a 4 ?_
    refine At.c (impl_copyRaft_spec  s.was hz) Tryz.call157 true [] [(1320, 0), (1321, 1), (1322, 2), (1323, 3)] [] trivial ?_
    refine At.a 3 ?_
    refine At.done rfl ?_
    refine AW.ret ?_
    refine ⟨_, Sub.nils [⟨false, 3, none, 5011, 47, 10⟩, ⟨false, 4, none, 5012, 51, 17⟩] (by kernel_rfl), ?_⟩
    refine KF.conv (fun w => .tup [.agg [.int .i64 w.id, .int .i64 w.of_, .int .i64 w.role, .int .i64 w.commit, .int .i64 w.hard.term, .int .i64 w.hard.vote, .ref 7, .ref 8, .ref 9, .ref 10], .ref 11, .ref 12]) (fun w => [.box 102 [.int .i64 s.r.id, .int .i64 s.r.of_, .int .i64 s.r.role, .int .i64 s.r.commit, .int .i64 s.r.hard.term, .int .i64 s.r.hard.vote, .ref 1, .ref 2, .ref 3, .ref 4, .int .i64 s.was.id, .int .i64 s.was.of_, .int .i64 s.was.role, .int .i64 s.was.commit, .int .i64 s.was.hard.term, .int .i64 s.was.hard.vote, .sl false 6 (s.was.hard.log.map encEnt), .sl false 1 (s.was.yes.map encI), .sl false 1 (s.was.next.map encI), .sl false 1 (s.was.match_.map encI), .ref 5, .ref 6], .arr 45 6 (s.r.hard.log.map encEnt), .arr 3 1 (s.r.yes.map encI), .arr 3 1 (s.r.next.map encI), .arr 3 1 (s.r.match_.map encI), .arr 47 10 (s.recs.map encRec), .arr 51 17 (s.outs.map encOut), .arr 45 6 (w.hard.log.map encEnt), .arr 3 1 (w.yes.map encI), .arr 3 1 (w.next.map encI), .arr 3 1 (w.match_.map encI), .arr 47 10 [], .arr 51 17 []]) (show (s.was) = (same s.was) from by simp only [same, h1, if_true] <;> rfl) ?_
    exact KF.m [(0, 0), (1, 1), (2, 2), (3, 3), (4, 4), (5, 5), (6, 6), (1320, 7), (1321, 8), (1322, 9), (1323, 10), (5011, 11), (5012, 12)] [.agg [.int .i64 s.was.id, .int .i64 s.was.of_, .int .i64 s.was.role, .int .i64 s.was.commit, .int .i64 s.was.hard.term, .int .i64 s.was.hard.vote, .ref 1320, .ref 1321, .ref 1322, .ref 1323], .ref 5011, .ref 5012]
set_option maxRecDepth 100000 in
set_option maxHeartbeats 4000000 in
theorem impl_stepper_none_T_spec  (s : Stepper) (hz : SmallR s.was) (hok : raftOk s.was = true) : FnSpec Tryz.prog 88 [.ptr 0 0 0] [.box 102 [.int .i64 s.r.id, .int .i64 s.r.of_, .int .i64 s.r.role, .int .i64 s.r.commit, .int .i64 s.r.hard.term, .int .i64 s.r.hard.vote, .ref 1, .ref 2, .ref 3, .ref 4, .int .i64 s.was.id, .int .i64 s.was.of_, .int .i64 s.was.role, .int .i64 s.was.commit, .int .i64 s.was.hard.term, .int .i64 s.was.hard.vote, .sl false 6 (s.was.hard.log.map encEnt), .sl false 1 (s.was.yes.map encI), .sl false 1 (s.was.next.map encI), .sl false 1 (s.was.match_.map encI), .ref 5, .ref 6], .arr 45 6 (s.r.hard.log.map encEnt), .arr 3 1 (s.r.yes.map encI), .arr 3 1 (s.r.next.map encI), .arr 3 1 (s.r.match_.map encI), .arr 47 10 (s.recs.map encRec), .arr 51 17 (s.outs.map encOut)] (.tup [.agg [.int .i64 s.was.id, .int .i64 s.was.of_, .int .i64 s.was.role, .int .i64 s.was.commit, .int .i64 s.was.hard.term, .int .i64 s.was.hard.vote, .ref 7, .ref 8, .ref 9, .ref 10], .ref 11, .ref 12]) [.box 102 [.int .i64 s.r.id, .int .i64 s.r.of_, .int .i64 s.r.role, .int .i64 s.r.commit, .int .i64 s.r.hard.term, .int .i64 s.r.hard.vote, .ref 1, .ref 2, .ref 3, .ref 4, .int .i64 s.was.id, .int .i64 s.was.of_, .int .i64 s.was.role, .int .i64 s.was.commit, .int .i64 s.was.hard.term, .int .i64 s.was.hard.vote, .sl false 6 (s.was.hard.log.map encEnt), .sl false 1 (s.was.yes.map encI), .sl false 1 (s.was.next.map encI), .sl false 1 (s.was.match_.map encI), .ref 5, .ref 6], .arr 45 6 (s.r.hard.log.map encEnt), .arr 3 1 (s.r.yes.map encI), .arr 3 1 (s.r.next.map encI), .arr 3 1 (s.r.match_.map encI), .arr 47 10 (s.recs.map encRec), .arr 51 17 (s.outs.map encOut), .arr 45 6 (s.was.hard.log.map encEnt), .arr 3 1 (s.was.yes.map encI), .arr 3 1 (s.was.next.map encI), .arr 3 1 (s.was.match_.map encI), .arr 47 10 [], .arr 51 17 []] := by have := impl_stepper_none_spec s hz; rw [show same s.was = s.was from if_pos hok] at this; exact this
set_option maxRecDepth 100000 in
set_option maxHeartbeats 4000000 in
theorem impl_stepper_none_F_spec  (s : Stepper) (hz : SmallR s.was) (hok : ¬ raftOk s.was = true) : FnSpec Tryz.prog 88 [.ptr 0 0 0] [.box 102 [.int .i64 s.r.id, .int .i64 s.r.of_, .int .i64 s.r.role, .int .i64 s.r.commit, .int .i64 s.r.hard.term, .int .i64 s.r.hard.vote, .ref 1, .ref 2, .ref 3, .ref 4, .int .i64 s.was.id, .int .i64 s.was.of_, .int .i64 s.was.role, .int .i64 s.was.commit, .int .i64 s.was.hard.term, .int .i64 s.was.hard.vote, .sl false 6 (s.was.hard.log.map encEnt), .sl false 1 (s.was.yes.map encI), .sl false 1 (s.was.next.map encI), .sl false 1 (s.was.match_.map encI), .ref 5, .ref 6], .arr 45 6 (s.r.hard.log.map encEnt), .arr 3 1 (s.r.yes.map encI), .arr 3 1 (s.r.next.map encI), .arr 3 1 (s.r.match_.map encI), .arr 47 10 (s.recs.map encRec), .arr 51 17 (s.outs.map encOut)] (.tup [.agg [.int .i64 0, .int .i64 0, .int .i64 0, .int .i64 0, .int .i64 0, .int .i64 0, .ref 7, .ref 8, .ref 9, .ref 10], .ref 11, .ref 12]) [.box 102 [.int .i64 s.r.id, .int .i64 s.r.of_, .int .i64 s.r.role, .int .i64 s.r.commit, .int .i64 s.r.hard.term, .int .i64 s.r.hard.vote, .ref 1, .ref 2, .ref 3, .ref 4, .int .i64 s.was.id, .int .i64 s.was.of_, .int .i64 s.was.role, .int .i64 s.was.commit, .int .i64 s.was.hard.term, .int .i64 s.was.hard.vote, .sl false 6 (s.was.hard.log.map encEnt), .sl false 1 (s.was.yes.map encI), .sl false 1 (s.was.next.map encI), .sl false 1 (s.was.match_.map encI), .ref 5, .ref 6], .arr 45 6 (s.r.hard.log.map encEnt), .arr 3 1 (s.r.yes.map encI), .arr 3 1 (s.r.next.map encI), .arr 3 1 (s.r.match_.map encI), .arr 47 10 (s.recs.map encRec), .arr 51 17 (s.outs.map encOut), .arr 45 6 [], .arr 3 1 [], .arr 3 1 [], .arr 3 1 [], .arr 47 10 [], .arr 51 17 []] := by have := impl_stepper_none_spec s hz; rw [show same s.was = zRaft from if_neg hok] at this; exact this
set_option maxRecDepth 100000 in
set_option maxHeartbeats 4000000 in
theorem impl_stepper_message_spec  (s : Stepper) (kind : Int) : FnSpec Tryz.prog 114 [.ptr 0 0 0, .int .i64 kind] [.box 102 [.int .i64 s.r.id, .int .i64 s.r.of_, .int .i64 s.r.role, .int .i64 s.r.commit, .int .i64 s.r.hard.term, .int .i64 s.r.hard.vote, .ref 1, .ref 2, .ref 3, .ref 4, .int .i64 s.was.id, .int .i64 s.was.of_, .int .i64 s.was.role, .int .i64 s.was.commit, .int .i64 s.was.hard.term, .int .i64 s.was.hard.vote, .sl false 6 (s.was.hard.log.map encEnt), .sl false 1 (s.was.yes.map encI), .sl false 1 (s.was.next.map encI), .sl false 1 (s.was.match_.map encI), .ref 5, .ref 6], .arr 45 6 (s.r.hard.log.map encEnt), .arr 3 1 (s.r.yes.map encI), .arr 3 1 (s.r.next.map encI), .arr 3 1 (s.r.match_.map encI), .arr 47 10 (s.recs.map encRec), .arr 51 17 (s.outs.map encOut)] (.agg [.int .i64 kind, .int .i64 s.r.id, .int .i64 s.r.hard.term, .int .i64 0, .int .i64 0, .int .i64 0, .bool false, .int .i64 0, .int .i64 0, .str (⟨#[]⟩), .int .i64 0, .int .i64 0, .int .i64 0, .int .i64 0, .str (⟨#[]⟩), .ref 7]) [.box 102 [.int .i64 s.r.id, .int .i64 s.r.of_, .int .i64 s.r.role, .int .i64 s.r.commit, .int .i64 s.r.hard.term, .int .i64 s.r.hard.vote, .ref 1, .ref 2, .ref 3, .ref 4, .int .i64 s.was.id, .int .i64 s.was.of_, .int .i64 s.was.role, .int .i64 s.was.commit, .int .i64 s.was.hard.term, .int .i64 s.was.hard.vote, .sl false 6 (s.was.hard.log.map encEnt), .sl false 1 (s.was.yes.map encI), .sl false 1 (s.was.next.map encI), .sl false 1 (s.was.match_.map encI), .ref 5, .ref 6], .arr 45 6 (s.r.hard.log.map encEnt), .arr 3 1 (s.r.yes.map encI), .arr 3 1 (s.r.next.map encI), .arr 3 1 (s.r.match_.map encI), .arr 47 10 (s.recs.map encRec), .arr 51 17 (s.outs.map encOut), .arr 45 6 []] := by
  refine FnSpec.of 18 Tryz.func114 rfl Tryz.ntmps114 (by simp) (AW.weakK ?_)
  refine AW.r ?_
  refine At.a 1 ?_
  refine At.done rfl ?_
  refine AW.seq ?_
  refine AW.weak (Sub.nils [⟨true, 104, some 15, 5001, 45, 6⟩] (by kernel_rfl)) ?_
  refine AW.regionD Tryz_mix (At.start ?_)
  refine At.a 14 ?_
  refine At.done rfl ⟨by kernel_rfl, ?_⟩
  refine AW.ret ?_
  refine ⟨_, Sub.nils [⟨true, 104, some 15, 5002, 45, 6⟩] (by kernel_rfl), ?_⟩
  refine KF.conv (fun w => .agg [.int .i64 w.kind, .int .i64 w.from_, .int .i64 w.term, .int .i64 w.at_, .int .i64 w.atTerm, .int .i64 w.commit, .bool w.yes, .int .i64 w.release, .int .i64 w.part, .str w.bytes, .int .i64 w.cmd.kind, .int .i64 w.cmd.release, .int .i64 w.cmd.node, .int .i64 w.cmd.size, .str w.cmd.digest, .ref 7]) (fun w => [.box 102 [.int .i64 s.r.id, .int .i64 s.r.of_, .int .i64 s.r.role, .int .i64 s.r.commit, .int .i64 s.r.hard.term, .int .i64 s.r.hard.vote, .ref 1, .ref 2, .ref 3, .ref 4, .int .i64 s.was.id, .int .i64 s.was.of_, .int .i64 s.was.role, .int .i64 s.was.commit, .int .i64 s.was.hard.term, .int .i64 s.was.hard.vote, .sl false 6 (s.was.hard.log.map encEnt), .sl false 1 (s.was.yes.map encI), .sl false 1 (s.was.next.map encI), .sl false 1 (s.was.match_.map encI), .ref 5, .ref 6], .arr 45 6 (s.r.hard.log.map encEnt), .arr 3 1 (s.r.yes.map encI), .arr 3 1 (s.r.next.map encI), .arr 3 1 (s.r.match_.map encI), .arr 47 10 (s.recs.map encRec), .arr 51 17 (s.outs.map encOut), .arr 45 6 (w.entries.map encEnt)]) (show ((⟨kind, s.r.id, s.r.hard.term, 0, 0, 0, false, 0, 0, (⟨#[]⟩ : ByteArray), ⟨0, 0, 0, 0, (⟨#[]⟩ : ByteArray)⟩, []⟩ : Msg)) = ((⟨kind, s.r.id, s.r.hard.term, 0, 0, 0, false, 0, 0, ⟨#[]⟩, ⟨0, 0, 0, 0, ⟨#[]⟩⟩, []⟩ : Msg)) from rfl) ?_
  exact KF.m [(0, 0), (1, 1), (2, 2), (3, 3), (4, 4), (5, 5), (6, 6), (5002, 7)] [.agg [.int .i64 kind, .int .i64 s.r.id, .int .i64 s.r.hard.term, .int .i64 0, .int .i64 0, .int .i64 0, .bool false, .int .i64 0, .int .i64 0, .str (⟨#[]⟩ : ByteArray), .int .i64 0, .int .i64 0, .int .i64 0, .int .i64 0, .str (⟨#[]⟩ : ByteArray), .ref 5002]]
set_option maxRecDepth 100000 in
set_option maxHeartbeats 4000000 in
theorem impl_stepper_got_spec  (s : Stepper) (to : Int) (yes : Bool) (at_ : Int) (ho : s.outs.length ≤ 1000) : FnSpec Tryz.prog 89 [.ptr 0 0 0, .int .i64 to, .bool yes, .int .i64 at_] [.box 102 [.int .i64 s.r.id, .int .i64 s.r.of_, .int .i64 s.r.role, .int .i64 s.r.commit, .int .i64 s.r.hard.term, .int .i64 s.r.hard.vote, .ref 1, .ref 2, .ref 3, .ref 4, .int .i64 s.was.id, .int .i64 s.was.of_, .int .i64 s.was.role, .int .i64 s.was.commit, .int .i64 s.was.hard.term, .int .i64 s.was.hard.vote, .sl false 6 (s.was.hard.log.map encEnt), .sl false 1 (s.was.yes.map encI), .sl false 1 (s.was.next.map encI), .sl false 1 (s.was.match_.map encI), .ref 5, .ref 6], .arr 45 6 (s.r.hard.log.map encEnt), .arr 3 1 (s.r.yes.map encI), .arr 3 1 (s.r.next.map encI), .arr 3 1 (s.r.match_.map encI), .arr 47 10 (s.recs.map encRec), .arr 51 17 (s.outs.map encOut)] (.tup []) [.box 102 [.int .i64 s.r.id, .int .i64 s.r.of_, .int .i64 s.r.role, .int .i64 s.r.commit, .int .i64 s.r.hard.term, .int .i64 s.r.hard.vote, .ref 1, .ref 2, .ref 3, .ref 4, .int .i64 s.was.id, .int .i64 s.was.of_, .int .i64 s.was.role, .int .i64 s.was.commit, .int .i64 s.was.hard.term, .int .i64 s.was.hard.vote, .sl false 6 (s.was.hard.log.map encEnt), .sl false 1 (s.was.yes.map encI), .sl false 1 (s.was.next.map encI), .sl false 1 (s.was.match_.map encI), .ref 5, .ref 7], .arr 45 6 (s.r.hard.log.map encEnt), .arr 3 1 (s.r.yes.map encI), .arr 3 1 (s.r.next.map encI), .arr 3 1 (s.r.match_.map encI), .arr 47 10 (s.recs.map encRec), .dead, .arr 51 17 ((s.outs ++ [(⟨to, ⟨4, s.r.id, s.r.hard.term, at_, 0, 0, yes, 0, 0, ⟨#[]⟩, ⟨0, 0, 0, 0, ⟨#[]⟩⟩, []⟩⟩ : Out)]).map encOut)] := by
  refine FnSpec.of 27 Tryz.func89 rfl Tryz.ntmps89 (by simp) (AW.weakK ?_)
  refine AW.r ?_
  refine At.a 1 ?_
  refine At.c (impl_stepper_message_spec  s 4 ) Tryz.call114 true [(0, 0), (1, 1), (2, 2), (3, 3), (4, 4), (5, 5), (6, 6)] [(1200, 7)] [] trivial ?_
  refine At.a 2 ?_
  refine At.done rfl ?_
  refine AW.r ?_
  refine At.a 6 ?_
  refine At.done rfl ?_
  refine AW.regionD Tryz_mix (At.start ?_)
  refine At.a 8 ?_
  refine At.litK (t := 38) (d := 23) (e := 51) (es := 17) (bytes := 168) (n := 1) (parts := #[(0, .tmp 22)]) (45, 6) 123 [1200] [.int .i64 to, .int .i64 4, .int .i64 s.r.id, .int .i64 s.r.hard.term, .int .i64 at_, .int .i64 0, .int .i64 0, .bool yes, .int .i64 0, .int .i64 0, .str (⟨#[]⟩), .int .i64 0, .int .i64 0, .int .i64 0, .int .i64 0, .str (⟨#[]⟩), .ref 1200] [.int .i64 to, .int .i64 4, .int .i64 s.r.id, .int .i64 s.r.hard.term, .int .i64 at_, .int .i64 0, .int .i64 0, .bool yes, .int .i64 0, .int .i64 0, .str (⟨#[]⟩), .int .i64 0, .int .i64 0, .int .i64 0, .int .i64 0, .str (⟨#[]⟩), .own 45 6 []] [.int .i64 0, .int .i64 0, .int .i64 0, .int .i64 0, .int .i64 0, .int .i64 0, .int .i64 0, .bool false, .int .i64 0, .int .i64 0, .str (⟨#[]⟩ : ByteArray), .int .i64 0, .int .i64 0, .int .i64 0, .int .i64 0, .str (⟨#[]⟩ : ByteArray), .nil] [.agg [.int .i64 to, .int .i64 4, .int .i64 s.r.id, .int .i64 s.r.hard.term, .int .i64 at_, .int .i64 0, .int .i64 0, .bool yes, .int .i64 0, .int .i64 0, .str (⟨#[]⟩), .int .i64 0, .int .i64 0, .int .i64 0, .int .i64 0, .str (⟨#[]⟩), .own 45 6 []]] [(45, 6, [])] (by kernel_rfl) (by kernel_rfl) (by kernel_rfl) (by kernel_rfl) (by kernel_rfl) (by intro p hp; simp only [List.mem_cons, List.not_mem_nil, or_false] at hp; subst hp; all_goals first | exact flatEnts | (intro x hx; cases hx)) (by kernel_rfl) ?_
  refine At.append (t := 38) (d := 24) (e := 51) (es := 17) (bytes := 168) (s := .tmp 19) (x := .tmp 23) (S := .ref 6) (T := .ref 123) (xs := (s.outs.map encOut)) (ys := (([(⟨to, ⟨4, s.r.id, s.r.hard.term, at_, 0, 0, yes, 0, 0, ⟨#[]⟩, ⟨0, 0, 0, 0, ⟨#[]⟩⟩, []⟩⟩ : Out)]).map encOut)) 124 [6] [123] ((s.outs ++ ([(⟨to, ⟨4, s.r.id, s.r.hard.term, at_, 0, 0, yes, 0, 0, ⟨#[]⟩, ⟨0, 0, 0, 0, ⟨#[]⟩⟩, []⟩⟩ : Out)])).map encOut) (by kernel_rfl) (by kernel_rfl) (by kernel_rfl) (by kernel_rfl) ⟨by kernel_rfl, rfl⟩ ⟨by kernel_rfl, .inr rfl⟩ (by kernel_rfl) (by kernel_rfl) (by simp) (by simp only [List.length_map, List.length_append, List.length_take, List.length_drop, List.length_replicate, List.length_set, List.length_cons, List.length_nil]; omega) (by simp only [List.length_map, List.length_append, List.length_take, List.length_drop, List.length_replicate, List.length_set, List.length_cons, List.length_nil]; omega) ?_
  refine At.a 3 ?_
  refine At.done rfl ⟨by kernel_rfl, ?_⟩
  refine ⟨_, Sub.refl _ _, ?_⟩
  refine KF.conv (fun w => .tup []) (fun w => [.box 102 [.int .i64 w.r.id, .int .i64 w.r.of_, .int .i64 w.r.role, .int .i64 w.r.commit, .int .i64 w.r.hard.term, .int .i64 w.r.hard.vote, .ref 1, .ref 2, .ref 3, .ref 4, .int .i64 w.was.id, .int .i64 w.was.of_, .int .i64 w.was.role, .int .i64 w.was.commit, .int .i64 w.was.hard.term, .int .i64 w.was.hard.vote, .sl false 6 (w.was.hard.log.map encEnt), .sl false 1 (w.was.yes.map encI), .sl false 1 (w.was.next.map encI), .sl false 1 (w.was.match_.map encI), .ref 5, .ref 7], .arr 45 6 (w.r.hard.log.map encEnt), .arr 3 1 (w.r.yes.map encI), .arr 3 1 (w.r.next.map encI), .arr 3 1 (w.r.match_.map encI), .arr 47 10 (w.recs.map encRec), .dead, .arr 51 17 (w.outs.map encOut)]) (show ((⟨s.r, s.was, s.recs, s.outs ++ ([(⟨to, ⟨4, s.r.id, s.r.hard.term, at_, 0, 0, yes, 0, 0, ⟨#[]⟩, ⟨0, 0, 0, 0, ⟨#[]⟩⟩, []⟩⟩ : Out)])⟩ : Stepper)) = (({ s with outs := s.outs ++ [(⟨to, ⟨4, s.r.id, s.r.hard.term, at_, 0, 0, yes, 0, 0, ⟨#[]⟩, ⟨0, 0, 0, 0, ⟨#[]⟩⟩, []⟩⟩ : Out)] } : Stepper)) from rfl) ?_
  exact KF.m [(0, 0), (1, 1), (2, 2), (3, 3), (4, 4), (5, 5), (6, 6), (124, 7)] []
set_option maxRecDepth 100000 in
set_option maxHeartbeats 4000000 in
theorem impl_stepper_end_spec  (s : Stepper) (hr : s.recs.length ≤ 1048576) : FnSpec Tryz.prog 90 [.ptr 0 0 0] [.box 102 [.int .i64 s.r.id, .int .i64 s.r.of_, .int .i64 s.r.role, .int .i64 s.r.commit, .int .i64 s.r.hard.term, .int .i64 s.r.hard.vote, .ref 1, .ref 2, .ref 3, .ref 4, .int .i64 s.was.id, .int .i64 s.was.of_, .int .i64 s.was.role, .int .i64 s.was.commit, .int .i64 s.was.hard.term, .int .i64 s.was.hard.vote, .sl false 6 (s.was.hard.log.map encEnt), .sl false 1 (s.was.yes.map encI), .sl false 1 (s.was.next.map encI), .sl false 1 (s.was.match_.map encI), .ref 5, .ref 6], .arr 45 6 (s.r.hard.log.map encEnt), .arr 3 1 (s.r.yes.map encI), .arr 3 1 (s.r.next.map encI), .arr 3 1 (s.r.match_.map encI), .arr 47 10 (s.recs.map encRec), .arr 51 17 (s.outs.map encOut)] (.tup [.agg [.int .i64 s.r.id, .int .i64 s.r.of_, .int .i64 s.r.role, .int .i64 s.r.commit, .int .i64 s.r.hard.term, .int .i64 s.r.hard.vote, .ref 1, .ref 2, .ref 3, .ref 4], .ref 7, .ref 6]) [.box 102 [.int .i64 s.r.id, .int .i64 s.r.of_, .int .i64 s.r.role, .int .i64 s.r.commit, .int .i64 s.r.hard.term, .int .i64 s.r.hard.vote, .ref 1, .ref 2, .ref 3, .ref 4, .int .i64 s.was.id, .int .i64 s.was.of_, .int .i64 s.was.role, .int .i64 s.was.commit, .int .i64 s.was.hard.term, .int .i64 s.was.hard.vote, .sl false 6 (s.was.hard.log.map encEnt), .sl false 1 (s.was.yes.map encI), .sl false 1 (s.was.next.map encI), .sl false 1 (s.was.match_.map encI), .un, .ref 6], .arr 45 6 (s.r.hard.log.map encEnt), .arr 3 1 (s.r.yes.map encI), .arr 3 1 (s.r.next.map encI), .arr 3 1 (s.r.match_.map encI), .dead, .arr 51 17 (s.outs.map encOut), .arr 47 10 ((endRecs s).map encRec)] := by
  refine FnSpec.of 60 Tryz.func90 rfl Tryz.ntmps90 (by simp) (AW.weakK ?_)
  refine AW.r ?_
  refine At.a 3 ?_
  refine At.done rfl ?_
  refine AW.seq ?_
  refine AW.weak (Sub.nils [⟨true, 102, some 6, 5001, 45, 6⟩, ⟨true, 102, some 7, 5002, 3, 1⟩, ⟨true, 102, some 8, 5003, 3, 1⟩, ⟨true, 102, some 9, 5004, 3, 1⟩] (by kernel_rfl)) ?_
  refine AW.regionD Tryz_mix (At.start ?_)
  refine At.a 14 ?_
  refine At.done rfl ⟨by kernel_rfl, ?_⟩
  refine AW.seq ?_
  refine AW.r ?_
  refine At.a 6 ?_
  by_cases h1 : s.r.hard.term = s.was.hard.term
  · refine At.sB 22 (s.r.hard.term == s.was.hard.term) true (sayET h1) ?_
    refine At.a 6 ?_
    refine At.done rfl ?_
    refine AW.cE s.r.hard.vote s.was.hard.vote (fun h2 => ?_) (fun h2 => ?_)
    · skip
      refine AW.seq ?_
      refine AW.regionD Tryz_mix (At.start ?_)
      refine At.a 15 ?_
      refine At.done rfl ⟨by kernel_rfl, ?_⟩
      refine AW.ret ?_
      refine ⟨_, (Sub.trans (Sub.trans (Sub.refl _ _) (Sub.mv 5 8005 (by kernel_rfl) (by decide))) (Sub.un1 0 20 102 [.int .i64 s.r.id, .int .i64 s.r.of_, .int .i64 s.r.role, .int .i64 s.r.commit, .int .i64 s.r.hard.term, .int .i64 s.r.hard.vote, .ref 1, .ref 2, .ref 3, .ref 4, .int .i64 s.was.id, .int .i64 s.was.of_, .int .i64 s.was.role, .int .i64 s.was.commit, .int .i64 s.was.hard.term, .int .i64 s.was.hard.vote, .sl false 6 (s.was.hard.log.map encEnt), .sl false 1 (s.was.yes.map encI), .sl false 1 (s.was.next.map encI), .sl false 1 (s.was.match_.map encI), .ref 8005, .ref 6] (by kernel_rfl))), ?_⟩
      refine KF.conv (fun w => .tup [.agg [.int .i64 s.r.id, .int .i64 s.r.of_, .int .i64 s.r.role, .int .i64 s.r.commit, .int .i64 s.r.hard.term, .int .i64 s.r.hard.vote, .ref 1, .ref 2, .ref 3, .ref 4], .ref 7, .ref 6]) (fun w => [.box 102 [.int .i64 s.r.id, .int .i64 s.r.of_, .int .i64 s.r.role, .int .i64 s.r.commit, .int .i64 s.r.hard.term, .int .i64 s.r.hard.vote, .ref 1, .ref 2, .ref 3, .ref 4, .int .i64 s.was.id, .int .i64 s.was.of_, .int .i64 s.was.role, .int .i64 s.was.commit, .int .i64 s.was.hard.term, .int .i64 s.was.hard.vote, .sl false 6 (s.was.hard.log.map encEnt), .sl false 1 (s.was.yes.map encI), .sl false 1 (s.was.next.map encI), .sl false 1 (s.was.match_.map encI), .un, .ref 6], .arr 45 6 (s.r.hard.log.map encEnt), .arr 3 1 (s.r.yes.map encI), .arr 3 1 (s.r.next.map encI), .arr 3 1 (s.r.match_.map encI), .dead, .arr 51 17 (s.outs.map encOut), .arr 47 10 (w.map encRec)]) (show (s.recs) = (endRecs s) from by simp [endRecs, voteRec, h1, h2]; try rfl) ?_
      exact KF.m [(0, 0), (1, 1), (2, 2), (3, 3), (4, 4), (5, 5), (6, 6), (8005, 7)] [.agg [.int .i64 s.r.id, .int .i64 s.r.of_, .int .i64 s.r.role, .int .i64 s.r.commit, .int .i64 s.r.hard.term, .int .i64 s.r.hard.vote, .ref 1, .ref 2, .ref 3, .ref 4], .ref 8005, .ref 6]
    · skip
      refine AW.skip ?_
      refine AW.seq ?_
      refine AW.regionD Tryz_mix (At.start ?_)
      refine At.a 9 ?_
      refine At.litK (t := 37) (d := 50) (e := 47) (es := 10) (bytes := 88) (n := 1) (parts := #[(0, .tmp 49)]) (45, 6) 150 [] [.int .i64 1, .int .i64 s.r.hard.term, .int .i64 s.r.hard.vote, .int .i64 0, .int .i64 0, .int .i64 0, .int .i64 0, .int .i64 0, .int .i64 0, .str (⟨#[]⟩ : ByteArray)] [.int .i64 1, .int .i64 s.r.hard.term, .int .i64 s.r.hard.vote, .int .i64 0, .int .i64 0, .int .i64 0, .int .i64 0, .int .i64 0, .int .i64 0, .str (⟨#[]⟩ : ByteArray)] [.int .i64 0, .int .i64 0, .int .i64 0, .int .i64 0, .int .i64 0, .int .i64 0, .int .i64 0, .int .i64 0, .int .i64 0, .str (⟨#[]⟩ : ByteArray)] [.agg [.int .i64 1, .int .i64 s.r.hard.term, .int .i64 s.r.hard.vote, .int .i64 0, .int .i64 0, .int .i64 0, .int .i64 0, .int .i64 0, .int .i64 0, .str (⟨#[]⟩ : ByteArray)]] [] (by kernel_rfl) (by kernel_rfl) (by kernel_rfl) (by kernel_rfl) rfl (fun p hp => by cases hp) (by kernel_rfl) ?_
      refine At.a 4 ?_
      refine At.append (t := 37) (d := 55) (e := 47) (es := 10) (bytes := 88) (s := .tmp 50) (x := .tmp 54) (S := .ref 150) (T := .ref 5) (xs := (([(⟨1, s.r.hard.term, s.r.hard.vote, 0, ⟨0, ⟨0, 0, 0, 0, (⟨#[]⟩ : ByteArray)⟩⟩⟩ : Rec)]).map encRec)) (ys := (s.recs.map encRec)) 155 [150] [] ((([(⟨1, s.r.hard.term, s.r.hard.vote, 0, ⟨0, ⟨0, 0, 0, 0, (⟨#[]⟩ : ByteArray)⟩⟩⟩ : Rec)]) ++ s.recs).map encRec) (by kernel_rfl) (by kernel_rfl) (by kernel_rfl) (by kernel_rfl) ⟨by kernel_rfl, rfl⟩ ⟨by kernel_rfl, .inl ⟨rfl, (allP_encRec _)⟩⟩ (by kernel_rfl) (by kernel_rfl) (by simp) (by simp only [List.length_map, List.length_append, List.length_take, List.length_drop, List.length_replicate, List.length_set, List.length_cons, List.length_nil]; omega) (by simp only [List.length_map, List.length_append, List.length_take, List.length_drop, List.length_replicate, List.length_set, List.length_cons, List.length_nil]; omega) ?_
      refine At.a 7 ?_
      refine At.done rfl ⟨by kernel_rfl, ?_⟩
      refine AW.ret ?_
      refine ⟨_, (Sub.trans (Sub.trans (Sub.refl _ _) (Sub.mv 5 8005 (by kernel_rfl) (by decide))) (Sub.un1 0 20 102 [.int .i64 s.r.id, .int .i64 s.r.of_, .int .i64 s.r.role, .int .i64 s.r.commit, .int .i64 s.r.hard.term, .int .i64 s.r.hard.vote, .ref 1, .ref 2, .ref 3, .ref 4, .int .i64 s.was.id, .int .i64 s.was.of_, .int .i64 s.was.role, .int .i64 s.was.commit, .int .i64 s.was.hard.term, .int .i64 s.was.hard.vote, .sl false 6 (s.was.hard.log.map encEnt), .sl false 1 (s.was.yes.map encI), .sl false 1 (s.was.next.map encI), .sl false 1 (s.was.match_.map encI), .ref 8005, .ref 6] (by kernel_rfl))), ?_⟩
      refine KF.conv (fun w => .tup [.agg [.int .i64 s.r.id, .int .i64 s.r.of_, .int .i64 s.r.role, .int .i64 s.r.commit, .int .i64 s.r.hard.term, .int .i64 s.r.hard.vote, .ref 1, .ref 2, .ref 3, .ref 4], .ref 7, .ref 6]) (fun w => [.box 102 [.int .i64 s.r.id, .int .i64 s.r.of_, .int .i64 s.r.role, .int .i64 s.r.commit, .int .i64 s.r.hard.term, .int .i64 s.r.hard.vote, .ref 1, .ref 2, .ref 3, .ref 4, .int .i64 s.was.id, .int .i64 s.was.of_, .int .i64 s.was.role, .int .i64 s.was.commit, .int .i64 s.was.hard.term, .int .i64 s.was.hard.vote, .sl false 6 (s.was.hard.log.map encEnt), .sl false 1 (s.was.yes.map encI), .sl false 1 (s.was.next.map encI), .sl false 1 (s.was.match_.map encI), .un, .ref 6], .arr 45 6 (s.r.hard.log.map encEnt), .arr 3 1 (s.r.yes.map encI), .arr 3 1 (s.r.next.map encI), .arr 3 1 (s.r.match_.map encI), .dead, .arr 51 17 (s.outs.map encOut), .arr 47 10 (w.map encRec)]) (show (([(⟨1, s.r.hard.term, s.r.hard.vote, 0, ⟨0, ⟨0, 0, 0, 0, (⟨#[]⟩ : ByteArray)⟩⟩⟩ : Rec)]) ++ s.recs) = (endRecs s) from by simp [endRecs, voteRec, h1, h2]; try rfl) ?_
      exact KF.m [(0, 0), (1, 1), (2, 2), (3, 3), (4, 4), (5, 5), (6, 6), (155, 7)] [.agg [.int .i64 s.r.id, .int .i64 s.r.of_, .int .i64 s.r.role, .int .i64 s.r.commit, .int .i64 s.r.hard.term, .int .i64 s.r.hard.vote, .ref 1, .ref 2, .ref 3, .ref 4], .ref 155, .ref 6]
  · refine At.sB 22 (s.r.hard.term == s.was.hard.term) false (sayEF h1) ?_
    refine At.a 6 ?_
    refine At.done rfl ?_
    refine AW.cond false (by kernel_rfl) (fun h => by cases h) (fun _ => ?_)
    refine AW.skip ?_
    refine AW.seq ?_
    refine AW.regionD Tryz_mix (At.start ?_)
    refine At.a 9 ?_
    refine At.litK (t := 37) (d := 50) (e := 47) (es := 10) (bytes := 88) (n := 1) (parts := #[(0, .tmp 49)]) (45, 6) 150 [] [.int .i64 1, .int .i64 s.r.hard.term, .int .i64 s.r.hard.vote, .int .i64 0, .int .i64 0, .int .i64 0, .int .i64 0, .int .i64 0, .int .i64 0, .str (⟨#[]⟩ : ByteArray)] [.int .i64 1, .int .i64 s.r.hard.term, .int .i64 s.r.hard.vote, .int .i64 0, .int .i64 0, .int .i64 0, .int .i64 0, .int .i64 0, .int .i64 0, .str (⟨#[]⟩ : ByteArray)] [.int .i64 0, .int .i64 0, .int .i64 0, .int .i64 0, .int .i64 0, .int .i64 0, .int .i64 0, .int .i64 0, .int .i64 0, .str (⟨#[]⟩ : ByteArray)] [.agg [.int .i64 1, .int .i64 s.r.hard.term, .int .i64 s.r.hard.vote, .int .i64 0, .int .i64 0, .int .i64 0, .int .i64 0, .int .i64 0, .int .i64 0, .str (⟨#[]⟩ : ByteArray)]] [] (by kernel_rfl) (by kernel_rfl) (by kernel_rfl) (by kernel_rfl) rfl (fun p hp => by cases hp) (by kernel_rfl) ?_
    refine At.a 4 ?_
    refine At.append (t := 37) (d := 55) (e := 47) (es := 10) (bytes := 88) (s := .tmp 50) (x := .tmp 54) (S := .ref 150) (T := .ref 5) (xs := (([(⟨1, s.r.hard.term, s.r.hard.vote, 0, ⟨0, ⟨0, 0, 0, 0, (⟨#[]⟩ : ByteArray)⟩⟩⟩ : Rec)]).map encRec)) (ys := (s.recs.map encRec)) 155 [150] [] ((([(⟨1, s.r.hard.term, s.r.hard.vote, 0, ⟨0, ⟨0, 0, 0, 0, (⟨#[]⟩ : ByteArray)⟩⟩⟩ : Rec)]) ++ s.recs).map encRec) (by kernel_rfl) (by kernel_rfl) (by kernel_rfl) (by kernel_rfl) ⟨by kernel_rfl, rfl⟩ ⟨by kernel_rfl, .inl ⟨rfl, (allP_encRec _)⟩⟩ (by kernel_rfl) (by kernel_rfl) (by simp) (by simp only [List.length_map, List.length_append, List.length_take, List.length_drop, List.length_replicate, List.length_set, List.length_cons, List.length_nil]; omega) (by simp only [List.length_map, List.length_append, List.length_take, List.length_drop, List.length_replicate, List.length_set, List.length_cons, List.length_nil]; omega) ?_
    refine At.a 7 ?_
    refine At.done rfl ⟨by kernel_rfl, ?_⟩
    refine AW.ret ?_
    refine ⟨_, (Sub.trans (Sub.trans (Sub.refl _ _) (Sub.mv 5 8005 (by kernel_rfl) (by decide))) (Sub.un1 0 20 102 [.int .i64 s.r.id, .int .i64 s.r.of_, .int .i64 s.r.role, .int .i64 s.r.commit, .int .i64 s.r.hard.term, .int .i64 s.r.hard.vote, .ref 1, .ref 2, .ref 3, .ref 4, .int .i64 s.was.id, .int .i64 s.was.of_, .int .i64 s.was.role, .int .i64 s.was.commit, .int .i64 s.was.hard.term, .int .i64 s.was.hard.vote, .sl false 6 (s.was.hard.log.map encEnt), .sl false 1 (s.was.yes.map encI), .sl false 1 (s.was.next.map encI), .sl false 1 (s.was.match_.map encI), .ref 8005, .ref 6] (by kernel_rfl))), ?_⟩
    refine KF.conv (fun w => .tup [.agg [.int .i64 s.r.id, .int .i64 s.r.of_, .int .i64 s.r.role, .int .i64 s.r.commit, .int .i64 s.r.hard.term, .int .i64 s.r.hard.vote, .ref 1, .ref 2, .ref 3, .ref 4], .ref 7, .ref 6]) (fun w => [.box 102 [.int .i64 s.r.id, .int .i64 s.r.of_, .int .i64 s.r.role, .int .i64 s.r.commit, .int .i64 s.r.hard.term, .int .i64 s.r.hard.vote, .ref 1, .ref 2, .ref 3, .ref 4, .int .i64 s.was.id, .int .i64 s.was.of_, .int .i64 s.was.role, .int .i64 s.was.commit, .int .i64 s.was.hard.term, .int .i64 s.was.hard.vote, .sl false 6 (s.was.hard.log.map encEnt), .sl false 1 (s.was.yes.map encI), .sl false 1 (s.was.next.map encI), .sl false 1 (s.was.match_.map encI), .un, .ref 6], .arr 45 6 (s.r.hard.log.map encEnt), .arr 3 1 (s.r.yes.map encI), .arr 3 1 (s.r.next.map encI), .arr 3 1 (s.r.match_.map encI), .dead, .arr 51 17 (s.outs.map encOut), .arr 47 10 (w.map encRec)]) (show (([(⟨1, s.r.hard.term, s.r.hard.vote, 0, ⟨0, ⟨0, 0, 0, 0, (⟨#[]⟩ : ByteArray)⟩⟩⟩ : Rec)]) ++ s.recs) = (endRecs s) from by simp [endRecs, voteRec, h1]; try rfl) ?_
    exact KF.m [(0, 0), (1, 1), (2, 2), (3, 3), (4, 4), (5, 5), (6, 6), (155, 7)] [.agg [.int .i64 s.r.id, .int .i64 s.r.of_, .int .i64 s.r.role, .int .i64 s.r.commit, .int .i64 s.r.hard.term, .int .i64 s.r.hard.vote, .ref 1, .ref 2, .ref 3, .ref 4], .ref 155, .ref 6]
set_option maxRecDepth 100000 in
set_option maxHeartbeats 4000000 in
theorem impl_stepper_follow_spec  (s : Stepper) : FnSpec Tryz.prog 92 [.ptr 0 0 0] [.box 102 [.int .i64 s.r.id, .int .i64 s.r.of_, .int .i64 s.r.role, .int .i64 s.r.commit, .int .i64 s.r.hard.term, .int .i64 s.r.hard.vote, .ref 1, .ref 2, .ref 3, .ref 4, .int .i64 s.was.id, .int .i64 s.was.of_, .int .i64 s.was.role, .int .i64 s.was.commit, .int .i64 s.was.hard.term, .int .i64 s.was.hard.vote, .sl false 6 (s.was.hard.log.map encEnt), .sl false 1 (s.was.yes.map encI), .sl false 1 (s.was.next.map encI), .sl false 1 (s.was.match_.map encI), .ref 5, .ref 6], .arr 45 6 (s.r.hard.log.map encEnt), .arr 3 1 (s.r.yes.map encI), .arr 3 1 (s.r.next.map encI), .arr 3 1 (s.r.match_.map encI), .arr 47 10 (s.recs.map encRec), .arr 51 17 (s.outs.map encOut)] (.tup []) [.box 102 [.int .i64 s.r.id, .int .i64 s.r.of_, .int .i64 1, .int .i64 s.r.commit, .int .i64 s.r.hard.term, .int .i64 s.r.hard.vote, .ref 1, .ref 7, .ref 8, .ref 9, .int .i64 s.was.id, .int .i64 s.was.of_, .int .i64 s.was.role, .int .i64 s.was.commit, .int .i64 s.was.hard.term, .int .i64 s.was.hard.vote, .sl false 6 (s.was.hard.log.map encEnt), .sl false 1 (s.was.yes.map encI), .sl false 1 (s.was.next.map encI), .sl false 1 (s.was.match_.map encI), .ref 5, .ref 6], .arr 45 6 (s.r.hard.log.map encEnt), .dead, .dead, .dead, .arr 47 10 (s.recs.map encRec), .arr 51 17 (s.outs.map encOut), .arr 3 1 [], .arr 3 1 [], .arr 3 1 []] := by
  refine FnSpec.of 18 Tryz.func92 rfl Tryz.ntmps92 (by simp) (AW.weakK ?_)
  refine AW.region (At.start ?_)
  refine At.a 20 ?_
  refine At.done rfl ?_
  refine ⟨_, (Sub.trans (Sub.trans (Sub.trans (Sub.nils [⟨true, 0, some 7, 5001, 3, 1⟩, ⟨true, 0, some 8, 5002, 3, 1⟩, ⟨true, 0, some 9, 5003, 3, 1⟩] (by kernel_rfl)) (Sub.mv 2 8002 (by kernel_rfl) (by decide))) (Sub.mv 3 8003 (by kernel_rfl) (by decide))) (Sub.mv 4 8004 (by kernel_rfl) (by decide))), ?_⟩
  refine KF.conv (fun w => .tup []) (fun w => [.box 102 [.int .i64 w.r.id, .int .i64 w.r.of_, .int .i64 w.r.role, .int .i64 w.r.commit, .int .i64 w.r.hard.term, .int .i64 w.r.hard.vote, .ref 1, .ref 7, .ref 8, .ref 9, .int .i64 w.was.id, .int .i64 w.was.of_, .int .i64 w.was.role, .int .i64 w.was.commit, .int .i64 w.was.hard.term, .int .i64 w.was.hard.vote, .sl false 6 (w.was.hard.log.map encEnt), .sl false 1 (w.was.yes.map encI), .sl false 1 (w.was.next.map encI), .sl false 1 (w.was.match_.map encI), .ref 5, .ref 6], .arr 45 6 (w.r.hard.log.map encEnt), .dead, .dead, .dead, .arr 47 10 (w.recs.map encRec), .arr 51 17 (w.outs.map encOut), .arr 3 1 (w.r.yes.map encI), .arr 3 1 (w.r.next.map encI), .arr 3 1 (w.r.match_.map encI)]) (show ((⟨⟨s.r.id, s.r.of_, 1, s.r.commit, ⟨s.r.hard.term, s.r.hard.vote, s.r.hard.log⟩, [], [], []⟩, s.was, s.recs, s.outs⟩ : Stepper)) = (({ s with r := ({ s.r with role := 1, yes := [], next := [], match_ := [] } : Raft) } : Stepper)) from by simp_all) ?_
  exact KF.m [(0, 0), (1, 1), (2, 2), (3, 3), (4, 4), (5, 5), (6, 6), (5001, 7), (5002, 8), (5003, 9)] []
set_option maxRecDepth 100000 in
set_option maxHeartbeats 4000000 in
theorem impl_stepper_followTerm_T_spec  (s : Stepper) (t_ : Int) (ht : t_ ≤ s.r.hard.term) : FnSpec Tryz.prog 91 [.ptr 0 0 0, .int .i64 t_] [.box 102 [.int .i64 s.r.id, .int .i64 s.r.of_, .int .i64 s.r.role, .int .i64 s.r.commit, .int .i64 s.r.hard.term, .int .i64 s.r.hard.vote, .ref 1, .ref 2, .ref 3, .ref 4, .int .i64 s.was.id, .int .i64 s.was.of_, .int .i64 s.was.role, .int .i64 s.was.commit, .int .i64 s.was.hard.term, .int .i64 s.was.hard.vote, .sl false 6 (s.was.hard.log.map encEnt), .sl false 1 (s.was.yes.map encI), .sl false 1 (s.was.next.map encI), .sl false 1 (s.was.match_.map encI), .ref 5, .ref 6], .arr 45 6 (s.r.hard.log.map encEnt), .arr 3 1 (s.r.yes.map encI), .arr 3 1 (s.r.next.map encI), .arr 3 1 (s.r.match_.map encI), .arr 47 10 (s.recs.map encRec), .arr 51 17 (s.outs.map encOut)] (.bool false) [.box 102 [.int .i64 s.r.id, .int .i64 s.r.of_, .int .i64 s.r.role, .int .i64 s.r.commit, .int .i64 s.r.hard.term, .int .i64 s.r.hard.vote, .ref 1, .ref 2, .ref 3, .ref 4, .int .i64 s.was.id, .int .i64 s.was.of_, .int .i64 s.was.role, .int .i64 s.was.commit, .int .i64 s.was.hard.term, .int .i64 s.was.hard.vote, .sl false 6 (s.was.hard.log.map encEnt), .sl false 1 (s.was.yes.map encI), .sl false 1 (s.was.next.map encI), .sl false 1 (s.was.match_.map encI), .ref 5, .ref 6], .arr 45 6 (s.r.hard.log.map encEnt), .arr 3 1 (s.r.yes.map encI), .arr 3 1 (s.r.next.map encI), .arr 3 1 (s.r.match_.map encI), .arr 47 10 (s.recs.map encRec), .arr 51 17 (s.outs.map encOut)] := by
  refine FnSpec.of 26 Tryz.func91 rfl Tryz.ntmps91 (by simp) (AW.weakK ?_)
  refine AW.r ?_
  refine At.a 1 ?_
  refine At.done rfl ?_
  refine AW.seq ?_
  refine AW.r ?_
  refine At.a 8 ?_
  refine At.done rfl ?_
  refine AW.condT (decide (t_ ≤ s.r.hard.term)) (by kernel_rfl) (decide_eq_true ht) ?_
  refine AW.r ?_
  refine At.a 1 ?_
  refine At.done rfl ?_
  refine AW.ret ?_
  refine ⟨_, Sub.refl _ _, ?_⟩
  exact KF.m [(0, 0), (1, 1), (2, 2), (3, 3), (4, 4), (5, 5), (6, 6)] [.bool false]
set_option maxRecDepth 100000 in
set_option maxHeartbeats 4000000 in
theorem impl_stepper_followTerm_F_spec  (s : Stepper) (t_ : Int) (ht : ¬ t_ ≤ s.r.hard.term) : FnSpec Tryz.prog 91 [.ptr 0 0 0, .int .i64 t_] [.box 102 [.int .i64 s.r.id, .int .i64 s.r.of_, .int .i64 s.r.role, .int .i64 s.r.commit, .int .i64 s.r.hard.term, .int .i64 s.r.hard.vote, .ref 1, .ref 2, .ref 3, .ref 4, .int .i64 s.was.id, .int .i64 s.was.of_, .int .i64 s.was.role, .int .i64 s.was.commit, .int .i64 s.was.hard.term, .int .i64 s.was.hard.vote, .sl false 6 (s.was.hard.log.map encEnt), .sl false 1 (s.was.yes.map encI), .sl false 1 (s.was.next.map encI), .sl false 1 (s.was.match_.map encI), .ref 5, .ref 6], .arr 45 6 (s.r.hard.log.map encEnt), .arr 3 1 (s.r.yes.map encI), .arr 3 1 (s.r.next.map encI), .arr 3 1 (s.r.match_.map encI), .arr 47 10 (s.recs.map encRec), .arr 51 17 (s.outs.map encOut)] (.bool true) [.box 102 [.int .i64 s.r.id, .int .i64 s.r.of_, .int .i64 1, .int .i64 s.r.commit, .int .i64 t_, .int .i64 0, .ref 1, .ref 7, .ref 8, .ref 9, .int .i64 s.was.id, .int .i64 s.was.of_, .int .i64 s.was.role, .int .i64 s.was.commit, .int .i64 s.was.hard.term, .int .i64 s.was.hard.vote, .sl false 6 (s.was.hard.log.map encEnt), .sl false 1 (s.was.yes.map encI), .sl false 1 (s.was.next.map encI), .sl false 1 (s.was.match_.map encI), .ref 5, .ref 6], .arr 45 6 (s.r.hard.log.map encEnt), .dead, .dead, .dead, .arr 47 10 (s.recs.map encRec), .arr 51 17 (s.outs.map encOut), .arr 3 1 [], .arr 3 1 [], .arr 3 1 []] := by
  refine FnSpec.of 26 Tryz.func91 rfl Tryz.ntmps91 (by simp) (AW.weakK ?_)
  refine AW.r ?_
  refine At.a 1 ?_
  refine At.done rfl ?_
  refine AW.seq ?_
  refine AW.r ?_
  refine At.a 8 ?_
  refine At.done rfl ?_
  refine AW.condF (decide (t_ ≤ s.r.hard.term)) (by kernel_rfl) (decide_eq_false ht) ?_
  refine AW.skip ?_
  refine AW.r ?_
  refine At.a 1 ?_
  refine At.c (impl_stepper_follow_spec  s ) Tryz.call92 true [(0, 0), (1, 1), (2, 2), (3, 3), (4, 4), (5, 5), (6, 6)] [(1280, 7), (1281, 8), (1282, 9)] [] trivial ?_
  refine At.done rfl ?_
  refine AW.r ?_
  refine At.a 13 ?_
  refine At.done rfl ?_
  refine AW.r ?_
  refine At.a 1 ?_
  refine At.done rfl ?_
  refine AW.ret ?_
  refine ⟨_, Sub.refl _ _, ?_⟩
  refine KF.conv (fun w => .bool true) (fun w => [.box 102 [.int .i64 w.r.id, .int .i64 w.r.of_, .int .i64 w.r.role, .int .i64 w.r.commit, .int .i64 w.r.hard.term, .int .i64 w.r.hard.vote, .ref 1, .ref 7, .ref 8, .ref 9, .int .i64 w.was.id, .int .i64 w.was.of_, .int .i64 w.was.role, .int .i64 w.was.commit, .int .i64 w.was.hard.term, .int .i64 w.was.hard.vote, .sl false 6 (w.was.hard.log.map encEnt), .sl false 1 (w.was.yes.map encI), .sl false 1 (w.was.next.map encI), .sl false 1 (w.was.match_.map encI), .ref 5, .ref 6], .arr 45 6 (w.r.hard.log.map encEnt), .dead, .dead, .dead, .arr 47 10 (w.recs.map encRec), .arr 51 17 (w.outs.map encOut), .arr 3 1 (w.r.yes.map encI), .arr 3 1 (w.r.next.map encI), .arr 3 1 (w.r.match_.map encI)]) (show ((⟨⟨s.r.id, s.r.of_, 1, s.r.commit, ⟨t_, 0, s.r.hard.log⟩, [], [], []⟩, s.was, s.recs, s.outs⟩ : Stepper)) = (({ s with r := ({ s.r with role := 1, yes := [], next := [], match_ := [], hard := { s.r.hard with term := t_, vote := 0 } } : Raft) } : Stepper)) from by simp_all) ?_
  exact KF.m [(0, 0), (1, 1), (2, 2), (3, 3), (4, 4), (5, 5), (6, 6), (1280, 7), (1281, 8), (1282, 9)] [.bool true]
set_option maxRecDepth 100000 in
set_option maxHeartbeats 4000000 in
theorem impl_stepper_put_spec  (s : Stepper) (e : Ent) (hl : s.r.hard.log.length ≤ 1048576) (hr : s.recs.length ≤ 1048576) : FnSpec Tryz.prog 102 [.ptr 0 0 0, .agg [.int .i64 e.term, .int .i64 e.cmd.kind, .int .i64 e.cmd.release, .int .i64 e.cmd.node, .int .i64 e.cmd.size, .str e.cmd.digest]] [.box 102 [.int .i64 s.r.id, .int .i64 s.r.of_, .int .i64 s.r.role, .int .i64 s.r.commit, .int .i64 s.r.hard.term, .int .i64 s.r.hard.vote, .ref 1, .ref 2, .ref 3, .ref 4, .int .i64 s.was.id, .int .i64 s.was.of_, .int .i64 s.was.role, .int .i64 s.was.commit, .int .i64 s.was.hard.term, .int .i64 s.was.hard.vote, .sl false 6 (s.was.hard.log.map encEnt), .sl false 1 (s.was.yes.map encI), .sl false 1 (s.was.next.map encI), .sl false 1 (s.was.match_.map encI), .ref 5, .ref 6], .arr 45 6 (s.r.hard.log.map encEnt), .arr 3 1 (s.r.yes.map encI), .arr 3 1 (s.r.next.map encI), .arr 3 1 (s.r.match_.map encI), .arr 47 10 (s.recs.map encRec), .arr 51 17 (s.outs.map encOut)] (.tup []) [.box 102 [.int .i64 s.r.id, .int .i64 s.r.of_, .int .i64 s.r.role, .int .i64 s.r.commit, .int .i64 s.r.hard.term, .int .i64 s.r.hard.vote, .ref 7, .ref 2, .ref 3, .ref 4, .int .i64 s.was.id, .int .i64 s.was.of_, .int .i64 s.was.role, .int .i64 s.was.commit, .int .i64 s.was.hard.term, .int .i64 s.was.hard.vote, .sl false 6 (s.was.hard.log.map encEnt), .sl false 1 (s.was.yes.map encI), .sl false 1 (s.was.next.map encI), .sl false 1 (s.was.match_.map encI), .ref 8, .ref 6], .dead, .arr 3 1 (s.r.yes.map encI), .arr 3 1 (s.r.next.map encI), .arr 3 1 (s.r.match_.map encI), .dead, .arr 51 17 (s.outs.map encOut), .arr 45 6 ((s.r.hard.log ++ [e]).map encEnt), .arr 47 10 ((s.recs ++ [(⟨2, 0, 0, ((s.r.hard.log ++ [e]).length : Int), e⟩ : Rec)]).map encRec)] := by
  refine FnSpec.of 36 Tryz.func102 rfl Tryz.ntmps102 (by simp) (AW.weakK ?_)
  refine AW.r ?_
  refine At.a 1 ?_
  refine At.done rfl ?_
  refine AW.seq ?_
  refine AW.regionD Tryz_mix (At.start ?_)
  refine At.a 8 ?_
  refine At.litK (t := 24) (d := 12) (e := 45) (es := 6) (bytes := 56) (n := 1) (parts := #[(0, .tmp 11)]) (45, 6) 112 [] [.int .i64 e.term, .int .i64 e.cmd.kind, .int .i64 e.cmd.release, .int .i64 e.cmd.node, .int .i64 e.cmd.size, .str e.cmd.digest] [.int .i64 e.term, .int .i64 e.cmd.kind, .int .i64 e.cmd.release, .int .i64 e.cmd.node, .int .i64 e.cmd.size, .str e.cmd.digest] [.int .i64 0, .int .i64 0, .int .i64 0, .int .i64 0, .int .i64 0, .str (⟨#[]⟩ : ByteArray)] [.agg [.int .i64 e.term, .int .i64 e.cmd.kind, .int .i64 e.cmd.release, .int .i64 e.cmd.node, .int .i64 e.cmd.size, .str e.cmd.digest]] [] (by kernel_rfl) (by kernel_rfl) (by kernel_rfl) (by kernel_rfl) rfl (fun p hp => by cases hp) (by kernel_rfl) ?_
  refine At.append (t := 24) (d := 13) (e := 45) (es := 6) (bytes := 56) (s := .tmp 10) (x := .tmp 12) (S := .ref 1) (T := .ref 112) (xs := (s.r.hard.log.map encEnt)) (ys := (([e]).map encEnt)) 113 [1] [112] ((s.r.hard.log ++ ([e])).map encEnt) (by kernel_rfl) (by kernel_rfl) (by kernel_rfl) (by kernel_rfl) ⟨by kernel_rfl, rfl⟩ ⟨by kernel_rfl, .inr rfl⟩ (by kernel_rfl) (by kernel_rfl) (by simp) (by simp only [List.length_map, List.length_append, List.length_take, List.length_drop, List.length_replicate, List.length_set, List.length_cons, List.length_nil]; omega) (by simp only [List.length_map, List.length_append, List.length_take, List.length_drop, List.length_replicate, List.length_set, List.length_cons, List.length_nil]; omega) ?_
  refine At.a 5 ?_
  refine At.done rfl ⟨by kernel_rfl, ?_⟩
  refine AW.regionD Tryz_mix (At.start ?_)
  refine At.a 12 ?_
  refine At.sL 29 encEnt (s.r.hard.log ++ ([e])) ?_
  refine At.a 2 ?_
  refine At.litK (t := 37) (d := 32) (e := 47) (es := 10) (bytes := 88) (n := 1) (parts := #[(0, .tmp 31)]) (45, 6) 132 [] [.int .i64 2, .int .i64 0, .int .i64 0, .int .i64 ((s.r.hard.log ++ ([e])).length : Int), .int .i64 e.term, .int .i64 e.cmd.kind, .int .i64 e.cmd.release, .int .i64 e.cmd.node, .int .i64 e.cmd.size, .str e.cmd.digest] [.int .i64 2, .int .i64 0, .int .i64 0, .int .i64 ((s.r.hard.log ++ ([e])).length : Int), .int .i64 e.term, .int .i64 e.cmd.kind, .int .i64 e.cmd.release, .int .i64 e.cmd.node, .int .i64 e.cmd.size, .str e.cmd.digest] [.int .i64 0, .int .i64 0, .int .i64 0, .int .i64 0, .int .i64 0, .int .i64 0, .int .i64 0, .int .i64 0, .int .i64 0, .str (⟨#[]⟩ : ByteArray)] [.agg [.int .i64 2, .int .i64 0, .int .i64 0, .int .i64 ((s.r.hard.log ++ ([e])).length : Int), .int .i64 e.term, .int .i64 e.cmd.kind, .int .i64 e.cmd.release, .int .i64 e.cmd.node, .int .i64 e.cmd.size, .str e.cmd.digest]] [] (by kernel_rfl) (by kernel_rfl) (by kernel_rfl) (by kernel_rfl) rfl (fun p hp => by cases hp) (by kernel_rfl) ?_
  refine At.append (t := 37) (d := 33) (e := 47) (es := 10) (bytes := 88) (s := .tmp 22) (x := .tmp 32) (S := .ref 5) (T := .ref 132) (xs := (s.recs.map encRec)) (ys := (([(⟨2, 0, 0, ((s.r.hard.log ++ ([e])).length : Int), e⟩ : Rec)]).map encRec)) 133 [5] [132] ((s.recs ++ ([(⟨2, 0, 0, ((s.r.hard.log ++ ([e])).length : Int), e⟩ : Rec)])).map encRec) (by kernel_rfl) (by kernel_rfl) (by kernel_rfl) (by kernel_rfl) ⟨by kernel_rfl, rfl⟩ ⟨by kernel_rfl, .inr rfl⟩ (by kernel_rfl) (by kernel_rfl) (by simp) (by simp only [List.length_map, List.length_append, List.length_take, List.length_drop, List.length_replicate, List.length_set, List.length_cons, List.length_nil]; omega) (by simp only [List.length_map, List.length_append, List.length_take, List.length_drop, List.length_replicate, List.length_set, List.length_cons, List.length_nil]; omega) ?_
  refine At.a 3 ?_
  refine At.done rfl ⟨by kernel_rfl, ?_⟩
  refine ⟨_, Sub.refl _ _, ?_⟩
  refine KF.conv (fun w => .tup []) (fun w => [.box 102 [.int .i64 w.r.id, .int .i64 w.r.of_, .int .i64 w.r.role, .int .i64 w.r.commit, .int .i64 w.r.hard.term, .int .i64 w.r.hard.vote, .ref 7, .ref 2, .ref 3, .ref 4, .int .i64 w.was.id, .int .i64 w.was.of_, .int .i64 w.was.role, .int .i64 w.was.commit, .int .i64 w.was.hard.term, .int .i64 w.was.hard.vote, .sl false 6 (w.was.hard.log.map encEnt), .sl false 1 (w.was.yes.map encI), .sl false 1 (w.was.next.map encI), .sl false 1 (w.was.match_.map encI), .ref 8, .ref 6], .dead, .arr 3 1 (w.r.yes.map encI), .arr 3 1 (w.r.next.map encI), .arr 3 1 (w.r.match_.map encI), .dead, .arr 51 17 (w.outs.map encOut), .arr 45 6 (w.r.hard.log.map encEnt), .arr 47 10 (w.recs.map encRec)]) (show ((⟨⟨s.r.id, s.r.of_, s.r.role, s.r.commit, ⟨s.r.hard.term, s.r.hard.vote, s.r.hard.log ++ ([e])⟩, s.r.yes, s.r.next, s.r.match_⟩, s.was, s.recs ++ ([(⟨2, 0, 0, ((s.r.hard.log ++ ([e])).length : Int), e⟩ : Rec)]), s.outs⟩ : Stepper)) = (({ s with r := ({ s.r with hard := { s.r.hard with log := s.r.hard.log ++ [e] } } : Raft), recs := s.recs ++ [(⟨2, 0, 0, ((s.r.hard.log ++ [e]).length : Int), e⟩ : Rec)] } : Stepper)) from by rfl) ?_
  exact KF.m [(0, 0), (1, 1), (2, 2), (3, 3), (4, 4), (5, 5), (6, 6), (113, 7), (133, 8)] []
set_option maxRecDepth 100000 in
set_option maxHeartbeats 4000000 in
theorem impl_stepper_take_spec  (s : Stepper) (m : Msg) (hm : m.entries.length ≤ 6) (ha : 0 ≤ m.at_ ∧ m.at_ ≤ s.r.hard.log.length) (hl : s.r.hard.log.length ≤ 80) (hr : s.recs.length ≤ 1000) : FnSpec Tryz.prog 94 [.ptr 0 0 0, .agg [.int .i64 m.kind, .int .i64 m.from_, .int .i64 m.term, .int .i64 m.at_, .int .i64 m.atTerm, .int .i64 m.commit, .bool m.yes, .int .i64 m.release, .int .i64 m.part, .str m.bytes, .int .i64 m.cmd.kind, .int .i64 m.cmd.release, .int .i64 m.cmd.node, .int .i64 m.cmd.size, .str m.cmd.digest, .sl false 6 (m.entries.map encEnt)]] [.box 102 [.int .i64 s.r.id, .int .i64 s.r.of_, .int .i64 s.r.role, .int .i64 s.r.commit, .int .i64 s.r.hard.term, .int .i64 s.r.hard.vote, .ref 1, .ref 2, .ref 3, .ref 4, .int .i64 s.was.id, .int .i64 s.was.of_, .int .i64 s.was.role, .int .i64 s.was.commit, .int .i64 s.was.hard.term, .int .i64 s.was.hard.vote, .sl false 6 (s.was.hard.log.map encEnt), .sl false 1 (s.was.yes.map encI), .sl false 1 (s.was.next.map encI), .sl false 1 (s.was.match_.map encI), .ref 5, .ref 6], .arr 45 6 (s.r.hard.log.map encEnt), .arr 3 1 (s.r.yes.map encI), .arr 3 1 (s.r.next.map encI), .arr 3 1 (s.r.match_.map encI), .arr 47 10 (s.recs.map encRec), .arr 51 17 (s.outs.map encOut)] (.int .i64 ((takeE m.entries m.at_ s.r.hard.log s.recs).2.2)) [.box 102 [.int .i64 s.r.id, .int .i64 s.r.of_, .int .i64 s.r.role, .int .i64 s.r.commit, .int .i64 s.r.hard.term, .int .i64 s.r.hard.vote, .ref 7, .ref 2, .ref 3, .ref 4, .int .i64 s.was.id, .int .i64 s.was.of_, .int .i64 s.was.role, .int .i64 s.was.commit, .int .i64 s.was.hard.term, .int .i64 s.was.hard.vote, .sl false 6 (s.was.hard.log.map encEnt), .sl false 1 (s.was.yes.map encI), .sl false 1 (s.was.next.map encI), .sl false 1 (s.was.match_.map encI), .ref 8, .ref 6], .dead, .arr 3 1 (s.r.yes.map encI), .arr 3 1 (s.r.next.map encI), .arr 3 1 (s.r.match_.map encI), .dead, .arr 51 17 (s.outs.map encOut), .arr 45 6 (((takeE m.entries m.at_ s.r.hard.log s.recs).1).map encEnt), .arr 47 10 (((takeE m.entries m.at_ s.r.hard.log s.recs).2.1).map encRec)] := by
  refine FnSpec.of 95 Tryz.func94 rfl Tryz.ntmps94 (by simp) (AW.weakK ?_)
  refine AW.r ?_
  refine At.a 2 ?_
  refine At.done rfl ?_
  refine AW.r ?_
  refine At.a 3 ?_
  refine At.done rfl ?_
  refine AW.seq ?_
  refine AW.r ?_
  refine At.a 3 ?_
  refine At.sL 13 encEnt m.entries ?_
  refine At.a 1 ?_
  refine At.done rfl ?_
  refine AW.block ?_
  refine AW.weak (Sub.mv 1 7000 (by kernel_rfl) (by decide)) ?_
  refine AW.weak (Sub.mv 5 7001 (by kernel_rfl) (by decide)) ?_
  refine AW.loopW (fun (x : Nat × Int × List Ent × List Rec) => match x with | (k, b, lg, rc) => Go.Sy.mk [.ptr 0 0 0, .un, .un, .ptr 103 0 0, .un, .int .i64 b, .un, .un, .un, .un, .un, .un, .sl false 6 (m.entries.map encEnt), .int .i64 (m.entries.length : Int), .int .i64 (k : Int)] [(0, .box 102 [.int .i64 s.r.id, .int .i64 s.r.of_, .int .i64 s.r.role, .int .i64 s.r.commit, .int .i64 s.r.hard.term, .int .i64 s.r.hard.vote, .ref 7000, .ref 2, .ref 3, .ref 4, .int .i64 s.was.id, .int .i64 s.was.of_, .int .i64 s.was.role, .int .i64 s.was.commit, .int .i64 s.was.hard.term, .int .i64 s.was.hard.vote, .sl false 6 (s.was.hard.log.map encEnt), .sl false 1 (s.was.yes.map encI), .sl false 1 (s.was.next.map encI), .sl false 1 (s.was.match_.map encI), .ref 7001, .ref 6]), (1, .dead), (2, .arr 3 1 (s.r.yes.map encI)), (3, .arr 3 1 (s.r.next.map encI)), (4, .arr 3 1 (s.r.match_.map encI)), (5, .dead), (6, .arr 51 17 (s.outs.map encOut)), (103, .box 33 [.int .i64 m.kind, .int .i64 m.from_, .int .i64 m.term, .int .i64 m.at_, .int .i64 m.atTerm, .int .i64 m.commit, .bool m.yes, .int .i64 m.release, .int .i64 m.part, .str m.bytes, .int .i64 m.cmd.kind, .int .i64 m.cmd.release, .int .i64 m.cmd.node, .int .i64 m.cmd.size, .str m.cmd.digest, .sl false 6 (m.entries.map encEnt)]), (7000, .arr 45 6 (lg.map encEnt)), (7001, .arr 47 10 (rc.map encRec))]) (fun (x : Nat × Int × List Ent × List Rec) => match x with | (k, b, lg, rc) => k ≤ m.entries.length ∧ (b = m.at_ + (k : Int) ∧ b ≤ lg.length ∧ lg.length ≤ 80 ∧ rc.length ≤ 1000 + 2 * k) ∧ takeE m.entries m.at_ s.r.hard.log s.recs = takeE (m.entries.drop k) b lg rc) (fun (x : Nat × Int × List Ent × List Rec) => match x with | (k, b, lg, rc) => m.entries.length - k) (0, m.at_, s.r.hard.log, s.recs) ⟨by omega, by omega, by rw [List.drop_zero]⟩ (Sub.o [(0, 0), (1, 1), (2, 2), (3, 3), (4, 4), (5, 5), (6, 6), (103, 103), (7000, 7000), (7001, 7001)] [true, false, false, true, false, true, false, false, false, false, false, false, true, true, true]) ?_
  rintro ⟨k, b, lg, rc⟩ ⟨hk, hb, hR⟩
  refine AW.r ?_
  refine At.a 1 ?_
  refine At.done rfl ?_
  refine AW.seq ?_
  refine AW.cD ((k : Int) < (m.entries.length : Int)) (fun h1 => ?_) (fun h1 => ?_)
  · skip
    refine AW.skip ?_
    refine AW.seq ?_
    refine AW.block ?_
    refine AW.r ?_
    refine At.a 1 ?_
    refine At.iSl 24 17 (.tmp 12) (.tmp 14) false 6 (m.entries.map encEnt) .i64 (k : Int) 45 (by omega) (by simp only [List.length_map, List.length_append, List.length_take, List.length_drop, List.length_replicate, List.length_set, List.length_cons, List.length_nil]; omega) ?_
    refine Exists.elim (show ∃ e, m.entries[k]? = some e from ⟨_, List.getElem?_eq_getElem (by omega)⟩) fun e1 he1 => ?_
    refine At.lVp 45 18 (.tmp 17) false 6 (m.entries.map encEnt) k 0 true 6 (encEnt e1) (.agg [.int .i64 e1.term, .int .i64 e1.cmd.kind, .int .i64 e1.cmd.release, .int .i64 e1.cmd.node, .int .i64 e1.cmd.size, .str e1.cmd.digest]) (mapGet he1) ?_
    refine At.a 3 ?_
    refine At.done rfl ?_
    refine AW.r ?_
    refine At.a 4 ?_
    refine At.sI 22 (m.at_ + (k : Int)) (by omega) ?_
    refine At.a 1 ?_
    refine At.say 23 (.int .i64 (IntKind.i64.wrap ((m.at_ + (k : Int)) + 1))) (.int .i64 (b + 1)) (by kernel_rfl) (sayAs (by omega) (by omega)) ?_
    refine At.a 1 ?_
    refine At.done rfl ?_
    refine AW.seq ?_
    refine AW.seq ?_
    refine AW.regionD Tryz_mix (At.start ?_)
    refine At.a 8 ?_
    refine At.sL 31 encEnt lg ?_
    refine At.a 2 ?_
    by_cases h2 : (b + 1) ≤ (lg.length : Int)
    · refine At.sB 33 (decide ((b + 1) ≤ (lg.length : Int))) true (sayT h2) ?_
      refine At.a 7 ?_
      refine At.c (impl_termAt_spec  lg (b + 1) (by omega) (by omega)) Tryz.call158 false [] [] [(7000, 6, (lg.map encEnt))] ⟨rfl, ⟨45, (lg.map encEnt), by kernel_rfl, FrzIs.same (allP_encEnt _)⟩, trivial⟩ ?_
      refine At.a 4 ?_
      refine At.done rfl ⟨by kernel_rfl, ?_⟩
      refine AW.cU (termAt lg (b + 1)) e1.term (fun h3 => ?_) (fun h3 => ?_)
      · skip
        refine AW.r ?_
        refine At.a 9 ?_
        refine At.sJ 54 ((b + 1) - 1) b (by omega) (by omega) ?_
        refine At.cutRef (t := 24) (d := 55) (e := 45) (es := 6) (i := 7000) (x := .tmp 52) (lx := none) (hx := some (.tmp 54)) (xs := (lg.map encEnt)) (vl := .un) (vh := .int .i64 b) 155 ((b).toNat) ((lg.take ((b).toNat)).map encEnt) (by kernel_rfl) (by kernel_rfl) (by kernel_rfl) (by kernel_rfl) (by kernel_rfl) (by kernel_rfl) (by decide) (.inl ⟨rfl, rfl⟩) (.inr ⟨_, _, rfl, sayNat (by omega)⟩) (by simp only [List.length_map, List.length_append, List.length_take, List.length_drop, List.length_replicate, List.length_set, List.length_cons, List.length_nil]; omega) (by rw [List.map_take]) ?_
        refine At.a 5 ?_
        refine At.done rfl ?_
        refine AW.region (At.start ?_)
        refine At.a 7 ?_
        refine At.sJ 66 ((b + 1) - 1) b (by omega) (by omega) ?_
        refine At.a 1 ?_
        refine At.litK (t := 37) (d := 68) (e := 47) (es := 10) (bytes := 88) (n := 1) (parts := #[(0, .tmp 67)]) (45, 6) 168 [] [.int .i64 3, .int .i64 0, .int .i64 0, .int .i64 b, .int .i64 0, .int .i64 0, .int .i64 0, .int .i64 0, .int .i64 0, .str (⟨#[]⟩ : ByteArray)] [.int .i64 3, .int .i64 0, .int .i64 0, .int .i64 b, .int .i64 0, .int .i64 0, .int .i64 0, .int .i64 0, .int .i64 0, .str (⟨#[]⟩ : ByteArray)] [.int .i64 0, .int .i64 0, .int .i64 0, .int .i64 0, .int .i64 0, .int .i64 0, .int .i64 0, .int .i64 0, .int .i64 0, .str (⟨#[]⟩ : ByteArray)] [.agg [.int .i64 3, .int .i64 0, .int .i64 0, .int .i64 b, .int .i64 0, .int .i64 0, .int .i64 0, .int .i64 0, .int .i64 0, .str (⟨#[]⟩ : ByteArray)]] [] (by kernel_rfl) (by kernel_rfl) (by kernel_rfl) (by kernel_rfl) rfl (fun p hp => by cases hp) (by kernel_rfl) ?_
        refine At.append (t := 37) (d := 69) (e := 47) (es := 10) (bytes := 88) (s := .tmp 64) (x := .tmp 68) (S := .ref 7001) (T := .ref 168) (xs := (rc.map encRec)) (ys := (([(⟨3, 0, 0, b, ⟨0, ⟨0, 0, 0, 0, (⟨#[]⟩ : ByteArray)⟩⟩⟩ : Rec)]).map encRec)) 169 [7001] [168] ((rc ++ ([(⟨3, 0, 0, b, ⟨0, ⟨0, 0, 0, 0, (⟨#[]⟩ : ByteArray)⟩⟩⟩ : Rec)])).map encRec) (by kernel_rfl) (by kernel_rfl) (by kernel_rfl) (by kernel_rfl) ⟨by kernel_rfl, rfl⟩ ⟨by kernel_rfl, .inr rfl⟩ (by kernel_rfl) (by kernel_rfl) (by simp) (by simp only [List.length_map, List.length_append, List.length_take, List.length_drop, List.length_replicate, List.length_set, List.length_cons, List.length_nil]; omega) (by simp only [List.length_map, List.length_append, List.length_take, List.length_drop, List.length_replicate, List.length_set, List.length_cons, List.length_nil]; omega) ?_
        refine At.a 3 ?_
        refine At.done rfl ?_
        refine AW.seq ?_
        refine AW.r ?_
        refine At.a 8 ?_
        refine At.sL 79 encEnt (lg.take ((b).toNat)) ?_
        refine At.a 1 ?_
        refine At.done rfl ?_
        refine AW.condT (decide ((b + 1) > ((lg.take ((b).toNat)).length : Int))) (by kernel_rfl) (decide_eq_true (by rw [List.length_take]; omega)) ?_
        refine AW.seq ?_
        refine AW.r ?_
        refine At.a 7 ?_
        refine At.sL 87 encEnt (lg.take ((b).toNat)) ?_
        refine At.a 1 ?_
        refine At.done rfl ?_
        refine AW.condF (((lg.take ((b).toNat)).length : Int) == 80) (by kernel_rfl) (beq_eq_false_iff_ne.2 (by rw [List.length_take]; omega)) ?_
        refine AW.skip ?_
        refine AW.region (At.start ?_)
        refine At.a 2 ?_
        refine At.c (impl_stepper_put_spec  (⟨⟨s.r.id, s.r.of_, s.r.role, s.r.commit, ⟨s.r.hard.term, s.r.hard.vote, lg.take ((b).toNat)⟩, s.r.yes, s.r.next, s.r.match_⟩, s.was, rc ++ ([(⟨3, 0, 0, b, ⟨0, ⟨0, 0, 0, 0, (⟨#[]⟩ : ByteArray)⟩⟩⟩ : Rec)]), s.outs⟩ : Stepper) e1 (by dsimp only; first | omega | (rw [List.length_take]; omega)) (by dsimp only; first | omega | (simp only [List.length_append, List.length_cons, List.length_nil]; omega))) Tryz.call102 true [(0, 0), (155, 1), (2, 2), (3, 3), (4, 4), (169, 5), (6, 6)] [(2820, 7), (2821, 8)] [] trivial ?_
        refine At.done rfl ?_
        refine AW.region (At.start ?_)
        refine At.a 2 ?_
        refine At.done rfl ?_
        refine AW.region (At.start ?_)
        refine At.a 1 ?_
        refine At.sI 93 ((k : Int) + 1) (by omega) ?_
        refine At.a 1 ?_
        refine At.done rfl ?_
        exact ⟨(k + 1, (b + 1), ((lg.take ((b).toNat)) ++ [e1]), ((rc ++ ([(⟨3, 0, 0, b, ⟨0, ⟨0, 0, 0, 0, (⟨#[]⟩ : ByteArray)⟩⟩⟩ : Rec)])) ++ [(⟨2, 0, 0, (((lg.take ((b).toNat)) ++ [e1]).length : Int), e1⟩ : Rec)])), ⟨by omega, ⟨by omega, by simp only [List.length_append, List.length_take, List.length_cons, List.length_nil]; omega, by simp only [List.length_append, List.length_take, List.length_cons, List.length_nil]; omega, by simp only [List.length_append, List.length_cons, List.length_nil]; omega⟩, by rw [hR, dropCons (by assumption)]; exact takeE_cut2 (by omega) (by assumption) (by simp only [List.length_append, List.length_take, List.length_cons, List.length_nil]; omega)⟩, (by simp only; omega), Sub.o [(0, 0), (1, 1), (2, 2), (3, 3), (4, 4), (5, 5), (6, 6), (103, 103), (2820, 7000), (2821, 7001)] [true, false, false, true, false, true, false, false, false, false, false, false, true, true, true]⟩
      · skip
        refine AW.skip ?_
        refine AW.seq ?_
        refine AW.r ?_
        refine At.a 8 ?_
        refine At.sL 79 encEnt lg ?_
        refine At.a 1 ?_
        refine At.done rfl ?_
        refine AW.cD ((b + 1) > (lg.length : Int)) (fun h4 => ?_) (fun h4 => ?_)
        · skip
          refine AW.seq ?_
          refine AW.r ?_
          refine At.a 7 ?_
          refine At.sL 87 encEnt lg ?_
          refine At.a 1 ?_
          refine At.done rfl ?_
          refine AW.cE (lg.length : Int) (80 : Int) (fun h5 => ?_) (fun h5 => ?_)
          · skip
            refine AW.exit ?_
            refine AW.r ?_
            refine At.a 2 ?_
            refine At.done rfl ?_
            refine AW.ret ?_
            refine ⟨_, Sub.refl _ _, ?_⟩
            refine KF.conv (fun w => .int .i64 w) (fun w => [.box 102 [.int .i64 s.r.id, .int .i64 s.r.of_, .int .i64 s.r.role, .int .i64 s.r.commit, .int .i64 s.r.hard.term, .int .i64 s.r.hard.vote, .ref 7, .ref 2, .ref 3, .ref 4, .int .i64 s.was.id, .int .i64 s.was.of_, .int .i64 s.was.role, .int .i64 s.was.commit, .int .i64 s.was.hard.term, .int .i64 s.was.hard.vote, .sl false 6 (s.was.hard.log.map encEnt), .sl false 1 (s.was.yes.map encI), .sl false 1 (s.was.next.map encI), .sl false 1 (s.was.match_.map encI), .ref 8, .ref 6], .dead, .arr 3 1 (s.r.yes.map encI), .arr 3 1 (s.r.next.map encI), .arr 3 1 (s.r.match_.map encI), .dead, .arr 51 17 (s.outs.map encOut), .arr 45 6 (((takeE m.entries m.at_ s.r.hard.log s.recs).1).map encEnt), .arr 47 10 (((takeE m.entries m.at_ s.r.hard.log s.recs).2.1).map encRec)]) (show (b) = ((takeE m.entries m.at_ s.r.hard.log s.recs).2.2) from by rw [hR, List.drop_of_length_le (by omega)]; rfl) ?_
            refine KF.conv (fun w => .int .i64 b) (fun w => [.box 102 [.int .i64 w.r.id, .int .i64 w.r.of_, .int .i64 w.r.role, .int .i64 w.r.commit, .int .i64 w.r.hard.term, .int .i64 w.r.hard.vote, .ref 7, .ref 2, .ref 3, .ref 4, .int .i64 w.was.id, .int .i64 w.was.of_, .int .i64 w.was.role, .int .i64 w.was.commit, .int .i64 w.was.hard.term, .int .i64 w.was.hard.vote, .sl false 6 (w.was.hard.log.map encEnt), .sl false 1 (w.was.yes.map encI), .sl false 1 (w.was.next.map encI), .sl false 1 (w.was.match_.map encI), .ref 8, .ref 6], .dead, .arr 3 1 (w.r.yes.map encI), .arr 3 1 (w.r.next.map encI), .arr 3 1 (w.r.match_.map encI), .dead, .arr 51 17 (w.outs.map encOut), .arr 45 6 (w.r.hard.log.map encEnt), .arr 47 10 (w.recs.map encRec)]) (show ((⟨⟨s.r.id, s.r.of_, s.r.role, s.r.commit, ⟨s.r.hard.term, s.r.hard.vote, lg⟩, s.r.yes, s.r.next, s.r.match_⟩, s.was, rc, s.outs⟩ : Stepper)) = (({ s with r := { s.r with hard := { s.r.hard with log := (takeE m.entries m.at_ s.r.hard.log s.recs).1 } }, recs := (takeE m.entries m.at_ s.r.hard.log s.recs).2.1 } : Stepper)) from by rw [hR, List.drop_of_length_le (by omega)]; rfl) ?_
            exact KF.m [(0, 0), (1, 1), (2, 2), (3, 3), (4, 4), (5, 5), (6, 6), (7000, 7), (7001, 8)] [.int .i64 b]
          · skip
            refine AW.skip ?_
            refine AW.region (At.start ?_)
            refine At.a 2 ?_
            refine At.c (impl_stepper_put_spec  (⟨⟨s.r.id, s.r.of_, s.r.role, s.r.commit, ⟨s.r.hard.term, s.r.hard.vote, lg⟩, s.r.yes, s.r.next, s.r.match_⟩, s.was, rc, s.outs⟩ : Stepper) e1 (by dsimp only; first | omega | (rw [List.length_take]; omega)) (by dsimp only; first | omega | (simp only [List.length_append, List.length_cons, List.length_nil]; omega))) Tryz.call102 true [(0, 0), (7000, 1), (2, 2), (3, 3), (4, 4), (7001, 5), (6, 6)] [(2820, 7), (2821, 8)] [] trivial ?_
            refine At.done rfl ?_
            refine AW.region (At.start ?_)
            refine At.a 2 ?_
            refine At.done rfl ?_
            refine AW.region (At.start ?_)
            refine At.a 1 ?_
            refine At.sI 93 ((k : Int) + 1) (by omega) ?_
            refine At.a 1 ?_
            refine At.done rfl ?_
            exact ⟨(k + 1, (b + 1), (lg ++ [e1]), (rc ++ [(⟨2, 0, 0, ((lg ++ [e1]).length : Int), e1⟩ : Rec)])), ⟨by omega, ⟨by omega, by omega, by omega, by omega⟩, by exfalso; omega⟩, (by omega), Sub.o [(0, 0), (1, 1), (2, 2), (3, 3), (4, 4), (5, 5), (6, 6), (103, 103), (2820, 7000), (2821, 7001)] [true, false, false, true, false, true, false, false, false, false, false, false, true, true, true]⟩
        · skip
          refine AW.skip ?_
          refine AW.region (At.start ?_)
          refine At.a 2 ?_
          refine At.done rfl ?_
          refine AW.region (At.start ?_)
          refine At.a 1 ?_
          refine At.sI 93 ((k : Int) + 1) (by omega) ?_
          refine At.a 1 ?_
          refine At.done rfl ?_
          exact ⟨(k + 1, (b + 1), lg, rc), ⟨by omega, ⟨by omega, by omega, by omega, by omega⟩, by rw [hR, dropCons (by assumption), takeE_same (by omega) (by assumption)]⟩, (by simp only; omega), Sub.o [(0, 0), (1, 1), (2, 2), (3, 3), (4, 4), (5, 5), (6, 6), (103, 103), (7000, 7000), (7001, 7001)] [true, false, false, true, false, true, false, false, false, false, false, false, true, true, true]⟩
    · refine At.sB 33 (decide ((b + 1) ≤ (lg.length : Int))) false (sayF h2) ?_
      refine At.a 12 ?_
      refine At.done rfl ⟨by kernel_rfl, ?_⟩
      refine AW.cond false (by kernel_rfl) (fun h => by cases h) (fun _ => ?_)
      refine AW.skip ?_
      refine AW.seq ?_
      refine AW.r ?_
      refine At.a 8 ?_
      refine At.sL 79 encEnt lg ?_
      refine At.a 1 ?_
      refine At.done rfl ?_
      refine AW.cD ((b + 1) > (lg.length : Int)) (fun h6 => ?_) (fun h6 => ?_)
      · skip
        refine AW.seq ?_
        refine AW.r ?_
        refine At.a 7 ?_
        refine At.sL 87 encEnt lg ?_
        refine At.a 1 ?_
        refine At.done rfl ?_
        refine AW.cE (lg.length : Int) (80 : Int) (fun h7 => ?_) (fun h7 => ?_)
        · skip
          refine AW.exit ?_
          refine AW.r ?_
          refine At.a 2 ?_
          refine At.done rfl ?_
          refine AW.ret ?_
          refine ⟨_, Sub.refl _ _, ?_⟩
          refine KF.conv (fun w => .int .i64 w) (fun w => [.box 102 [.int .i64 s.r.id, .int .i64 s.r.of_, .int .i64 s.r.role, .int .i64 s.r.commit, .int .i64 s.r.hard.term, .int .i64 s.r.hard.vote, .ref 7, .ref 2, .ref 3, .ref 4, .int .i64 s.was.id, .int .i64 s.was.of_, .int .i64 s.was.role, .int .i64 s.was.commit, .int .i64 s.was.hard.term, .int .i64 s.was.hard.vote, .sl false 6 (s.was.hard.log.map encEnt), .sl false 1 (s.was.yes.map encI), .sl false 1 (s.was.next.map encI), .sl false 1 (s.was.match_.map encI), .ref 8, .ref 6], .dead, .arr 3 1 (s.r.yes.map encI), .arr 3 1 (s.r.next.map encI), .arr 3 1 (s.r.match_.map encI), .dead, .arr 51 17 (s.outs.map encOut), .arr 45 6 (((takeE m.entries m.at_ s.r.hard.log s.recs).1).map encEnt), .arr 47 10 (((takeE m.entries m.at_ s.r.hard.log s.recs).2.1).map encRec)]) (show (b) = ((takeE m.entries m.at_ s.r.hard.log s.recs).2.2) from by rw [hR, dropCons (by assumption), takeE_full (by omega) (by omega)]) ?_
          refine KF.conv (fun w => .int .i64 b) (fun w => [.box 102 [.int .i64 w.r.id, .int .i64 w.r.of_, .int .i64 w.r.role, .int .i64 w.r.commit, .int .i64 w.r.hard.term, .int .i64 w.r.hard.vote, .ref 7, .ref 2, .ref 3, .ref 4, .int .i64 w.was.id, .int .i64 w.was.of_, .int .i64 w.was.role, .int .i64 w.was.commit, .int .i64 w.was.hard.term, .int .i64 w.was.hard.vote, .sl false 6 (w.was.hard.log.map encEnt), .sl false 1 (w.was.yes.map encI), .sl false 1 (w.was.next.map encI), .sl false 1 (w.was.match_.map encI), .ref 8, .ref 6], .dead, .arr 3 1 (w.r.yes.map encI), .arr 3 1 (w.r.next.map encI), .arr 3 1 (w.r.match_.map encI), .dead, .arr 51 17 (w.outs.map encOut), .arr 45 6 (w.r.hard.log.map encEnt), .arr 47 10 (w.recs.map encRec)]) (show ((⟨⟨s.r.id, s.r.of_, s.r.role, s.r.commit, ⟨s.r.hard.term, s.r.hard.vote, lg⟩, s.r.yes, s.r.next, s.r.match_⟩, s.was, rc, s.outs⟩ : Stepper)) = (({ s with r := { s.r with hard := { s.r.hard with log := (takeE m.entries m.at_ s.r.hard.log s.recs).1 } }, recs := (takeE m.entries m.at_ s.r.hard.log s.recs).2.1 } : Stepper)) from by rw [hR, dropCons (by assumption), takeE_full (by omega) (by omega)]) ?_
          exact KF.m [(0, 0), (1, 1), (2, 2), (3, 3), (4, 4), (5, 5), (6, 6), (7000, 7), (7001, 8)] [.int .i64 b]
        · skip
          refine AW.skip ?_
          refine AW.region (At.start ?_)
          refine At.a 2 ?_
          refine At.c (impl_stepper_put_spec  (⟨⟨s.r.id, s.r.of_, s.r.role, s.r.commit, ⟨s.r.hard.term, s.r.hard.vote, lg⟩, s.r.yes, s.r.next, s.r.match_⟩, s.was, rc, s.outs⟩ : Stepper) e1 (by dsimp only; first | omega | (rw [List.length_take]; omega)) (by dsimp only; first | omega | (simp only [List.length_append, List.length_cons, List.length_nil]; omega))) Tryz.call102 true [(0, 0), (7000, 1), (2, 2), (3, 3), (4, 4), (7001, 5), (6, 6)] [(2820, 7), (2821, 8)] [] trivial ?_
          refine At.done rfl ?_
          refine AW.region (At.start ?_)
          refine At.a 2 ?_
          refine At.done rfl ?_
          refine AW.region (At.start ?_)
          refine At.a 1 ?_
          refine At.sI 93 ((k : Int) + 1) (by omega) ?_
          refine At.a 1 ?_
          refine At.done rfl ?_
          exact ⟨(k + 1, (b + 1), (lg ++ [e1]), (rc ++ [(⟨2, 0, 0, ((lg ++ [e1]).length : Int), e1⟩ : Rec)])), ⟨by omega, ⟨by omega, by simp only [List.length_append, List.length_take, List.length_cons, List.length_nil]; omega, by simp only [List.length_append, List.length_take, List.length_cons, List.length_nil]; omega, by simp only [List.length_append, List.length_cons, List.length_nil]; omega⟩, by rw [hR, dropCons (by assumption)]; exact takeE_put2 (by omega) (by omega) (by simp only [List.length_append, List.length_take, List.length_cons, List.length_nil]; omega)⟩, (by simp only; omega), Sub.o [(0, 0), (1, 1), (2, 2), (3, 3), (4, 4), (5, 5), (6, 6), (103, 103), (2820, 7000), (2821, 7001)] [true, false, false, true, false, true, false, false, false, false, false, false, true, true, true]⟩
      · skip
        refine AW.skip ?_
        refine AW.region (At.start ?_)
        refine At.a 2 ?_
        refine At.done rfl ?_
        refine AW.region (At.start ?_)
        refine At.a 1 ?_
        refine At.sI 93 ((k : Int) + 1) (by omega) ?_
        refine At.a 1 ?_
        refine At.done rfl ?_
        exact ⟨(k + 1, (b + 1), lg, rc), ⟨by omega, ⟨by omega, by omega, by omega, by omega⟩, by exfalso; omega⟩, (by omega), Sub.o [(0, 0), (1, 1), (2, 2), (3, 3), (4, 4), (5, 5), (6, 6), (103, 103), (7000, 7000), (7001, 7001)] [true, false, false, true, false, true, false, false, false, false, false, false, true, true, true]⟩
  · skip
    refine AW.exit ?_
    refine AW.r ?_
    refine At.a 2 ?_
    refine At.done rfl ?_
    refine AW.ret ?_
    refine ⟨_, Sub.refl _ _, ?_⟩
    refine KF.conv (fun w => .int .i64 w) (fun w => [.box 102 [.int .i64 s.r.id, .int .i64 s.r.of_, .int .i64 s.r.role, .int .i64 s.r.commit, .int .i64 s.r.hard.term, .int .i64 s.r.hard.vote, .ref 7, .ref 2, .ref 3, .ref 4, .int .i64 s.was.id, .int .i64 s.was.of_, .int .i64 s.was.role, .int .i64 s.was.commit, .int .i64 s.was.hard.term, .int .i64 s.was.hard.vote, .sl false 6 (s.was.hard.log.map encEnt), .sl false 1 (s.was.yes.map encI), .sl false 1 (s.was.next.map encI), .sl false 1 (s.was.match_.map encI), .ref 8, .ref 6], .dead, .arr 3 1 (s.r.yes.map encI), .arr 3 1 (s.r.next.map encI), .arr 3 1 (s.r.match_.map encI), .dead, .arr 51 17 (s.outs.map encOut), .arr 45 6 (((takeE m.entries m.at_ s.r.hard.log s.recs).1).map encEnt), .arr 47 10 (((takeE m.entries m.at_ s.r.hard.log s.recs).2.1).map encRec)]) (show (b) = ((takeE m.entries m.at_ s.r.hard.log s.recs).2.2) from by rw [hR, List.drop_of_length_le (by omega)]; rfl) ?_
    refine KF.conv (fun w => .int .i64 b) (fun w => [.box 102 [.int .i64 w.r.id, .int .i64 w.r.of_, .int .i64 w.r.role, .int .i64 w.r.commit, .int .i64 w.r.hard.term, .int .i64 w.r.hard.vote, .ref 7, .ref 2, .ref 3, .ref 4, .int .i64 w.was.id, .int .i64 w.was.of_, .int .i64 w.was.role, .int .i64 w.was.commit, .int .i64 w.was.hard.term, .int .i64 w.was.hard.vote, .sl false 6 (w.was.hard.log.map encEnt), .sl false 1 (w.was.yes.map encI), .sl false 1 (w.was.next.map encI), .sl false 1 (w.was.match_.map encI), .ref 8, .ref 6], .dead, .arr 3 1 (w.r.yes.map encI), .arr 3 1 (w.r.next.map encI), .arr 3 1 (w.r.match_.map encI), .dead, .arr 51 17 (w.outs.map encOut), .arr 45 6 (w.r.hard.log.map encEnt), .arr 47 10 (w.recs.map encRec)]) (show ((⟨⟨s.r.id, s.r.of_, s.r.role, s.r.commit, ⟨s.r.hard.term, s.r.hard.vote, lg⟩, s.r.yes, s.r.next, s.r.match_⟩, s.was, rc, s.outs⟩ : Stepper)) = (({ s with r := { s.r with hard := { s.r.hard with log := (takeE m.entries m.at_ s.r.hard.log s.recs).1 } }, recs := (takeE m.entries m.at_ s.r.hard.log s.recs).2.1 } : Stepper)) from by rw [hR, List.drop_of_length_le (by omega)]; rfl) ?_
    exact KF.m [(0, 0), (1, 1), (2, 2), (3, 3), (4, 4), (5, 5), (6, 6), (7000, 7), (7001, 8)] [.int .i64 b]
set_option maxRecDepth 100000 in
set_option maxHeartbeats 4000000 in
theorem impl_OnSend_spec  (r : Raft) (m : Msg) (hz : SmallR r) (hm : m.entries.length ≤ 1048576) : FnSpec Tryz.prog 27 [.agg [.int .i64 r.id, .int .i64 r.of_, .int .i64 r.role, .int .i64 r.commit, .int .i64 r.hard.term, .int .i64 r.hard.vote, .sl false 6 (r.hard.log.map encEnt), .sl false 1 (r.yes.map encI), .sl false 1 (r.next.map encI), .sl false 1 (r.match_.map encI)], .agg [.int .i64 m.kind, .int .i64 m.from_, .int .i64 m.term, .int .i64 m.at_, .int .i64 m.atTerm, .int .i64 m.commit, .bool m.yes, .int .i64 m.release, .int .i64 m.part, .str m.bytes, .int .i64 m.cmd.kind, .int .i64 m.cmd.release, .int .i64 m.cmd.node, .int .i64 m.cmd.size, .str m.cmd.digest, .sl false 6 (m.entries.map encEnt)]] [] (.tup [.agg [.int .i64 (((sends r m).1).id), .int .i64 (((sends r m).1).of_), .int .i64 (((sends r m).1).role), .int .i64 (((sends r m).1).commit), .int .i64 (((sends r m).1).hard.term), .int .i64 (((sends r m).1).hard.vote), .ref 0, .ref 1, .ref 2, .ref 3], .ref 4, .ref 5]) [.arr 45 6 ((((sends r m).1).hard.log).map encEnt), .arr 3 1 ((((sends r m).1).yes).map encI), .arr 3 1 ((((sends r m).1).next).map encI), .arr 3 1 ((((sends r m).1).match_).map encI), .arr 47 10 (((sends r m).2.1).map encRec), .arr 51 17 (((sends r m).2.2).map encOut)] := by
  obtain ⟨z1, z2, z3, z4⟩ := id hz
  refine FnSpec.of 112 Tryz.func27 rfl Tryz.ntmps27 (by simp) (AW.weakK ?_)
  by_cases hok : raftOk r = true
  · skip
    have hokn := raftOk1_nums (raftOk_1 hok)
    refine AW.r ?_
    refine At.a 5 ?_
    refine At.done rfl ?_
    refine AW.seq ?_
    refine AW.weak (Sub.nils [⟨true, 104, some 6, 5001, 45, 6⟩, ⟨true, 104, some 7, 5002, 3, 1⟩, ⟨true, 104, some 8, 5003, 3, 1⟩, ⟨true, 104, some 9, 5004, 3, 1⟩] (by kernel_rfl)) ?_
    refine AW.region (At.start ?_)
    refine At.a 1 ?_
    refine At.c (impl_stepOf_spec  r (by exact hz)) Tryz.call80 true [] [(1200, 0), (1201, 1), (1202, 2), (1203, 3), (1204, 4), (1205, 5), (1206, 6)] [] trivial ?_
    refine At.a 1 ?_
    refine At.done rfl ?_
    refine AW.seq ?_
    refine AW.r ?_
    refine At.a 2 ?_
    refine At.c (impl_stepper_mayHear_spec  (⟨r, r, [], []⟩ : Stepper) m 3 (by exact hz) hm) Tryz.call85 true [(1200, 0), (1201, 1), (1202, 2), (1203, 3), (1204, 4), (1205, 5), (1206, 6)] [] [] trivial ?_
    refine At.a 2 ?_
    by_cases h1 : (hears r m 3) = true
    · refine At.sB 15 (!(hears r m 3)) false (sayNF (sayB h1)) ?_
      have hhr := hears_ok h1
      have hnu := msgFits_nums hhr.2.1
      refine At.a 1 ?_
      refine At.c (impl_inRow_spec  m hm hnu.2.1) Tryz.call86 true [] [] [] trivial ?_
      refine At.a 3 ?_
      by_cases h2 : (rowB m) = true
      · refine At.sB 20 (!(rowB m)) false (sayNF (sayB h2)) ?_
        refine At.a 2 ?_
        refine At.c (impl_cutsBelow_spec  r m (by exact hz) hm hnu.2.1) Tryz.call87 true [] [] [] trivial ?_
        refine At.a 1 ?_
        refine At.done rfl ?_
        refine AW.cB (cutsB r m) (fun h3 => ?_) (fun h3 => ?_)
        · skip
          refine AW.r ?_
          refine At.a 1 ?_
          refine At.c (impl_stepper_none_T_spec  (⟨r, r, [], []⟩ : Stepper) (by exact hz) hok) Tryz.call88 true [(1200, 0), (1201, 1), (1202, 2), (1203, 3), (1204, 4), (1205, 5), (1206, 6)] [(1520, 7), (1521, 8), (1522, 9), (1523, 10), (1524, 11), (1525, 12)] [] trivial ?_
          refine At.a 6 ?_
          refine At.done rfl ?_
          refine AW.ret ?_
          refine ⟨_, Sub.refl _ _, ?_⟩
          refine KF.conv (fun w => .tup [.agg [.int .i64 w.id, .int .i64 w.of_, .int .i64 w.role, .int .i64 w.commit, .int .i64 w.hard.term, .int .i64 w.hard.vote, .ref 0, .ref 1, .ref 2, .ref 3], .ref 4, .ref 5]) (fun w => [.arr 45 6 (w.hard.log.map encEnt), .arr 3 1 (w.yes.map encI), .arr 3 1 (w.next.map encI), .arr 3 1 (w.match_.map encI), .arr 47 10 (((sends r m).2.1).map encRec), .arr 51 17 (((sends r m).2.2).map encOut)]) (show (r) = ((sends r m).1) from by rw [sends_no (sendB_not (by first | exact .inl (by assumption) | exact .inr (.inl (by assumption)) | exact .inr (.inr (by assumption)) | (simp only [Bool.and_eq_false_iff, Bool.not_eq_false'] at *; grind))) hok]; first | done | rfl | (rw [endRecs_ne (by dsimp only; omega)]; rfl) | (rw [endRecs_eq rfl rfl]; done) | (rw [endRecs_eq rfl rfl]; rfl) | (rw [show r.hard.term = m.term from by omega]; rfl)) ?_
          refine KF.conv (fun w => .tup [.agg [.int .i64 r.id, .int .i64 r.of_, .int .i64 r.role, .int .i64 r.commit, .int .i64 r.hard.term, .int .i64 r.hard.vote, .ref 0, .ref 1, .ref 2, .ref 3], .ref 4, .ref 5]) (fun w => [.arr 45 6 (r.hard.log.map encEnt), .arr 3 1 (r.yes.map encI), .arr 3 1 (r.next.map encI), .arr 3 1 (r.match_.map encI), .arr 47 10 (w.map encRec), .arr 51 17 (((sends r m).2.2).map encOut)]) (show ([]) = ((sends r m).2.1) from by rw [sends_no (sendB_not (by first | exact .inl (by assumption) | exact .inr (.inl (by assumption)) | exact .inr (.inr (by assumption)) | (simp only [Bool.and_eq_false_iff, Bool.not_eq_false'] at *; grind))) hok]; first | done | rfl | (rw [endRecs_ne (by dsimp only; omega)]; rfl) | (rw [endRecs_eq rfl rfl]; done) | (rw [endRecs_eq rfl rfl]; rfl) | (rw [show r.hard.term = m.term from by omega]; rfl)) ?_
          refine KF.conv (fun w => .tup [.agg [.int .i64 r.id, .int .i64 r.of_, .int .i64 r.role, .int .i64 r.commit, .int .i64 r.hard.term, .int .i64 r.hard.vote, .ref 0, .ref 1, .ref 2, .ref 3], .ref 4, .ref 5]) (fun w => [.arr 45 6 (r.hard.log.map encEnt), .arr 3 1 (r.yes.map encI), .arr 3 1 (r.next.map encI), .arr 3 1 (r.match_.map encI), .arr 47 10 [], .arr 51 17 (w.map encOut)]) (show ([]) = ((sends r m).2.2) from by rw [sends_no (sendB_not (by first | exact .inl (by assumption) | exact .inr (.inl (by assumption)) | exact .inr (.inr (by assumption)) | (simp only [Bool.and_eq_false_iff, Bool.not_eq_false'] at *; grind))) hok]; first | done | rfl | (rw [endRecs_ne (by dsimp only; omega)]; rfl) | (rw [endRecs_eq rfl rfl]; done) | (rw [endRecs_eq rfl rfl]; rfl) | (rw [show r.hard.term = m.term from by omega]; rfl)) ?_
          exact KF.m [(1520, 0), (1521, 1), (1522, 2), (1523, 3), (1524, 4), (1525, 5)] [.agg [.int .i64 r.id, .int .i64 r.of_, .int .i64 r.role, .int .i64 r.commit, .int .i64 r.hard.term, .int .i64 r.hard.vote, .ref 1520, .ref 1521, .ref 1522, .ref 1523], .ref 1524, .ref 1525]
        · skip
          refine AW.skip ?_
          refine AW.seq ?_
          refine AW.r ?_
          refine At.a 6 ?_
          refine At.done rfl ?_
          refine AW.cD (m.term < r.hard.term) (fun h4 => ?_) (fun h4 => ?_)
          · skip
            refine AW.r ?_
            refine At.a 3 ?_
            refine At.c (impl_stepper_got_spec  (⟨r, r, [], []⟩ : Stepper) m.from_ false 0 (by simp)) Tryz.call89 true [(1200, 0), (1201, 1), (1202, 2), (1203, 3), (1204, 4), (1205, 5), (1206, 6)] [(1780, 7)] [] trivial ?_
            refine At.done rfl ?_
            refine AW.r ?_
            refine At.a 1 ?_
            refine At.c (impl_stepper_end_spec  (⟨r, r, [], ([]) ++ [(⟨m.from_, ⟨4, r.id, r.hard.term, 0, 0, 0, false, 0, 0, ⟨#[]⟩, ⟨0, 0, 0, 0, ⟨#[]⟩⟩, []⟩⟩ : Out)]⟩ : Stepper) (by simp; done)) Tryz.call90 true [(1200, 0), (1201, 1), (1202, 2), (1203, 3), (1204, 4), (1205, 5), (1780, 6)] [(1820, 7)] [] trivial ?_
            refine At.a 6 ?_
            refine At.done rfl ?_
            refine AW.ret ?_
            refine ⟨_, Sub.refl _ _, ?_⟩
            refine KF.conv (fun w => .tup [.agg [.int .i64 w.id, .int .i64 w.of_, .int .i64 w.role, .int .i64 w.commit, .int .i64 w.hard.term, .int .i64 w.hard.vote, .ref 0, .ref 1, .ref 2, .ref 3], .ref 4, .ref 5]) (fun w => [.arr 45 6 (w.hard.log.map encEnt), .arr 3 1 (w.yes.map encI), .arr 3 1 (w.next.map encI), .arr 3 1 (w.match_.map encI), .arr 47 10 (((sends r m).2.1).map encRec), .arr 51 17 (((sends r m).2.2).map encOut)]) (show (r) = ((sends r m).1) from by rw [sends_old (sendB_of h1 h2 (by assumption)) (by omega)]; first | done | rfl | (rw [endRecs_ne (by dsimp only; omega)]; rfl) | (rw [endRecs_eq rfl rfl]; done) | (rw [endRecs_eq rfl rfl]; rfl) | (rw [show r.hard.term = m.term from by omega]; rfl)) ?_
            refine KF.conv (fun w => .tup [.agg [.int .i64 r.id, .int .i64 r.of_, .int .i64 r.role, .int .i64 r.commit, .int .i64 r.hard.term, .int .i64 r.hard.vote, .ref 0, .ref 1, .ref 2, .ref 3], .ref 4, .ref 5]) (fun w => [.arr 45 6 (r.hard.log.map encEnt), .arr 3 1 (r.yes.map encI), .arr 3 1 (r.next.map encI), .arr 3 1 (r.match_.map encI), .arr 47 10 (w.map encRec), .arr 51 17 (((sends r m).2.2).map encOut)]) (show (endRecs (⟨r, r, [], ([]) ++ [(⟨m.from_, ⟨4, r.id, r.hard.term, 0, 0, 0, false, 0, 0, ⟨#[]⟩, ⟨0, 0, 0, 0, ⟨#[]⟩⟩, []⟩⟩ : Out)]⟩ : Stepper)) = ((sends r m).2.1) from by rw [sends_old (sendB_of h1 h2 (by assumption)) (by omega)]; first | done | rfl | (rw [endRecs_ne (by dsimp only; omega)]; rfl) | (rw [endRecs_eq rfl rfl]; done) | (rw [endRecs_eq rfl rfl]; rfl) | (rw [show r.hard.term = m.term from by omega]; rfl)) ?_
            refine KF.conv (fun w => .tup [.agg [.int .i64 r.id, .int .i64 r.of_, .int .i64 r.role, .int .i64 r.commit, .int .i64 r.hard.term, .int .i64 r.hard.vote, .ref 0, .ref 1, .ref 2, .ref 3], .ref 4, .ref 5]) (fun w => [.arr 45 6 (r.hard.log.map encEnt), .arr 3 1 (r.yes.map encI), .arr 3 1 (r.next.map encI), .arr 3 1 (r.match_.map encI), .arr 47 10 ((endRecs (⟨r, r, [], ([]) ++ [(⟨m.from_, ⟨4, r.id, r.hard.term, 0, 0, 0, false, 0, 0, ⟨#[]⟩, ⟨0, 0, 0, 0, ⟨#[]⟩⟩, []⟩⟩ : Out)]⟩ : Stepper)).map encRec), .arr 51 17 (w.map encOut)]) (show (([]) ++ [(⟨m.from_, ⟨4, r.id, r.hard.term, 0, 0, 0, false, 0, 0, ⟨#[]⟩, ⟨0, 0, 0, 0, ⟨#[]⟩⟩, []⟩⟩ : Out)]) = ((sends r m).2.2) from by rw [sends_old (sendB_of h1 h2 (by assumption)) (by omega)]; first | done | rfl | (rw [endRecs_ne (by dsimp only; omega)]; rfl) | (rw [endRecs_eq rfl rfl]; done) | (rw [endRecs_eq rfl rfl]; rfl) | (rw [show r.hard.term = m.term from by omega]; rfl)) ?_
            exact KF.m [(1201, 0), (1202, 1), (1203, 2), (1204, 3), (1820, 4), (1780, 5)] [.agg [.int .i64 r.id, .int .i64 r.of_, .int .i64 r.role, .int .i64 r.commit, .int .i64 r.hard.term, .int .i64 r.hard.vote, .ref 1201, .ref 1202, .ref 1203, .ref 1204], .ref 1820, .ref 1780]
          · skip
            refine AW.skip ?_
            refine AW.seq ?_
            refine AW.r ?_
            refine At.a 3 ?_
            by_cases h5 : m.term ≤ r.hard.term
            · skip
              refine At.c (impl_stepper_followTerm_T_spec  (⟨r, r, [], []⟩ : Stepper) m.term h5) Tryz.call91 true [(1200, 0), (1201, 1), (1202, 2), (1203, 3), (1204, 4), (1205, 5), (1206, 6)] [] [] trivial ?_
              refine At.a 6 ?_
              refine At.done rfl ?_
              refine AW.cE r.role (3 : Int) (fun h6 => ?_) (fun h6 => ?_)
              · skip
                have hnx := raftOk_next hok h6
                have hmx := raftOk_match hok h6
                refine AW.r ?_
                refine At.a 1 ?_
                refine At.c (impl_stepper_none_T_spec  (⟨r, r, [], []⟩ : Stepper) (by exact hz) hok) Tryz.call88 true [(1200, 0), (1201, 1), (1202, 2), (1203, 3), (1204, 4), (1205, 5), (1206, 6)] [(2120, 7), (2121, 8), (2122, 9), (2123, 10), (2124, 11), (2125, 12)] [] trivial ?_
                refine At.a 6 ?_
                refine At.done rfl ?_
                refine AW.ret ?_
                refine ⟨_, Sub.refl _ _, ?_⟩
                refine KF.conv (fun w => .tup [.agg [.int .i64 w.id, .int .i64 w.of_, .int .i64 w.role, .int .i64 w.commit, .int .i64 w.hard.term, .int .i64 w.hard.vote, .ref 0, .ref 1, .ref 2, .ref 3], .ref 4, .ref 5]) (fun w => [.arr 45 6 (w.hard.log.map encEnt), .arr 3 1 (w.yes.map encI), .arr 3 1 (w.next.map encI), .arr 3 1 (w.match_.map encI), .arr 47 10 (((sends r m).2.1).map encRec), .arr 51 17 (((sends r m).2.2).map encOut)]) (show (r) = ((sends r m).1) from by rw [sends_lead (sendB_of h1 h2 (by assumption)) (by omega) (by omega) (by omega)]; first | done | rfl | (rw [endRecs_ne (by dsimp only; omega)]; rfl) | (rw [endRecs_eq rfl rfl]; done) | (rw [endRecs_eq rfl rfl]; rfl) | (rw [show r.hard.term = m.term from by omega]; rfl)) ?_
                refine KF.conv (fun w => .tup [.agg [.int .i64 r.id, .int .i64 r.of_, .int .i64 r.role, .int .i64 r.commit, .int .i64 r.hard.term, .int .i64 r.hard.vote, .ref 0, .ref 1, .ref 2, .ref 3], .ref 4, .ref 5]) (fun w => [.arr 45 6 (r.hard.log.map encEnt), .arr 3 1 (r.yes.map encI), .arr 3 1 (r.next.map encI), .arr 3 1 (r.match_.map encI), .arr 47 10 (w.map encRec), .arr 51 17 (((sends r m).2.2).map encOut)]) (show ([]) = ((sends r m).2.1) from by rw [sends_lead (sendB_of h1 h2 (by assumption)) (by omega) (by omega) (by omega)]; first | done | rfl | (rw [endRecs_ne (by dsimp only; omega)]; rfl) | (rw [endRecs_eq rfl rfl]; done) | (rw [endRecs_eq rfl rfl]; rfl) | (rw [show r.hard.term = m.term from by omega]; rfl)) ?_
                refine KF.conv (fun w => .tup [.agg [.int .i64 r.id, .int .i64 r.of_, .int .i64 r.role, .int .i64 r.commit, .int .i64 r.hard.term, .int .i64 r.hard.vote, .ref 0, .ref 1, .ref 2, .ref 3], .ref 4, .ref 5]) (fun w => [.arr 45 6 (r.hard.log.map encEnt), .arr 3 1 (r.yes.map encI), .arr 3 1 (r.next.map encI), .arr 3 1 (r.match_.map encI), .arr 47 10 [], .arr 51 17 (w.map encOut)]) (show ([]) = ((sends r m).2.2) from by rw [sends_lead (sendB_of h1 h2 (by assumption)) (by omega) (by omega) (by omega)]; first | done | rfl | (rw [endRecs_ne (by dsimp only; omega)]; rfl) | (rw [endRecs_eq rfl rfl]; done) | (rw [endRecs_eq rfl rfl]; rfl) | (rw [show r.hard.term = m.term from by omega]; rfl)) ?_
                exact KF.m [(2120, 0), (2121, 1), (2122, 2), (2123, 3), (2124, 4), (2125, 5)] [.agg [.int .i64 r.id, .int .i64 r.of_, .int .i64 r.role, .int .i64 r.commit, .int .i64 r.hard.term, .int .i64 r.hard.vote, .ref 2120, .ref 2121, .ref 2122, .ref 2123], .ref 2124, .ref 2125]
              · skip
                refine AW.skip ?_
                refine AW.r ?_
                refine At.a 1 ?_
                refine At.c (impl_stepper_follow_spec  (⟨r, r, [], []⟩ : Stepper) ) Tryz.call92 true [(1200, 0), (1201, 1), (1202, 2), (1203, 3), (1204, 4), (1205, 5), (1206, 6)] [(2220, 7), (2221, 8), (2222, 9)] [] trivial ?_
                refine At.done rfl ?_
                refine AW.seq ?_
                refine AW.r ?_
                refine At.a 4 ?_
                refine At.c (impl_fits_spec  r.hard.log m (by omega) hm hnu.2.1) Tryz.call93 true [] [] [] trivial ?_
                refine At.a 1 ?_
                refine At.done rfl ?_
                refine AW.cNB (fitsB r.hard.log m) (fun h7 => ?_) (fun h7 => ?_)
                · skip
                  refine AW.r ?_
                  refine At.a 7 ?_
                  refine At.sL 74 encEnt r.hard.log ?_
                  refine At.a 3 ?_
                  refine At.sI 77 (m.at_ - 1) (by omega) ?_
                  refine At.mm (d := 78) (b := .min) (x := .tmp 74) (y := .tmp 77) (ats := #[3, 3]) (q := .i64) (m := (r.hard.log.length : Int)) (n := m.at_ - 1) (if (m.at_ - 1) < (r.hard.log.length : Int) then m.at_ - 1 else (r.hard.log.length : Int)) (by kernel_rfl) (by kernel_rfl) (by kernel_rfl) (by kernel_rfl) (.inl ⟨rfl, rfl⟩) ?_
                  refine At.say 78 (.int .i64 (if (m.at_ - 1) < (r.hard.log.length : Int) then m.at_ - 1 else (r.hard.log.length : Int))) (.int .i64 (min (r.hard.log.length : Int) (m.at_ - 1))) (by kernel_rfl) (congrArg (V.int .i64) (by omega)) ?_
                  refine At.c (impl_stepper_got_spec  (⟨⟨r.id, r.of_, 1, r.commit, ⟨r.hard.term, r.hard.vote, r.hard.log⟩, [], [], []⟩, r, [], []⟩ : Stepper) m.from_ false (min (r.hard.log.length : Int) (m.at_ - 1)) (by simp)) Tryz.call89 true [(1200, 0), (1201, 1), (2220, 2), (2221, 3), (2222, 4), (1205, 5), (1206, 6)] [(2580, 7)] [] trivial ?_
                  refine At.done rfl ?_
                  refine AW.r ?_
                  refine At.a 1 ?_
                  refine At.c (impl_stepper_end_spec  (⟨⟨r.id, r.of_, 1, r.commit, ⟨r.hard.term, r.hard.vote, r.hard.log⟩, [], [], []⟩, r, [], ([]) ++ [(⟨m.from_, ⟨4, r.id, r.hard.term, (min (r.hard.log.length : Int) (m.at_ - 1)), 0, 0, false, 0, 0, ⟨#[]⟩, ⟨0, 0, 0, 0, ⟨#[]⟩⟩, []⟩⟩ : Out)]⟩ : Stepper) (by simp; done)) Tryz.call90 true [(1200, 0), (1201, 1), (2220, 2), (2221, 3), (2222, 4), (1205, 5), (2580, 6)] [(2620, 7)] [] trivial ?_
                  refine At.a 6 ?_
                  refine At.done rfl ?_
                  refine AW.ret ?_
                  refine ⟨_, Sub.refl _ _, ?_⟩
                  refine KF.conv (fun w => .tup [.agg [.int .i64 w.id, .int .i64 w.of_, .int .i64 w.role, .int .i64 w.commit, .int .i64 w.hard.term, .int .i64 w.hard.vote, .ref 0, .ref 1, .ref 2, .ref 3], .ref 4, .ref 5]) (fun w => [.arr 45 6 (w.hard.log.map encEnt), .arr 3 1 (w.yes.map encI), .arr 3 1 (w.next.map encI), .arr 3 1 (w.match_.map encI), .arr 47 10 (((sends r m).2.1).map encRec), .arr 51 17 (((sends r m).2.2).map encOut)]) (show ((⟨r.id, r.of_, 1, r.commit, r.hard, [], [], []⟩ : Raft)) = ((sends r m).1) from by rw [sends_far0 (sendB_of h1 h2 (by assumption)) (by omega) (by omega) (by omega) (by assumption)]; first | done | rfl | (rw [endRecs_ne (by dsimp only; omega)]; rfl) | (rw [endRecs_eq rfl rfl]; done) | (rw [endRecs_eq rfl rfl]; rfl) | (rw [show r.hard.term = m.term from by omega]; rfl)) ?_
                  refine KF.conv (fun w => .tup [.agg [.int .i64 r.id, .int .i64 r.of_, .int .i64 1, .int .i64 r.commit, .int .i64 r.hard.term, .int .i64 r.hard.vote, .ref 0, .ref 1, .ref 2, .ref 3], .ref 4, .ref 5]) (fun w => [.arr 45 6 (r.hard.log.map encEnt), .arr 3 1 [], .arr 3 1 [], .arr 3 1 [], .arr 47 10 (w.map encRec), .arr 51 17 (((sends r m).2.2).map encOut)]) (show (endRecs (⟨⟨r.id, r.of_, 1, r.commit, ⟨r.hard.term, r.hard.vote, r.hard.log⟩, [], [], []⟩, r, [], ([]) ++ [(⟨m.from_, ⟨4, r.id, r.hard.term, (min (r.hard.log.length : Int) (m.at_ - 1)), 0, 0, false, 0, 0, ⟨#[]⟩, ⟨0, 0, 0, 0, ⟨#[]⟩⟩, []⟩⟩ : Out)]⟩ : Stepper)) = ((sends r m).2.1) from by rw [sends_far0 (sendB_of h1 h2 (by assumption)) (by omega) (by omega) (by omega) (by assumption)]; first | done | rfl | (rw [endRecs_ne (by dsimp only; omega)]; rfl) | (rw [endRecs_eq rfl rfl]; done) | (rw [endRecs_eq rfl rfl]; rfl) | (rw [show r.hard.term = m.term from by omega]; rfl)) ?_
                  refine KF.conv (fun w => .tup [.agg [.int .i64 r.id, .int .i64 r.of_, .int .i64 1, .int .i64 r.commit, .int .i64 r.hard.term, .int .i64 r.hard.vote, .ref 0, .ref 1, .ref 2, .ref 3], .ref 4, .ref 5]) (fun w => [.arr 45 6 (r.hard.log.map encEnt), .arr 3 1 [], .arr 3 1 [], .arr 3 1 [], .arr 47 10 ((endRecs (⟨⟨r.id, r.of_, 1, r.commit, ⟨r.hard.term, r.hard.vote, r.hard.log⟩, [], [], []⟩, r, [], ([]) ++ [(⟨m.from_, ⟨4, r.id, r.hard.term, (min (r.hard.log.length : Int) (m.at_ - 1)), 0, 0, false, 0, 0, ⟨#[]⟩, ⟨0, 0, 0, 0, ⟨#[]⟩⟩, []⟩⟩ : Out)]⟩ : Stepper)).map encRec), .arr 51 17 (w.map encOut)]) (show (([]) ++ [(⟨m.from_, ⟨4, r.id, r.hard.term, (min (r.hard.log.length : Int) (m.at_ - 1)), 0, 0, false, 0, 0, ⟨#[]⟩, ⟨0, 0, 0, 0, ⟨#[]⟩⟩, []⟩⟩ : Out)]) = ((sends r m).2.2) from by rw [sends_far0 (sendB_of h1 h2 (by assumption)) (by omega) (by omega) (by omega) (by assumption)]; first | done | rfl | (rw [endRecs_ne (by dsimp only; omega)]; rfl) | (rw [endRecs_eq rfl rfl]; done) | (rw [endRecs_eq rfl rfl]; rfl) | (rw [show r.hard.term = m.term from by omega]; rfl)) ?_
                  exact KF.m [(1201, 0), (2220, 1), (2221, 2), (2222, 3), (2620, 4), (2580, 5)] [.agg [.int .i64 r.id, .int .i64 r.of_, .int .i64 1, .int .i64 r.commit, .int .i64 r.hard.term, .int .i64 r.hard.vote, .ref 1201, .ref 2220, .ref 2221, .ref 2222], .ref 2620, .ref 2580]
                · skip
                  have hfit := h7
                  refine AW.skip ?_
                  refine AW.r ?_
                  refine At.a 2 ?_
                  refine At.c (impl_stepper_take_spec  (⟨⟨r.id, r.of_, 1, r.commit, ⟨r.hard.term, r.hard.vote, r.hard.log⟩, [], [], []⟩, r, [], []⟩ : Stepper) m (by omega) (by dsimp only; have := fitsB_at hfit; omega) (by dsimp only; omega) (by simp)) Tryz.call94 true [(1200, 0), (1201, 1), (2220, 2), (2221, 3), (2222, 4), (1205, 5), (1206, 6)] [(2740, 7), (2741, 8)] [] trivial ?_
                  refine At.a 1 ?_
                  refine At.done rfl ?_
                  refine AW.seq ?_
                  refine AW.regionD Tryz_mix (At.start ?_)
                  refine At.a 9 ?_
                  refine At.mm (d := 97) (b := .min) (x := .tmp 95) (y := .tmp 96) (ats := #[3, 3]) (q := .i64) (m := m.commit) (n := (takeE m.entries m.at_ r.hard.log ([])).2.2) (if ((takeE m.entries m.at_ r.hard.log ([])).2.2) < m.commit then (takeE m.entries m.at_ r.hard.log ([])).2.2 else m.commit) (by kernel_rfl) (by kernel_rfl) (by kernel_rfl) (by kernel_rfl) (.inl ⟨rfl, rfl⟩) ?_
                  refine At.say 97 (.int .i64 (if ((takeE m.entries m.at_ r.hard.log ([])).2.2) < m.commit then (takeE m.entries m.at_ r.hard.log ([])).2.2 else m.commit)) (.int .i64 (min m.commit ((takeE m.entries m.at_ r.hard.log ([])).2.2))) (by kernel_rfl) (congrArg (V.int .i64) (by omega)) ?_
                  refine At.mm (d := 98) (b := .max) (x := .tmp 93) (y := .tmp 97) (ats := #[3, 3]) (q := .i64) (m := r.commit) (n := min m.commit ((takeE m.entries m.at_ r.hard.log ([])).2.2)) (if (min m.commit ((takeE m.entries m.at_ r.hard.log ([])).2.2)) > r.commit then min m.commit ((takeE m.entries m.at_ r.hard.log ([])).2.2) else r.commit) (by kernel_rfl) (by kernel_rfl) (by kernel_rfl) (by kernel_rfl) (.inr ⟨rfl, rfl⟩) ?_
                  refine At.say 98 (.int .i64 (if (min m.commit ((takeE m.entries m.at_ r.hard.log ([])).2.2)) > r.commit then min m.commit ((takeE m.entries m.at_ r.hard.log ([])).2.2) else r.commit)) (.int .i64 (max r.commit (min m.commit ((takeE m.entries m.at_ r.hard.log ([])).2.2)))) (by kernel_rfl) (congrArg (V.int .i64) (by omega)) ?_
                  refine At.a 4 ?_
                  refine At.done rfl ⟨by kernel_rfl, ?_⟩
                  refine AW.r ?_
                  refine At.a 4 ?_
                  refine At.c (impl_stepper_got_spec  (⟨⟨r.id, r.of_, 1, max r.commit (min m.commit ((takeE m.entries m.at_ r.hard.log ([])).2.2)), ⟨r.hard.term, r.hard.vote, (takeE m.entries m.at_ r.hard.log ([])).1⟩, [], [], []⟩, r, (takeE m.entries m.at_ r.hard.log ([])).2.1, []⟩ : Stepper) m.from_ true ((takeE m.entries m.at_ r.hard.log ([])).2.2) (by simp)) Tryz.call89 true [(1200, 0), (2740, 1), (2220, 2), (2221, 3), (2222, 4), (2741, 5), (1206, 6)] [(3120, 7)] [] trivial ?_
                  refine At.done rfl ?_
                  refine AW.r ?_
                  refine At.a 1 ?_
                  refine At.c (impl_stepper_end_spec  (⟨⟨r.id, r.of_, 1, max r.commit (min m.commit ((takeE m.entries m.at_ r.hard.log ([])).2.2)), ⟨r.hard.term, r.hard.vote, (takeE m.entries m.at_ r.hard.log ([])).1⟩, [], [], []⟩, r, (takeE m.entries m.at_ r.hard.log ([])).2.1, ([]) ++ [(⟨m.from_, ⟨4, r.id, r.hard.term, ((takeE m.entries m.at_ r.hard.log ([])).2.2), 0, 0, true, 0, 0, ⟨#[]⟩, ⟨0, 0, 0, 0, ⟨#[]⟩⟩, []⟩⟩ : Out)]⟩ : Stepper) (by dsimp only; have q := takeE_len m.entries m.at_ r.hard.log [] (by omega) (fitsB_at hfit) (by omega); simp only [List.length_nil] at q; omega)) Tryz.call90 true [(1200, 0), (2740, 1), (2220, 2), (2221, 3), (2222, 4), (2741, 5), (3120, 6)] [(3160, 7)] [] trivial ?_
                  refine At.a 6 ?_
                  refine At.done rfl ?_
                  refine AW.ret ?_
                  refine ⟨_, Sub.refl _ _, ?_⟩
                  refine KF.conv (fun w => .tup [.agg [.int .i64 w.id, .int .i64 w.of_, .int .i64 w.role, .int .i64 w.commit, .int .i64 w.hard.term, .int .i64 w.hard.vote, .ref 0, .ref 1, .ref 2, .ref 3], .ref 4, .ref 5]) (fun w => [.arr 45 6 (w.hard.log.map encEnt), .arr 3 1 (w.yes.map encI), .arr 3 1 (w.next.map encI), .arr 3 1 (w.match_.map encI), .arr 47 10 (((sends r m).2.1).map encRec), .arr 51 17 (((sends r m).2.2).map encOut)]) (show ((⟨r.id, r.of_, 1, max r.commit (min m.commit ((takeE m.entries m.at_ r.hard.log ([])).2.2)), ⟨r.hard.term, r.hard.vote, (takeE m.entries m.at_ r.hard.log ([])).1⟩, [], [], []⟩ : Raft)) = ((sends r m).1) from by rw [sends_take0 (sendB_of h1 h2 (by assumption)) (by omega) (by omega) (by omega) (by assumption)]; first | done | rfl | (rw [endRecs_ne (by dsimp only; omega)]; rfl) | (rw [endRecs_eq rfl rfl]; done) | (rw [endRecs_eq rfl rfl]; rfl) | (rw [show r.hard.term = m.term from by omega]; rfl)) ?_
                  refine KF.conv (fun w => .tup [.agg [.int .i64 r.id, .int .i64 r.of_, .int .i64 1, .int .i64 (max r.commit (min m.commit ((takeE m.entries m.at_ r.hard.log ([])).2.2))), .int .i64 r.hard.term, .int .i64 r.hard.vote, .ref 0, .ref 1, .ref 2, .ref 3], .ref 4, .ref 5]) (fun w => [.arr 45 6 (((takeE m.entries m.at_ r.hard.log ([])).1).map encEnt), .arr 3 1 [], .arr 3 1 [], .arr 3 1 [], .arr 47 10 (w.map encRec), .arr 51 17 (((sends r m).2.2).map encOut)]) (show (endRecs (⟨⟨r.id, r.of_, 1, max r.commit (min m.commit ((takeE m.entries m.at_ r.hard.log ([])).2.2)), ⟨r.hard.term, r.hard.vote, (takeE m.entries m.at_ r.hard.log ([])).1⟩, [], [], []⟩, r, (takeE m.entries m.at_ r.hard.log ([])).2.1, ([]) ++ [(⟨m.from_, ⟨4, r.id, r.hard.term, ((takeE m.entries m.at_ r.hard.log ([])).2.2), 0, 0, true, 0, 0, ⟨#[]⟩, ⟨0, 0, 0, 0, ⟨#[]⟩⟩, []⟩⟩ : Out)]⟩ : Stepper)) = ((sends r m).2.1) from by rw [sends_take0 (sendB_of h1 h2 (by assumption)) (by omega) (by omega) (by omega) (by assumption)]; first | done | rfl | (rw [endRecs_ne (by dsimp only; omega)]; rfl) | (rw [endRecs_eq rfl rfl]; done) | (rw [endRecs_eq rfl rfl]; rfl) | (rw [show r.hard.term = m.term from by omega]; rfl)) ?_
                  refine KF.conv (fun w => .tup [.agg [.int .i64 r.id, .int .i64 r.of_, .int .i64 1, .int .i64 (max r.commit (min m.commit ((takeE m.entries m.at_ r.hard.log ([])).2.2))), .int .i64 r.hard.term, .int .i64 r.hard.vote, .ref 0, .ref 1, .ref 2, .ref 3], .ref 4, .ref 5]) (fun w => [.arr 45 6 (((takeE m.entries m.at_ r.hard.log ([])).1).map encEnt), .arr 3 1 [], .arr 3 1 [], .arr 3 1 [], .arr 47 10 ((endRecs (⟨⟨r.id, r.of_, 1, max r.commit (min m.commit ((takeE m.entries m.at_ r.hard.log ([])).2.2)), ⟨r.hard.term, r.hard.vote, (takeE m.entries m.at_ r.hard.log ([])).1⟩, [], [], []⟩, r, (takeE m.entries m.at_ r.hard.log ([])).2.1, ([]) ++ [(⟨m.from_, ⟨4, r.id, r.hard.term, ((takeE m.entries m.at_ r.hard.log ([])).2.2), 0, 0, true, 0, 0, ⟨#[]⟩, ⟨0, 0, 0, 0, ⟨#[]⟩⟩, []⟩⟩ : Out)]⟩ : Stepper)).map encRec), .arr 51 17 (w.map encOut)]) (show (([]) ++ [(⟨m.from_, ⟨4, r.id, r.hard.term, ((takeE m.entries m.at_ r.hard.log ([])).2.2), 0, 0, true, 0, 0, ⟨#[]⟩, ⟨0, 0, 0, 0, ⟨#[]⟩⟩, []⟩⟩ : Out)]) = ((sends r m).2.2) from by rw [sends_take0 (sendB_of h1 h2 (by assumption)) (by omega) (by omega) (by omega) (by assumption)]; first | done | rfl | (rw [endRecs_ne (by dsimp only; omega)]; rfl) | (rw [endRecs_eq rfl rfl]; done) | (rw [endRecs_eq rfl rfl]; rfl) | (rw [show r.hard.term = m.term from by omega]; rfl)) ?_
                  exact KF.m [(2740, 0), (2220, 1), (2221, 2), (2222, 3), (3160, 4), (3120, 5)] [.agg [.int .i64 r.id, .int .i64 r.of_, .int .i64 1, .int .i64 (max r.commit (min m.commit ((takeE m.entries m.at_ r.hard.log ([])).2.2))), .int .i64 r.hard.term, .int .i64 r.hard.vote, .ref 2740, .ref 2220, .ref 2221, .ref 2222], .ref 3160, .ref 3120]
            · skip
              refine At.c (impl_stepper_followTerm_F_spec  (⟨r, r, [], []⟩ : Stepper) m.term h5) Tryz.call91 true [(1200, 0), (1201, 1), (1202, 2), (1203, 3), (1204, 4), (1205, 5), (1206, 6)] [(1960, 7), (1961, 8), (1962, 9)] [] trivial ?_
              refine At.a 6 ?_
              refine At.done rfl ?_
              refine AW.cond false (by kernel_rfl) (fun h => by cases h) (fun _ => ?_)
              refine AW.skip ?_
              refine AW.r ?_
              refine At.a 1 ?_
              refine At.c (impl_stepper_follow_spec  (⟨⟨r.id, r.of_, 1, r.commit, ⟨m.term, 0, r.hard.log⟩, [], [], []⟩, r, [], []⟩ : Stepper) ) Tryz.call92 true [(1200, 0), (1201, 1), (1960, 2), (1961, 3), (1962, 4), (1205, 5), (1206, 6)] [(2220, 7), (2221, 8), (2222, 9)] [] trivial ?_
              refine At.done rfl ?_
              refine AW.seq ?_
              refine AW.r ?_
              refine At.a 4 ?_
              refine At.c (impl_fits_spec  r.hard.log m (by omega) hm hnu.2.1) Tryz.call93 true [] [] [] trivial ?_
              refine At.a 1 ?_
              refine At.done rfl ?_
              refine AW.cNB (fitsB r.hard.log m) (fun h8 => ?_) (fun h8 => ?_)
              · skip
                refine AW.r ?_
                refine At.a 7 ?_
                refine At.sL 74 encEnt r.hard.log ?_
                refine At.a 3 ?_
                refine At.sI 77 (m.at_ - 1) (by omega) ?_
                refine At.mm (d := 78) (b := .min) (x := .tmp 74) (y := .tmp 77) (ats := #[3, 3]) (q := .i64) (m := (r.hard.log.length : Int)) (n := m.at_ - 1) (if (m.at_ - 1) < (r.hard.log.length : Int) then m.at_ - 1 else (r.hard.log.length : Int)) (by kernel_rfl) (by kernel_rfl) (by kernel_rfl) (by kernel_rfl) (.inl ⟨rfl, rfl⟩) ?_
                refine At.say 78 (.int .i64 (if (m.at_ - 1) < (r.hard.log.length : Int) then m.at_ - 1 else (r.hard.log.length : Int))) (.int .i64 (min (r.hard.log.length : Int) (m.at_ - 1))) (by kernel_rfl) (congrArg (V.int .i64) (by omega)) ?_
                refine At.c (impl_stepper_got_spec  (⟨⟨r.id, r.of_, 1, r.commit, ⟨m.term, 0, r.hard.log⟩, [], [], []⟩, r, [], []⟩ : Stepper) m.from_ false (min (r.hard.log.length : Int) (m.at_ - 1)) (by simp)) Tryz.call89 true [(1200, 0), (1201, 1), (2220, 2), (2221, 3), (2222, 4), (1205, 5), (1206, 6)] [(2580, 7)] [] trivial ?_
                refine At.done rfl ?_
                refine AW.r ?_
                refine At.a 1 ?_
                refine At.c (impl_stepper_end_spec  (⟨⟨r.id, r.of_, 1, r.commit, ⟨m.term, 0, r.hard.log⟩, [], [], []⟩, r, [], ([]) ++ [(⟨m.from_, ⟨4, r.id, m.term, (min (r.hard.log.length : Int) (m.at_ - 1)), 0, 0, false, 0, 0, ⟨#[]⟩, ⟨0, 0, 0, 0, ⟨#[]⟩⟩, []⟩⟩ : Out)]⟩ : Stepper) (by simp; done)) Tryz.call90 true [(1200, 0), (1201, 1), (2220, 2), (2221, 3), (2222, 4), (1205, 5), (2580, 6)] [(2620, 7)] [] trivial ?_
                refine At.a 6 ?_
                refine At.done rfl ?_
                refine AW.ret ?_
                refine ⟨_, Sub.refl _ _, ?_⟩
                refine KF.conv (fun w => .tup [.agg [.int .i64 w.id, .int .i64 w.of_, .int .i64 w.role, .int .i64 w.commit, .int .i64 w.hard.term, .int .i64 w.hard.vote, .ref 0, .ref 1, .ref 2, .ref 3], .ref 4, .ref 5]) (fun w => [.arr 45 6 (w.hard.log.map encEnt), .arr 3 1 (w.yes.map encI), .arr 3 1 (w.next.map encI), .arr 3 1 (w.match_.map encI), .arr 47 10 (((sends r m).2.1).map encRec), .arr 51 17 (((sends r m).2.2).map encOut)]) (show ((⟨r.id, r.of_, 1, r.commit, ⟨m.term, 0, r.hard.log⟩, [], [], []⟩ : Raft)) = ((sends r m).1) from by rw [sends_far1 (sendB_of h1 h2 (by assumption)) (by omega) (by assumption)]; first | done | rfl | (rw [endRecs_ne (by dsimp only; omega)]; rfl) | (rw [endRecs_eq rfl rfl]; done) | (rw [endRecs_eq rfl rfl]; rfl) | (rw [show r.hard.term = m.term from by omega]; rfl)) ?_
                refine KF.conv (fun w => .tup [.agg [.int .i64 r.id, .int .i64 r.of_, .int .i64 1, .int .i64 r.commit, .int .i64 m.term, .int .i64 0, .ref 0, .ref 1, .ref 2, .ref 3], .ref 4, .ref 5]) (fun w => [.arr 45 6 (r.hard.log.map encEnt), .arr 3 1 [], .arr 3 1 [], .arr 3 1 [], .arr 47 10 (w.map encRec), .arr 51 17 (((sends r m).2.2).map encOut)]) (show (endRecs (⟨⟨r.id, r.of_, 1, r.commit, ⟨m.term, 0, r.hard.log⟩, [], [], []⟩, r, [], ([]) ++ [(⟨m.from_, ⟨4, r.id, m.term, (min (r.hard.log.length : Int) (m.at_ - 1)), 0, 0, false, 0, 0, ⟨#[]⟩, ⟨0, 0, 0, 0, ⟨#[]⟩⟩, []⟩⟩ : Out)]⟩ : Stepper)) = ((sends r m).2.1) from by rw [sends_far1 (sendB_of h1 h2 (by assumption)) (by omega) (by assumption)]; first | done | rfl | (rw [endRecs_ne (by dsimp only; omega)]; rfl) | (rw [endRecs_eq rfl rfl]; done) | (rw [endRecs_eq rfl rfl]; rfl) | (rw [show r.hard.term = m.term from by omega]; rfl)) ?_
                refine KF.conv (fun w => .tup [.agg [.int .i64 r.id, .int .i64 r.of_, .int .i64 1, .int .i64 r.commit, .int .i64 m.term, .int .i64 0, .ref 0, .ref 1, .ref 2, .ref 3], .ref 4, .ref 5]) (fun w => [.arr 45 6 (r.hard.log.map encEnt), .arr 3 1 [], .arr 3 1 [], .arr 3 1 [], .arr 47 10 ((endRecs (⟨⟨r.id, r.of_, 1, r.commit, ⟨m.term, 0, r.hard.log⟩, [], [], []⟩, r, [], ([]) ++ [(⟨m.from_, ⟨4, r.id, m.term, (min (r.hard.log.length : Int) (m.at_ - 1)), 0, 0, false, 0, 0, ⟨#[]⟩, ⟨0, 0, 0, 0, ⟨#[]⟩⟩, []⟩⟩ : Out)]⟩ : Stepper)).map encRec), .arr 51 17 (w.map encOut)]) (show (([]) ++ [(⟨m.from_, ⟨4, r.id, m.term, (min (r.hard.log.length : Int) (m.at_ - 1)), 0, 0, false, 0, 0, ⟨#[]⟩, ⟨0, 0, 0, 0, ⟨#[]⟩⟩, []⟩⟩ : Out)]) = ((sends r m).2.2) from by rw [sends_far1 (sendB_of h1 h2 (by assumption)) (by omega) (by assumption)]; first | done | rfl | (rw [endRecs_ne (by dsimp only; omega)]; rfl) | (rw [endRecs_eq rfl rfl]; done) | (rw [endRecs_eq rfl rfl]; rfl) | (rw [show r.hard.term = m.term from by omega]; rfl)) ?_
                exact KF.m [(1201, 0), (2220, 1), (2221, 2), (2222, 3), (2620, 4), (2580, 5)] [.agg [.int .i64 r.id, .int .i64 r.of_, .int .i64 1, .int .i64 r.commit, .int .i64 m.term, .int .i64 0, .ref 1201, .ref 2220, .ref 2221, .ref 2222], .ref 2620, .ref 2580]
              · skip
                have hfit := h8
                refine AW.skip ?_
                refine AW.r ?_
                refine At.a 2 ?_
                refine At.c (impl_stepper_take_spec  (⟨⟨r.id, r.of_, 1, r.commit, ⟨m.term, 0, r.hard.log⟩, [], [], []⟩, r, [], []⟩ : Stepper) m (by omega) (by dsimp only; have := fitsB_at hfit; omega) (by dsimp only; omega) (by simp)) Tryz.call94 true [(1200, 0), (1201, 1), (2220, 2), (2221, 3), (2222, 4), (1205, 5), (1206, 6)] [(2740, 7), (2741, 8)] [] trivial ?_
                refine At.a 1 ?_
                refine At.done rfl ?_
                refine AW.seq ?_
                refine AW.regionD Tryz_mix (At.start ?_)
                refine At.a 9 ?_
                refine At.mm (d := 97) (b := .min) (x := .tmp 95) (y := .tmp 96) (ats := #[3, 3]) (q := .i64) (m := m.commit) (n := (takeE m.entries m.at_ r.hard.log ([])).2.2) (if ((takeE m.entries m.at_ r.hard.log ([])).2.2) < m.commit then (takeE m.entries m.at_ r.hard.log ([])).2.2 else m.commit) (by kernel_rfl) (by kernel_rfl) (by kernel_rfl) (by kernel_rfl) (.inl ⟨rfl, rfl⟩) ?_
                refine At.say 97 (.int .i64 (if ((takeE m.entries m.at_ r.hard.log ([])).2.2) < m.commit then (takeE m.entries m.at_ r.hard.log ([])).2.2 else m.commit)) (.int .i64 (min m.commit ((takeE m.entries m.at_ r.hard.log ([])).2.2))) (by kernel_rfl) (congrArg (V.int .i64) (by omega)) ?_
                refine At.mm (d := 98) (b := .max) (x := .tmp 93) (y := .tmp 97) (ats := #[3, 3]) (q := .i64) (m := r.commit) (n := min m.commit ((takeE m.entries m.at_ r.hard.log ([])).2.2)) (if (min m.commit ((takeE m.entries m.at_ r.hard.log ([])).2.2)) > r.commit then min m.commit ((takeE m.entries m.at_ r.hard.log ([])).2.2) else r.commit) (by kernel_rfl) (by kernel_rfl) (by kernel_rfl) (by kernel_rfl) (.inr ⟨rfl, rfl⟩) ?_
                refine At.say 98 (.int .i64 (if (min m.commit ((takeE m.entries m.at_ r.hard.log ([])).2.2)) > r.commit then min m.commit ((takeE m.entries m.at_ r.hard.log ([])).2.2) else r.commit)) (.int .i64 (max r.commit (min m.commit ((takeE m.entries m.at_ r.hard.log ([])).2.2)))) (by kernel_rfl) (congrArg (V.int .i64) (by omega)) ?_
                refine At.a 4 ?_
                refine At.done rfl ⟨by kernel_rfl, ?_⟩
                refine AW.r ?_
                refine At.a 4 ?_
                refine At.c (impl_stepper_got_spec  (⟨⟨r.id, r.of_, 1, max r.commit (min m.commit ((takeE m.entries m.at_ r.hard.log ([])).2.2)), ⟨m.term, 0, (takeE m.entries m.at_ r.hard.log ([])).1⟩, [], [], []⟩, r, (takeE m.entries m.at_ r.hard.log ([])).2.1, []⟩ : Stepper) m.from_ true ((takeE m.entries m.at_ r.hard.log ([])).2.2) (by simp)) Tryz.call89 true [(1200, 0), (2740, 1), (2220, 2), (2221, 3), (2222, 4), (2741, 5), (1206, 6)] [(3120, 7)] [] trivial ?_
                refine At.done rfl ?_
                refine AW.r ?_
                refine At.a 1 ?_
                refine At.c (impl_stepper_end_spec  (⟨⟨r.id, r.of_, 1, max r.commit (min m.commit ((takeE m.entries m.at_ r.hard.log ([])).2.2)), ⟨m.term, 0, (takeE m.entries m.at_ r.hard.log ([])).1⟩, [], [], []⟩, r, (takeE m.entries m.at_ r.hard.log ([])).2.1, ([]) ++ [(⟨m.from_, ⟨4, r.id, m.term, ((takeE m.entries m.at_ r.hard.log ([])).2.2), 0, 0, true, 0, 0, ⟨#[]⟩, ⟨0, 0, 0, 0, ⟨#[]⟩⟩, []⟩⟩ : Out)]⟩ : Stepper) (by dsimp only; have q := takeE_len m.entries m.at_ r.hard.log [] (by omega) (fitsB_at hfit) (by omega); simp only [List.length_nil] at q; omega)) Tryz.call90 true [(1200, 0), (2740, 1), (2220, 2), (2221, 3), (2222, 4), (2741, 5), (3120, 6)] [(3160, 7)] [] trivial ?_
                refine At.a 6 ?_
                refine At.done rfl ?_
                refine AW.ret ?_
                refine ⟨_, Sub.refl _ _, ?_⟩
                refine KF.conv (fun w => .tup [.agg [.int .i64 w.id, .int .i64 w.of_, .int .i64 w.role, .int .i64 w.commit, .int .i64 w.hard.term, .int .i64 w.hard.vote, .ref 0, .ref 1, .ref 2, .ref 3], .ref 4, .ref 5]) (fun w => [.arr 45 6 (w.hard.log.map encEnt), .arr 3 1 (w.yes.map encI), .arr 3 1 (w.next.map encI), .arr 3 1 (w.match_.map encI), .arr 47 10 (((sends r m).2.1).map encRec), .arr 51 17 (((sends r m).2.2).map encOut)]) (show ((⟨r.id, r.of_, 1, max r.commit (min m.commit ((takeE m.entries m.at_ r.hard.log ([])).2.2)), ⟨m.term, 0, (takeE m.entries m.at_ r.hard.log ([])).1⟩, [], [], []⟩ : Raft)) = ((sends r m).1) from by rw [sends_take1 (sendB_of h1 h2 (by assumption)) (by omega) (by assumption)]; first | done | rfl | (rw [endRecs_ne (by dsimp only; omega)]; rfl) | (rw [endRecs_eq rfl rfl]; done) | (rw [endRecs_eq rfl rfl]; rfl) | (rw [show r.hard.term = m.term from by omega]; rfl)) ?_
                refine KF.conv (fun w => .tup [.agg [.int .i64 r.id, .int .i64 r.of_, .int .i64 1, .int .i64 (max r.commit (min m.commit ((takeE m.entries m.at_ r.hard.log ([])).2.2))), .int .i64 m.term, .int .i64 0, .ref 0, .ref 1, .ref 2, .ref 3], .ref 4, .ref 5]) (fun w => [.arr 45 6 (((takeE m.entries m.at_ r.hard.log ([])).1).map encEnt), .arr 3 1 [], .arr 3 1 [], .arr 3 1 [], .arr 47 10 (w.map encRec), .arr 51 17 (((sends r m).2.2).map encOut)]) (show (endRecs (⟨⟨r.id, r.of_, 1, max r.commit (min m.commit ((takeE m.entries m.at_ r.hard.log ([])).2.2)), ⟨m.term, 0, (takeE m.entries m.at_ r.hard.log ([])).1⟩, [], [], []⟩, r, (takeE m.entries m.at_ r.hard.log ([])).2.1, ([]) ++ [(⟨m.from_, ⟨4, r.id, m.term, ((takeE m.entries m.at_ r.hard.log ([])).2.2), 0, 0, true, 0, 0, ⟨#[]⟩, ⟨0, 0, 0, 0, ⟨#[]⟩⟩, []⟩⟩ : Out)]⟩ : Stepper)) = ((sends r m).2.1) from by rw [sends_take1 (sendB_of h1 h2 (by assumption)) (by omega) (by assumption)]; first | done | rfl | (rw [endRecs_ne (by dsimp only; omega)]; rfl) | (rw [endRecs_eq rfl rfl]; done) | (rw [endRecs_eq rfl rfl]; rfl) | (rw [show r.hard.term = m.term from by omega]; rfl)) ?_
                refine KF.conv (fun w => .tup [.agg [.int .i64 r.id, .int .i64 r.of_, .int .i64 1, .int .i64 (max r.commit (min m.commit ((takeE m.entries m.at_ r.hard.log ([])).2.2))), .int .i64 m.term, .int .i64 0, .ref 0, .ref 1, .ref 2, .ref 3], .ref 4, .ref 5]) (fun w => [.arr 45 6 (((takeE m.entries m.at_ r.hard.log ([])).1).map encEnt), .arr 3 1 [], .arr 3 1 [], .arr 3 1 [], .arr 47 10 ((endRecs (⟨⟨r.id, r.of_, 1, max r.commit (min m.commit ((takeE m.entries m.at_ r.hard.log ([])).2.2)), ⟨m.term, 0, (takeE m.entries m.at_ r.hard.log ([])).1⟩, [], [], []⟩, r, (takeE m.entries m.at_ r.hard.log ([])).2.1, ([]) ++ [(⟨m.from_, ⟨4, r.id, m.term, ((takeE m.entries m.at_ r.hard.log ([])).2.2), 0, 0, true, 0, 0, ⟨#[]⟩, ⟨0, 0, 0, 0, ⟨#[]⟩⟩, []⟩⟩ : Out)]⟩ : Stepper)).map encRec), .arr 51 17 (w.map encOut)]) (show (([]) ++ [(⟨m.from_, ⟨4, r.id, m.term, ((takeE m.entries m.at_ r.hard.log ([])).2.2), 0, 0, true, 0, 0, ⟨#[]⟩, ⟨0, 0, 0, 0, ⟨#[]⟩⟩, []⟩⟩ : Out)]) = ((sends r m).2.2) from by rw [sends_take1 (sendB_of h1 h2 (by assumption)) (by omega) (by assumption)]; first | done | rfl | (rw [endRecs_ne (by dsimp only; omega)]; rfl) | (rw [endRecs_eq rfl rfl]; done) | (rw [endRecs_eq rfl rfl]; rfl) | (rw [show r.hard.term = m.term from by omega]; rfl)) ?_
                exact KF.m [(2740, 0), (2220, 1), (2221, 2), (2222, 3), (3160, 4), (3120, 5)] [.agg [.int .i64 r.id, .int .i64 r.of_, .int .i64 1, .int .i64 (max r.commit (min m.commit ((takeE m.entries m.at_ r.hard.log ([])).2.2))), .int .i64 m.term, .int .i64 0, .ref 2740, .ref 2220, .ref 2221, .ref 2222], .ref 3160, .ref 3120]
      · refine At.sB 20 (!(rowB m)) true (sayNT (sayB (Bool.eq_false_iff.2 h2))) ?_
        replace h2 := Bool.eq_false_iff.2 h2
        refine At.a 4 ?_
        refine At.done rfl ?_
        refine AW.cond true (by kernel_rfl) (fun _ => ?_) (fun h => by cases h)
        refine AW.r ?_
        refine At.a 1 ?_
        refine At.c (impl_stepper_none_T_spec  (⟨r, r, [], []⟩ : Stepper) (by exact hz) hok) Tryz.call88 true [(1200, 0), (1201, 1), (1202, 2), (1203, 3), (1204, 4), (1205, 5), (1206, 6)] [(1520, 7), (1521, 8), (1522, 9), (1523, 10), (1524, 11), (1525, 12)] [] trivial ?_
        refine At.a 6 ?_
        refine At.done rfl ?_
        refine AW.ret ?_
        refine ⟨_, Sub.refl _ _, ?_⟩
        refine KF.conv (fun w => .tup [.agg [.int .i64 w.id, .int .i64 w.of_, .int .i64 w.role, .int .i64 w.commit, .int .i64 w.hard.term, .int .i64 w.hard.vote, .ref 0, .ref 1, .ref 2, .ref 3], .ref 4, .ref 5]) (fun w => [.arr 45 6 (w.hard.log.map encEnt), .arr 3 1 (w.yes.map encI), .arr 3 1 (w.next.map encI), .arr 3 1 (w.match_.map encI), .arr 47 10 (((sends r m).2.1).map encRec), .arr 51 17 (((sends r m).2.2).map encOut)]) (show (r) = ((sends r m).1) from by rw [sends_no (sendB_not (by first | exact .inl (by assumption) | exact .inr (.inl (by assumption)) | exact .inr (.inr (by assumption)) | (simp only [Bool.and_eq_false_iff, Bool.not_eq_false'] at *; grind))) hok]; first | done | rfl | (rw [endRecs_ne (by dsimp only; omega)]; rfl) | (rw [endRecs_eq rfl rfl]; done) | (rw [endRecs_eq rfl rfl]; rfl) | (rw [show r.hard.term = m.term from by omega]; rfl)) ?_
        refine KF.conv (fun w => .tup [.agg [.int .i64 r.id, .int .i64 r.of_, .int .i64 r.role, .int .i64 r.commit, .int .i64 r.hard.term, .int .i64 r.hard.vote, .ref 0, .ref 1, .ref 2, .ref 3], .ref 4, .ref 5]) (fun w => [.arr 45 6 (r.hard.log.map encEnt), .arr 3 1 (r.yes.map encI), .arr 3 1 (r.next.map encI), .arr 3 1 (r.match_.map encI), .arr 47 10 (w.map encRec), .arr 51 17 (((sends r m).2.2).map encOut)]) (show ([]) = ((sends r m).2.1) from by rw [sends_no (sendB_not (by first | exact .inl (by assumption) | exact .inr (.inl (by assumption)) | exact .inr (.inr (by assumption)) | (simp only [Bool.and_eq_false_iff, Bool.not_eq_false'] at *; grind))) hok]; first | done | rfl | (rw [endRecs_ne (by dsimp only; omega)]; rfl) | (rw [endRecs_eq rfl rfl]; done) | (rw [endRecs_eq rfl rfl]; rfl) | (rw [show r.hard.term = m.term from by omega]; rfl)) ?_
        refine KF.conv (fun w => .tup [.agg [.int .i64 r.id, .int .i64 r.of_, .int .i64 r.role, .int .i64 r.commit, .int .i64 r.hard.term, .int .i64 r.hard.vote, .ref 0, .ref 1, .ref 2, .ref 3], .ref 4, .ref 5]) (fun w => [.arr 45 6 (r.hard.log.map encEnt), .arr 3 1 (r.yes.map encI), .arr 3 1 (r.next.map encI), .arr 3 1 (r.match_.map encI), .arr 47 10 [], .arr 51 17 (w.map encOut)]) (show ([]) = ((sends r m).2.2) from by rw [sends_no (sendB_not (by first | exact .inl (by assumption) | exact .inr (.inl (by assumption)) | exact .inr (.inr (by assumption)) | (simp only [Bool.and_eq_false_iff, Bool.not_eq_false'] at *; grind))) hok]; first | done | rfl | (rw [endRecs_ne (by dsimp only; omega)]; rfl) | (rw [endRecs_eq rfl rfl]; done) | (rw [endRecs_eq rfl rfl]; rfl) | (rw [show r.hard.term = m.term from by omega]; rfl)) ?_
        exact KF.m [(1520, 0), (1521, 1), (1522, 2), (1523, 3), (1524, 4), (1525, 5)] [.agg [.int .i64 r.id, .int .i64 r.of_, .int .i64 r.role, .int .i64 r.commit, .int .i64 r.hard.term, .int .i64 r.hard.vote, .ref 1520, .ref 1521, .ref 1522, .ref 1523], .ref 1524, .ref 1525]
    · refine At.sB 15 (!(hears r m 3)) true (sayNT (sayB (Bool.eq_false_iff.2 h1))) ?_
      replace h1 := Bool.eq_false_iff.2 h1
      refine At.a 9 ?_
      refine At.done rfl ?_
      refine AW.cond true (by kernel_rfl) (fun _ => ?_) (fun h => by cases h)
      refine AW.r ?_
      refine At.a 1 ?_
      refine At.c (impl_stepper_none_T_spec  (⟨r, r, [], []⟩ : Stepper) (by exact hz) hok) Tryz.call88 true [(1200, 0), (1201, 1), (1202, 2), (1203, 3), (1204, 4), (1205, 5), (1206, 6)] [(1520, 7), (1521, 8), (1522, 9), (1523, 10), (1524, 11), (1525, 12)] [] trivial ?_
      refine At.a 6 ?_
      refine At.done rfl ?_
      refine AW.ret ?_
      refine ⟨_, Sub.refl _ _, ?_⟩
      refine KF.conv (fun w => .tup [.agg [.int .i64 w.id, .int .i64 w.of_, .int .i64 w.role, .int .i64 w.commit, .int .i64 w.hard.term, .int .i64 w.hard.vote, .ref 0, .ref 1, .ref 2, .ref 3], .ref 4, .ref 5]) (fun w => [.arr 45 6 (w.hard.log.map encEnt), .arr 3 1 (w.yes.map encI), .arr 3 1 (w.next.map encI), .arr 3 1 (w.match_.map encI), .arr 47 10 (((sends r m).2.1).map encRec), .arr 51 17 (((sends r m).2.2).map encOut)]) (show (r) = ((sends r m).1) from by rw [sends_no (sendB_not (by first | exact .inl (by assumption) | exact .inr (.inl (by assumption)) | exact .inr (.inr (by assumption)) | (simp only [Bool.and_eq_false_iff, Bool.not_eq_false'] at *; grind))) hok]; first | done | rfl | (rw [endRecs_ne (by dsimp only; omega)]; rfl) | (rw [endRecs_eq rfl rfl]; done) | (rw [endRecs_eq rfl rfl]; rfl) | (rw [show r.hard.term = m.term from by omega]; rfl)) ?_
      refine KF.conv (fun w => .tup [.agg [.int .i64 r.id, .int .i64 r.of_, .int .i64 r.role, .int .i64 r.commit, .int .i64 r.hard.term, .int .i64 r.hard.vote, .ref 0, .ref 1, .ref 2, .ref 3], .ref 4, .ref 5]) (fun w => [.arr 45 6 (r.hard.log.map encEnt), .arr 3 1 (r.yes.map encI), .arr 3 1 (r.next.map encI), .arr 3 1 (r.match_.map encI), .arr 47 10 (w.map encRec), .arr 51 17 (((sends r m).2.2).map encOut)]) (show ([]) = ((sends r m).2.1) from by rw [sends_no (sendB_not (by first | exact .inl (by assumption) | exact .inr (.inl (by assumption)) | exact .inr (.inr (by assumption)) | (simp only [Bool.and_eq_false_iff, Bool.not_eq_false'] at *; grind))) hok]; first | done | rfl | (rw [endRecs_ne (by dsimp only; omega)]; rfl) | (rw [endRecs_eq rfl rfl]; done) | (rw [endRecs_eq rfl rfl]; rfl) | (rw [show r.hard.term = m.term from by omega]; rfl)) ?_
      refine KF.conv (fun w => .tup [.agg [.int .i64 r.id, .int .i64 r.of_, .int .i64 r.role, .int .i64 r.commit, .int .i64 r.hard.term, .int .i64 r.hard.vote, .ref 0, .ref 1, .ref 2, .ref 3], .ref 4, .ref 5]) (fun w => [.arr 45 6 (r.hard.log.map encEnt), .arr 3 1 (r.yes.map encI), .arr 3 1 (r.next.map encI), .arr 3 1 (r.match_.map encI), .arr 47 10 [], .arr 51 17 (w.map encOut)]) (show ([]) = ((sends r m).2.2) from by rw [sends_no (sendB_not (by first | exact .inl (by assumption) | exact .inr (.inl (by assumption)) | exact .inr (.inr (by assumption)) | (simp only [Bool.and_eq_false_iff, Bool.not_eq_false'] at *; grind))) hok]; first | done | rfl | (rw [endRecs_ne (by dsimp only; omega)]; rfl) | (rw [endRecs_eq rfl rfl]; done) | (rw [endRecs_eq rfl rfl]; rfl) | (rw [show r.hard.term = m.term from by omega]; rfl)) ?_
      exact KF.m [(1520, 0), (1521, 1), (1522, 2), (1523, 3), (1524, 4), (1525, 5)] [.agg [.int .i64 r.id, .int .i64 r.of_, .int .i64 r.role, .int .i64 r.commit, .int .i64 r.hard.term, .int .i64 r.hard.vote, .ref 1520, .ref 1521, .ref 1522, .ref 1523], .ref 1524, .ref 1525]
  · skip
    refine AW.r ?_
    refine At.a 5 ?_
    refine At.done rfl ?_
    refine AW.seq ?_
    refine AW.weak (Sub.nils [⟨true, 104, some 6, 5001, 45, 6⟩, ⟨true, 104, some 7, 5002, 3, 1⟩, ⟨true, 104, some 8, 5003, 3, 1⟩, ⟨true, 104, some 9, 5004, 3, 1⟩] (by kernel_rfl)) ?_
    refine AW.region (At.start ?_)
    refine At.a 1 ?_
    refine At.c (impl_stepOf_spec  r (by exact hz)) Tryz.call80 true [] [(1200, 0), (1201, 1), (1202, 2), (1203, 3), (1204, 4), (1205, 5), (1206, 6)] [] trivial ?_
    refine At.a 1 ?_
    refine At.done rfl ?_
    refine AW.seq ?_
    refine AW.r ?_
    refine At.a 2 ?_
    refine At.c (impl_stepper_mayHear_spec  (⟨r, r, [], []⟩ : Stepper) m 3 (by exact hz) hm) Tryz.call85 true [(1200, 0), (1201, 1), (1202, 2), (1203, 3), (1204, 4), (1205, 5), (1206, 6)] [] [] trivial ?_
    refine At.a 2 ?_
    refine At.sB 15 (!(hears r m 3)) true (sayB (by rw [show (hears r m 3) = false from (hears_no hok)]; rfl)) ?_
    refine At.a 9 ?_
    refine At.done rfl ?_
    refine AW.cond true (by kernel_rfl) (fun _ => ?_) (fun h => by cases h)
    refine AW.r ?_
    refine At.a 1 ?_
    refine At.c (impl_stepper_none_F_spec  (⟨r, r, [], []⟩ : Stepper) (by exact hz) hok) Tryz.call88 true [(1200, 0), (1201, 1), (1202, 2), (1203, 3), (1204, 4), (1205, 5), (1206, 6)] [(1520, 7), (1521, 8), (1522, 9), (1523, 10), (1524, 11), (1525, 12)] [] trivial ?_
    refine At.a 6 ?_
    refine At.done rfl ?_
    refine AW.ret ?_
    refine ⟨_, Sub.refl _ _, ?_⟩
    refine KF.conv (fun w => .tup [.agg [.int .i64 w.id, .int .i64 w.of_, .int .i64 w.role, .int .i64 w.commit, .int .i64 w.hard.term, .int .i64 w.hard.vote, .ref 0, .ref 1, .ref 2, .ref 3], .ref 4, .ref 5]) (fun w => [.arr 45 6 (w.hard.log.map encEnt), .arr 3 1 (w.yes.map encI), .arr 3 1 (w.next.map encI), .arr 3 1 (w.match_.map encI), .arr 47 10 (((sends r m).2.1).map encRec), .arr 51 17 (((sends r m).2.2).map encOut)]) (show ((⟨0, 0, 0, 0, ⟨0, 0, []⟩, [], [], []⟩ : Raft)) = ((sends r m).1) from by simp [sends, sendB, same, hok, hears_no hok]; try rfl) ?_
    refine KF.conv (fun w => .tup [.agg [.int .i64 0, .int .i64 0, .int .i64 0, .int .i64 0, .int .i64 0, .int .i64 0, .ref 0, .ref 1, .ref 2, .ref 3], .ref 4, .ref 5]) (fun w => [.arr 45 6 [], .arr 3 1 [], .arr 3 1 [], .arr 3 1 [], .arr 47 10 (w.map encRec), .arr 51 17 (((sends r m).2.2).map encOut)]) (show ([]) = ((sends r m).2.1) from by simp [sends, sendB, same, hok, hears_no hok]; try rfl) ?_
    refine KF.conv (fun w => .tup [.agg [.int .i64 0, .int .i64 0, .int .i64 0, .int .i64 0, .int .i64 0, .int .i64 0, .ref 0, .ref 1, .ref 2, .ref 3], .ref 4, .ref 5]) (fun w => [.arr 45 6 [], .arr 3 1 [], .arr 3 1 [], .arr 3 1 [], .arr 47 10 [], .arr 51 17 (w.map encOut)]) (show ([]) = ((sends r m).2.2) from by simp [sends, sendB, same, hok, hears_no hok]; try rfl) ?_
    exact KF.m [(1520, 0), (1521, 1), (1522, 2), (1523, 3), (1524, 4), (1525, 5)] [.agg [.int .i64 0, .int .i64 0, .int .i64 0, .int .i64 0, .int .i64 0, .int .i64 0, .ref 1520, .ref 1521, .ref 1522, .ref 1523], .ref 1524, .ref 1525]
set_option maxRecDepth 100000 in
set_option maxHeartbeats 4000000 in
theorem laws_eqCmd_spec  (a : Cmd) (b : Cmd) : FnSpec Tryz.prog 128 [.agg [.int .i64 a.kind, .int .i64 a.release, .int .i64 a.node, .int .i64 a.size, .str a.digest], .agg [.int .i64 b.kind, .int .i64 b.release, .int .i64 b.node, .int .i64 b.size, .str b.digest]] [] (.bool (cmdEq a b)) [] := by
  refine FnSpec.of 30 Tryz.func128 rfl Tryz.ntmps128 (by simp) (AW.weakK ?_)
  refine AW.r ?_
  refine At.a 3 ?_
  refine At.done rfl ?_
  refine AW.seq ?_
  refine AW.r ?_
  refine At.a 5 ?_
  refine At.done rfl ?_
  refine AW.cU a.kind b.kind (fun h1 => ?_) (fun h1 => ?_)
  · skip
    refine AW.r ?_
    refine At.a 1 ?_
    refine At.done rfl ?_
    refine AW.ret ?_
    refine ⟨_, Sub.refl _ _, ?_⟩
    refine KF.conv (fun w => .bool w) (fun w => []) (show (false) = (cmdEq a b) from by simp [cmdEq, *]) ?_
    exact KF.m [] [.bool false]
  · skip
    refine AW.skip ?_
    refine AW.seq ?_
    refine AW.r ?_
    refine At.a 5 ?_
    refine At.done rfl ?_
    refine AW.cU a.release b.release (fun h2 => ?_) (fun h2 => ?_)
    · skip
      refine AW.r ?_
      refine At.a 1 ?_
      refine At.done rfl ?_
      refine AW.ret ?_
      refine ⟨_, Sub.refl _ _, ?_⟩
      refine KF.conv (fun w => .bool w) (fun w => []) (show (false) = (cmdEq a b) from by simp [cmdEq, *]) ?_
      exact KF.m [] [.bool false]
    · skip
      refine AW.skip ?_
      refine AW.seq ?_
      refine AW.r ?_
      refine At.a 5 ?_
      refine At.done rfl ?_
      refine AW.cU a.node b.node (fun h3 => ?_) (fun h3 => ?_)
      · skip
        refine AW.r ?_
        refine At.a 1 ?_
        refine At.done rfl ?_
        refine AW.ret ?_
        refine ⟨_, Sub.refl _ _, ?_⟩
        refine KF.conv (fun w => .bool w) (fun w => []) (show (false) = (cmdEq a b) from by simp [cmdEq, *]) ?_
        exact KF.m [] [.bool false]
      · skip
        refine AW.skip ?_
        refine AW.seq ?_
        refine AW.r ?_
        refine At.a 5 ?_
        refine At.done rfl ?_
        refine AW.cU a.size b.size (fun h4 => ?_) (fun h4 => ?_)
        · skip
          refine AW.r ?_
          refine At.a 1 ?_
          refine At.done rfl ?_
          refine AW.ret ?_
          refine ⟨_, Sub.refl _ _, ?_⟩
          refine KF.conv (fun w => .bool w) (fun w => []) (show (false) = (cmdEq a b) from by simp [cmdEq, *]) ?_
          exact KF.m [] [.bool false]
        · skip
          refine AW.skip ?_
          refine AW.seq ?_
          refine AW.r ?_
          refine At.a 5 ?_
          refine At.done rfl ?_
          refine AW.cNE (a.digest.toList) (b.digest.toList) (fun h5 => ?_) (fun h5 => ?_)
          · skip
            refine AW.r ?_
            refine At.a 1 ?_
            refine At.done rfl ?_
            refine AW.ret ?_
            refine ⟨_, Sub.refl _ _, ?_⟩
            refine KF.conv (fun w => .bool w) (fun w => []) (show (false) = (cmdEq a b) from by simp [cmdEq, *]) ?_
            exact KF.m [] [.bool false]
          · skip
            refine AW.skip ?_
            refine AW.r ?_
            refine At.a 1 ?_
            refine At.done rfl ?_
            refine AW.ret ?_
            refine ⟨_, Sub.refl _ _, ?_⟩
            refine KF.conv (fun w => .bool w) (fun w => []) (show (true) = (cmdEq a b) from by simp [cmdEq, *]) ?_
            exact KF.m [] [.bool true]
set_option maxRecDepth 100000 in
set_option maxHeartbeats 4000000 in
theorem laws_eqEntry_spec  (a : Ent) (b : Ent) : FnSpec Tryz.prog 166 [.agg [.int .i64 a.term, .int .i64 a.cmd.kind, .int .i64 a.cmd.release, .int .i64 a.cmd.node, .int .i64 a.cmd.size, .str a.cmd.digest], .agg [.int .i64 b.term, .int .i64 b.cmd.kind, .int .i64 b.cmd.release, .int .i64 b.cmd.node, .int .i64 b.cmd.size, .str b.cmd.digest]] [] (.bool (entEq a b)) [] := by
  refine FnSpec.of 16 Tryz.func166 rfl Tryz.ntmps166 (by simp) (AW.weakK ?_)
  refine AW.r ?_
  refine At.a 3 ?_
  refine At.done rfl ?_
  refine AW.seq ?_
  refine AW.r ?_
  refine At.a 5 ?_
  refine At.done rfl ?_
  refine AW.cU a.term b.term (fun h1 => ?_) (fun h1 => ?_)
  · skip
    refine AW.r ?_
    refine At.a 1 ?_
    refine At.done rfl ?_
    refine AW.ret ?_
    refine ⟨_, Sub.refl _ _, ?_⟩
    refine KF.conv (fun w => .bool w) (fun w => []) (show (false) = (entEq a b) from by simp [entEq, *]) ?_
    exact KF.m [] [.bool false]
  · skip
    refine AW.skip ?_
    refine AW.seq ?_
    refine AW.r ?_
    refine At.a 4 ?_
    refine At.c (laws_eqCmd_spec  a.cmd b.cmd ) Tryz.call128 true [] [] [] trivial ?_
    refine At.a 1 ?_
    refine At.done rfl ?_
    refine AW.cNB (cmdEq a.cmd b.cmd) (fun h2 => ?_) (fun h2 => ?_)
    · skip
      refine AW.r ?_
      refine At.a 1 ?_
      refine At.done rfl ?_
      refine AW.ret ?_
      refine ⟨_, Sub.refl _ _, ?_⟩
      refine KF.conv (fun w => .bool w) (fun w => []) (show (false) = (entEq a b) from by simp [entEq, *]) ?_
      exact KF.m [] [.bool false]
    · skip
      refine AW.skip ?_
      refine AW.r ?_
      refine At.a 1 ?_
      refine At.done rfl ?_
      refine AW.ret ?_
      refine ⟨_, Sub.refl _ _, ?_⟩
      refine KF.conv (fun w => .bool w) (fun w => []) (show (true) = (entEq a b) from by simp [entEq, *]) ?_
      exact KF.m [] [.bool true]
set_option maxRecDepth 100000 in
set_option maxHeartbeats 4000000 in
theorem laws_eqEntryS_spec  (a : List Ent) (b : List Ent) (ha : a.length ≤ 1048576) (hb : b.length ≤ 1048576) : FnSpec Tryz.prog 129 [.sl false 6 (a.map encEnt), .sl false 6 (b.map encEnt)] [] (.bool (listEq entEq a b)) [] := by
  refine FnSpec.of 27 Tryz.func129 rfl Tryz.ntmps129 (by simp) (AW.weakK ?_)
  refine AW.r ?_
  refine At.a 1 ?_
  refine At.done rfl ?_
  refine AW.seq ?_
  refine AW.r ?_
  refine At.a 2 ?_
  refine At.sL 7 encEnt a ?_
  refine At.a 2 ?_
  refine At.sL 9 encEnt b ?_
  refine At.a 1 ?_
  refine At.done rfl ?_
  refine AW.cU (a.length : Int) (b.length : Int) (fun h1 => ?_) (fun h1 => ?_)
  · skip
    refine AW.r ?_
    refine At.a 1 ?_
    refine At.done rfl ?_
    refine AW.ret ?_
    refine ⟨_, Sub.refl _ _, ?_⟩
    refine KF.conv (fun w => .bool w) (fun w => []) (show (false) = (listEq entEq a b) from by rw [listEq_len (by omega)]) ?_
    exact KF.m [] [.bool false]
  · skip
    refine AW.skip ?_
    refine AW.seq ?_
    refine AW.r ?_
    refine At.a 1 ?_
    refine At.done rfl ?_
    refine AW.block ?_
    refine AW.loopW (fun (k : Nat) => Go.Sy.mk [.sl false 6 (a.map encEnt), .sl false 6 (b.map encEnt), .un, .un, .un, .int .i64 (k : Int)] []) (fun (k : Nat) => k ≤ a.length ∧ listEq entEq a b = listEq entEq (a.drop k) (b.drop k)) (fun (k : Nat) => a.length - k) 0 ⟨by omega, by rw [List.drop_zero, List.drop_zero]⟩ (Sub.o [] [true, true, false, false, false, true]) ?_
    rintro k ⟨hk, hR⟩
    refine AW.seq ?_
    refine AW.r ?_
    refine At.a 3 ?_
    refine At.sL 13 encEnt a ?_
    refine At.a 1 ?_
    refine At.done rfl ?_
    refine AW.cD ((k : Int) < (a.length : Int)) (fun h2 => ?_) (fun h2 => ?_)
    · skip
      refine AW.skip ?_
      refine AW.seq ?_
      refine AW.block ?_
      refine AW.seq ?_
      refine AW.regionD Tryz_mix (At.start ?_)
      refine At.a 2 ?_
      refine At.iSl 24 19 (.tmp 17) (.tmp 18) false 6 (a.map encEnt) .i64 (k : Int) 45 (by omega) (by simp only [List.length_map, List.length_append, List.length_take, List.length_drop, List.length_replicate, List.length_set, List.length_cons, List.length_nil]; omega) ?_
      refine Exists.elim (show ∃ e, a[k]? = some e from ⟨_, List.getElem?_eq_getElem (by omega)⟩) fun e1 he1 => ?_
      refine At.lVp 45 20 (.tmp 19) false 6 (a.map encEnt) k 0 true 6 (encEnt e1) (.agg [.int .i64 e1.term, .int .i64 e1.cmd.kind, .int .i64 e1.cmd.release, .int .i64 e1.cmd.node, .int .i64 e1.cmd.size, .str e1.cmd.digest]) (mapGet he1) ?_
      refine At.a 2 ?_
      refine At.iSl 24 23 (.tmp 21) (.tmp 22) false 6 (b.map encEnt) .i64 (k : Int) 45 (by omega) (by simp only [List.length_map, List.length_append, List.length_take, List.length_drop, List.length_replicate, List.length_set, List.length_cons, List.length_nil]; omega) ?_
      refine Exists.elim (show ∃ e, b[k]? = some e from ⟨_, List.getElem?_eq_getElem (by omega)⟩) fun e2 he2 => ?_
      refine At.lVp 45 24 (.tmp 23) false 6 (b.map encEnt) k 0 true 6 (encEnt e2) (.agg [.int .i64 e2.term, .int .i64 e2.cmd.kind, .int .i64 e2.cmd.release, .int .i64 e2.cmd.node, .int .i64 e2.cmd.size, .str e2.cmd.digest]) (mapGet he2) ?_
      refine At.c (laws_eqEntry_spec  e1 e2 ) Tryz.call166 true [] [] [] trivial ?_
      refine At.a 1 ?_
      refine At.done rfl ⟨by kernel_rfl, ?_⟩
      refine AW.cNB (entEq e1 e2) (fun h3 => ?_) (fun h3 => ?_)
      · skip
        refine AW.r ?_
        refine At.a 1 ?_
        refine At.done rfl ?_
        refine AW.ret ?_
        refine ⟨_, Sub.refl _ _, ?_⟩
        refine KF.conv (fun w => .bool w) (fun w => []) (show (false) = (listEq entEq a b) from by rw [hR, dropCons he1, dropCons he2, listEq]; simp [eqI, *]) ?_
        exact KF.m [] [.bool false]
      · skip
        refine AW.skip ?_
        refine AW.region (At.start ?_)
        refine At.a 2 ?_
        refine At.sI 16 ((k : Int) + 1) (by omega) ?_
        refine At.a 1 ?_
        refine At.done rfl ?_
        exact ⟨k + 1, ⟨by omega, by rw [hR, dropCons he1, dropCons he2, listEq]; simp [eqI, *]⟩, (by omega), Sub.o [] [true, true, false, false, false, true]⟩
    · skip
      refine AW.exit ?_
      refine AW.r ?_
      refine At.a 1 ?_
      refine At.done rfl ?_
      refine AW.ret ?_
      refine ⟨_, Sub.refl _ _, ?_⟩
      refine KF.conv (fun w => .bool w) (fun w => []) (show (true) = (listEq entEq a b) from by rw [hR, List.drop_of_length_le (by omega), List.drop_of_length_le (by omega)]; rfl) ?_
      exact KF.m [] [.bool true]
set_option maxRecDepth 100000 in
set_option maxHeartbeats 4000000 in
theorem laws_eqHard_spec  (a : Hard) (b : Hard) (ha : a.log.length ≤ 1048576) (hb : b.log.length ≤ 1048576) : FnSpec Tryz.prog 124 [.agg [.int .i64 a.term, .int .i64 a.vote, .sl false 6 (a.log.map encEnt)], .agg [.int .i64 b.term, .int .i64 b.vote, .sl false 6 (b.log.map encEnt)]] [] (.bool (hardEq a b)) [] := by
  refine FnSpec.of 21 Tryz.func124 rfl Tryz.ntmps124 (by simp) (AW.weakK ?_)
  refine AW.r ?_
  refine At.a 3 ?_
  refine At.done rfl ?_
  refine AW.seq ?_
  refine AW.r ?_
  refine At.a 5 ?_
  refine At.done rfl ?_
  refine AW.cU a.term b.term (fun h1 => ?_) (fun h1 => ?_)
  · skip
    refine AW.r ?_
    refine At.a 1 ?_
    refine At.done rfl ?_
    refine AW.ret ?_
    refine ⟨_, Sub.refl _ _, ?_⟩
    refine KF.conv (fun w => .bool w) (fun w => []) (show (false) = (hardEq a b) from by simp [hardEq, *]) ?_
    exact KF.m [] [.bool false]
  · skip
    refine AW.skip ?_
    refine AW.seq ?_
    refine AW.r ?_
    refine At.a 5 ?_
    refine At.done rfl ?_
    refine AW.cU a.vote b.vote (fun h2 => ?_) (fun h2 => ?_)
    · skip
      refine AW.r ?_
      refine At.a 1 ?_
      refine At.done rfl ?_
      refine AW.ret ?_
      refine ⟨_, Sub.refl _ _, ?_⟩
      refine KF.conv (fun w => .bool w) (fun w => []) (show (false) = (hardEq a b) from by simp [hardEq, *]) ?_
      exact KF.m [] [.bool false]
    · skip
      refine AW.skip ?_
      refine AW.seq ?_
      refine AW.r ?_
      refine At.a 4 ?_
      refine At.c (laws_eqEntryS_spec  a.log b.log (by omega) (by omega)) Tryz.call129 true [] [] [] trivial ?_
      refine At.a 1 ?_
      refine At.done rfl ?_
      refine AW.cNB (listEq entEq a.log b.log) (fun h3 => ?_) (fun h3 => ?_)
      · skip
        refine AW.r ?_
        refine At.a 1 ?_
        refine At.done rfl ?_
        refine AW.ret ?_
        refine ⟨_, Sub.refl _ _, ?_⟩
        refine KF.conv (fun w => .bool w) (fun w => []) (show (false) = (hardEq a b) from by simp [hardEq, *]) ?_
        exact KF.m [] [.bool false]
      · skip
        refine AW.skip ?_
        refine AW.r ?_
        refine At.a 1 ?_
        refine At.done rfl ?_
        refine AW.ret ?_
        refine ⟨_, Sub.refl _ _, ?_⟩
        refine KF.conv (fun w => .bool w) (fun w => []) (show (true) = (hardEq a b) from by simp [hardEq, *]) ?_
        exact KF.m [] [.bool true]
set_option maxRecDepth 100000 in
set_option maxHeartbeats 4000000 in
theorem laws_eqIntS_spec  (a : List Int) (b : List Int) (ha : a.length ≤ 1048576) (hb : b.length ≤ 1048576) : FnSpec Tryz.prog 125 [.sl false 1 (a.map encI), .sl false 1 (b.map encI)] [] (.bool (listEq eqI a b)) [] := by
  refine FnSpec.of 26 Tryz.func125 rfl Tryz.ntmps125 (by simp) (AW.weakK ?_)
  refine AW.r ?_
  refine At.a 1 ?_
  refine At.done rfl ?_
  refine AW.seq ?_
  refine AW.r ?_
  refine At.a 2 ?_
  refine At.sL 7 encI a ?_
  refine At.a 2 ?_
  refine At.sL 9 encI b ?_
  refine At.a 1 ?_
  refine At.done rfl ?_
  refine AW.cU (a.length : Int) (b.length : Int) (fun h1 => ?_) (fun h1 => ?_)
  · skip
    refine AW.r ?_
    refine At.a 1 ?_
    refine At.done rfl ?_
    refine AW.ret ?_
    refine ⟨_, Sub.refl _ _, ?_⟩
    refine KF.conv (fun w => .bool w) (fun w => []) (show (false) = (listEq eqI a b) from by rw [listEq_len (by omega)]) ?_
    exact KF.m [] [.bool false]
  · skip
    refine AW.skip ?_
    refine AW.seq ?_
    refine AW.r ?_
    refine At.a 1 ?_
    refine At.done rfl ?_
    refine AW.block ?_
    refine AW.loopW (fun (k : Nat) => Go.Sy.mk [.sl false 1 (a.map encI), .sl false 1 (b.map encI), .un, .un, .un, .int .i64 (k : Int)] []) (fun (k : Nat) => k ≤ a.length ∧ listEq eqI a b = listEq eqI (a.drop k) (b.drop k)) (fun (k : Nat) => a.length - k) 0 ⟨by omega, by rw [List.drop_zero, List.drop_zero]⟩ (Sub.o [] [true, true, false, false, false, true]) ?_
    rintro k ⟨hk, hR⟩
    refine AW.seq ?_
    refine AW.r ?_
    refine At.a 3 ?_
    refine At.sL 13 encI a ?_
    refine At.a 1 ?_
    refine At.done rfl ?_
    refine AW.cD ((k : Int) < (a.length : Int)) (fun h2 => ?_) (fun h2 => ?_)
    · skip
      refine AW.skip ?_
      refine AW.seq ?_
      refine AW.block ?_
      refine AW.seq ?_
      refine AW.regionD Tryz_mix (At.start ?_)
      refine At.a 2 ?_
      refine At.iSl 27 19 (.tmp 17) (.tmp 18) false 1 (a.map encI) .i64 (k : Int) 3 (by omega) (by simp only [List.length_map, List.length_append, List.length_take, List.length_drop, List.length_replicate, List.length_set, List.length_cons, List.length_nil]; omega) ?_
      refine Exists.elim (show ∃ e, a[k]? = some e from ⟨_, List.getElem?_eq_getElem (by omega)⟩) fun e1 he1 => ?_
      refine At.lVp 3 20 (.tmp 19) false 1 (a.map encI) k 0 false 1 (encI e1) (.int .i64 e1) (mapGet he1) ?_
      refine At.a 2 ?_
      refine At.iSl 27 23 (.tmp 21) (.tmp 22) false 1 (b.map encI) .i64 (k : Int) 3 (by omega) (by simp only [List.length_map, List.length_append, List.length_take, List.length_drop, List.length_replicate, List.length_set, List.length_cons, List.length_nil]; omega) ?_
      refine Exists.elim (show ∃ e, b[k]? = some e from ⟨_, List.getElem?_eq_getElem (by omega)⟩) fun e2 he2 => ?_
      refine At.lVp 3 24 (.tmp 23) false 1 (b.map encI) k 0 false 1 (encI e2) (.int .i64 e2) (mapGet he2) ?_
      refine At.a 1 ?_
      refine At.done rfl ⟨by kernel_rfl, ?_⟩
      refine AW.cU e1 e2 (fun h3 => ?_) (fun h3 => ?_)
      · skip
        refine AW.r ?_
        refine At.a 1 ?_
        refine At.done rfl ?_
        refine AW.ret ?_
        refine ⟨_, Sub.refl _ _, ?_⟩
        refine KF.conv (fun w => .bool w) (fun w => []) (show (false) = (listEq eqI a b) from by rw [hR, dropCons he1, dropCons he2, listEq]; simp [eqI, *]) ?_
        exact KF.m [] [.bool false]
      · skip
        refine AW.skip ?_
        refine AW.region (At.start ?_)
        refine At.a 2 ?_
        refine At.sI 16 ((k : Int) + 1) (by omega) ?_
        refine At.a 1 ?_
        refine At.done rfl ?_
        exact ⟨k + 1, ⟨by omega, by rw [hR, dropCons he1, dropCons he2, listEq]; simp [eqI, *]⟩, (by omega), Sub.o [] [true, true, false, false, false, true]⟩
    · skip
      refine AW.exit ?_
      refine AW.r ?_
      refine At.a 1 ?_
      refine At.done rfl ?_
      refine AW.ret ?_
      refine ⟨_, Sub.refl _ _, ?_⟩
      refine KF.conv (fun w => .bool w) (fun w => []) (show (true) = (listEq eqI a b) from by rw [hR, List.drop_of_length_le (by omega), List.drop_of_length_le (by omega)]; rfl) ?_
      exact KF.m [] [.bool true]
set_option maxRecDepth 100000 in
set_option maxHeartbeats 4000000 in
theorem laws_eqRaft_spec  (a : Raft) (b : Raft) (ha : SmallR a) (hb : SmallR b) : FnSpec Tryz.prog 42 [.agg [.int .i64 a.id, .int .i64 a.of_, .int .i64 a.role, .int .i64 a.commit, .int .i64 a.hard.term, .int .i64 a.hard.vote, .sl false 6 (a.hard.log.map encEnt), .sl false 1 (a.yes.map encI), .sl false 1 (a.next.map encI), .sl false 1 (a.match_.map encI)], .agg [.int .i64 b.id, .int .i64 b.of_, .int .i64 b.role, .int .i64 b.commit, .int .i64 b.hard.term, .int .i64 b.hard.vote, .sl false 6 (b.hard.log.map encEnt), .sl false 1 (b.yes.map encI), .sl false 1 (b.next.map encI), .sl false 1 (b.match_.map encI)]] [] (.bool (raftEq a b)) [] := by
  obtain ⟨z1, z2, z3, z4⟩ := id ha
  obtain ⟨y1, y2, y3, y4⟩ := id hb
  refine FnSpec.of 49 Tryz.func42 rfl Tryz.ntmps42 (by simp) (AW.weakK ?_)
  refine AW.r ?_
  refine At.a 3 ?_
  refine At.done rfl ?_
  refine AW.seq ?_
  refine AW.r ?_
  refine At.a 5 ?_
  refine At.done rfl ?_
  refine AW.cU a.id b.id (fun h1 => ?_) (fun h1 => ?_)
  · skip
    refine AW.r ?_
    refine At.a 1 ?_
    refine At.done rfl ?_
    refine AW.ret ?_
    refine ⟨_, Sub.refl _ _, ?_⟩
    refine KF.conv (fun w => .bool w) (fun w => []) (show (false) = (raftEq a b) from by simp [raftEq, h1]) ?_
    exact KF.m [] [.bool false]
  · skip
    refine AW.skip ?_
    refine AW.seq ?_
    refine AW.r ?_
    refine At.a 5 ?_
    refine At.done rfl ?_
    refine AW.cU a.of_ b.of_ (fun h2 => ?_) (fun h2 => ?_)
    · skip
      refine AW.r ?_
      refine At.a 1 ?_
      refine At.done rfl ?_
      refine AW.ret ?_
      refine ⟨_, Sub.refl _ _, ?_⟩
      refine KF.conv (fun w => .bool w) (fun w => []) (show (false) = (raftEq a b) from by simp [raftEq, h1, h2]) ?_
      exact KF.m [] [.bool false]
    · skip
      refine AW.skip ?_
      refine AW.seq ?_
      refine AW.r ?_
      refine At.a 5 ?_
      refine At.done rfl ?_
      refine AW.cU a.role b.role (fun h3 => ?_) (fun h3 => ?_)
      · skip
        refine AW.r ?_
        refine At.a 1 ?_
        refine At.done rfl ?_
        refine AW.ret ?_
        refine ⟨_, Sub.refl _ _, ?_⟩
        refine KF.conv (fun w => .bool w) (fun w => []) (show (false) = (raftEq a b) from by simp [raftEq, h1, h2, h3]) ?_
        exact KF.m [] [.bool false]
      · skip
        refine AW.skip ?_
        refine AW.seq ?_
        refine AW.r ?_
        refine At.a 5 ?_
        refine At.done rfl ?_
        refine AW.cU a.commit b.commit (fun h4 => ?_) (fun h4 => ?_)
        · skip
          refine AW.r ?_
          refine At.a 1 ?_
          refine At.done rfl ?_
          refine AW.ret ?_
          refine ⟨_, Sub.refl _ _, ?_⟩
          refine KF.conv (fun w => .bool w) (fun w => []) (show (false) = (raftEq a b) from by simp [raftEq, h1, h2, h3, h4]) ?_
          exact KF.m [] [.bool false]
        · skip
          refine AW.skip ?_
          refine AW.seq ?_
          refine AW.r ?_
          refine At.a 4 ?_
          refine At.c (laws_eqHard_spec  a.hard b.hard (by omega) (by omega)) Tryz.call124 true [] [] [] trivial ?_
          refine At.a 1 ?_
          refine At.done rfl ?_
          refine AW.cNB (hardEq a.hard b.hard) (fun h5 => ?_) (fun h5 => ?_)
          · skip
            refine AW.r ?_
            refine At.a 1 ?_
            refine At.done rfl ?_
            refine AW.ret ?_
            refine ⟨_, Sub.refl _ _, ?_⟩
            refine KF.conv (fun w => .bool w) (fun w => []) (show (false) = (raftEq a b) from by simp [raftEq, h1, h2, h3, h4, h5]) ?_
            exact KF.m [] [.bool false]
          · skip
            refine AW.skip ?_
            refine AW.seq ?_
            refine AW.r ?_
            refine At.a 4 ?_
            refine At.c (laws_eqIntS_spec  a.yes b.yes (by omega) (by omega)) Tryz.call125 true [] [] [] trivial ?_
            refine At.a 1 ?_
            refine At.done rfl ?_
            refine AW.cNB (listEq eqI a.yes b.yes) (fun h6 => ?_) (fun h6 => ?_)
            · skip
              refine AW.r ?_
              refine At.a 1 ?_
              refine At.done rfl ?_
              refine AW.ret ?_
              refine ⟨_, Sub.refl _ _, ?_⟩
              refine KF.conv (fun w => .bool w) (fun w => []) (show (false) = (raftEq a b) from by simp [raftEq, h1, h2, h3, h4, h5, h6]) ?_
              exact KF.m [] [.bool false]
            · skip
              refine AW.skip ?_
              refine AW.seq ?_
              refine AW.r ?_
              refine At.a 4 ?_
              refine At.c (laws_eqIntS_spec  a.next b.next (by omega) (by omega)) Tryz.call125 true [] [] [] trivial ?_
              refine At.a 1 ?_
              refine At.done rfl ?_
              refine AW.cNB (listEq eqI a.next b.next) (fun h7 => ?_) (fun h7 => ?_)
              · skip
                refine AW.r ?_
                refine At.a 1 ?_
                refine At.done rfl ?_
                refine AW.ret ?_
                refine ⟨_, Sub.refl _ _, ?_⟩
                refine KF.conv (fun w => .bool w) (fun w => []) (show (false) = (raftEq a b) from by simp [raftEq, h1, h2, h3, h4, h5, h6, h7]) ?_
                exact KF.m [] [.bool false]
              · skip
                refine AW.skip ?_
                refine AW.seq ?_
                refine AW.r ?_
                refine At.a 4 ?_
                refine At.c (laws_eqIntS_spec  a.match_ b.match_ (by omega) (by omega)) Tryz.call125 true [] [] [] trivial ?_
                refine At.a 1 ?_
                refine At.done rfl ?_
                refine AW.cNB (listEq eqI a.match_ b.match_) (fun h8 => ?_) (fun h8 => ?_)
                · skip
                  refine AW.r ?_
                  refine At.a 1 ?_
                  refine At.done rfl ?_
                  refine AW.ret ?_
                  refine ⟨_, Sub.refl _ _, ?_⟩
                  refine KF.conv (fun w => .bool w) (fun w => []) (show (false) = (raftEq a b) from by simp [raftEq, h1, h2, h3, h4, h5, h6, h7, h8]) ?_
                  exact KF.m [] [.bool false]
                · skip
                  refine AW.skip ?_
                  refine AW.r ?_
                  refine At.a 1 ?_
                  refine At.done rfl ?_
                  refine AW.ret ?_
                  refine ⟨_, Sub.refl _ _, ?_⟩
                  refine KF.conv (fun w => .bool w) (fun w => []) (show (true) = (raftEq a b) from by simp [raftEq, h1, h2, h3, h4, h5, h6, h7, h8]) ?_
                  exact KF.m [] [.bool true]
end Go.Proofs.YtlmadhahghiedaaGreat
