/- The contracts of the functions that FnExactRaftStand reaches (each: what it answers, said over values), printed by a program of this session (wip/sy/g/gen.py). -/
import Derived.Test.YtlmadhahghiedaaFFnExactRaftStand2
set_option linter.unusedVariables false
set_option linter.unusedSimpArgs false
namespace Go.Proofs.Ytlmadhahghiedaa
open Go Go.Sy Go.Proofs
set_option maxRecDepth 100000 in
set_option maxHeartbeats 4000000 in
theorem impl_RaftOk_spec  (r : Raft) (hz : SmallR r) : FnSpec Try.prog 40 [.agg [.int .i64 r.id, .int .i64 r.of_, .int .i64 r.role, .int .i64 r.commit, .int .i64 r.hard.term, .int .i64 r.hard.vote, .sl false 6 (r.hard.log.map encEnt), .sl false 1 (r.yes.map encI), .sl false 1 (r.next.map encI), .sl false 1 (r.match_.map encI)]] [] (.bool (raftOk r)) [] := by
  obtain ⟨z1, z2, z3, z4⟩ := id hz
  refine FnSpec.of 105 Try.func40 rfl Try.ntmps40 (by simp) (AW.weakK ?_)
  refine AW.r ?_
  refine At.a 2 ?_
  refine At.done rfl ?_
  refine AW.r ?_
  refine At.a 4 ?_
  refine At.sL 9 encEnt r.hard.log ?_
  refine At.a 1 ?_
  refine At.done rfl ?_
  refine AW.seq ?_
  refine AW.r ?_
  refine At.a 2 ?_
  refine At.c (impl_isOf_spec  r.of_ ) Try.call84 true [] [] [] trivial ?_
  refine At.a 2 ?_
  by_cases h1 : (ofOk r.of_) = true
  · refine At.sB 14 (!(ofOk r.of_)) false (sayNF (sayB h1)) ?_
    have h1o := ofOk_iff.1 h1
    refine At.a 5 ?_
    refine At.sI 19 (r.of_ - 1) (by omega) ?_
    refine At.c (impl_within_spec  r.id 0 (r.of_ - 1) ) Try.call85 true [] [] [] trivial ?_
    refine At.a 3 ?_
    by_cases h2 : (inR r.id 0 (r.of_ - 1)) = true
    · refine At.sB 23 (!(inR r.id 0 (r.of_ - 1))) false (sayNF (sayB h2)) ?_
      have h2i := inR_iff.1 h2
      refine At.a 2 ?_
      refine At.c (impl_within_spec  r.role 1 3 ) Try.call85 true [] [] [] trivial ?_
      refine At.a 3 ?_
      by_cases h3 : (inR r.role 1 3) = true
      · refine At.sB 29 (!(inR r.role 1 3)) false (sayNF (sayB h3)) ?_
        have h3i := inR_iff.1 h3
        refine At.a 2 ?_
        refine At.c (impl_HardOk_spec  r.hard (by omega)) Try.call86 true [] [] [] trivial ?_
        refine At.a 3 ?_
        by_cases h4 : (hardOk r.hard) = true
        · refine At.sB 35 (!(hardOk r.hard)) false (sayNF (sayB h4)) ?_
          refine At.a 3 ?_
          refine At.c (impl_within_spec  r.commit 0 (r.hard.log.length : Int) ) Try.call85 true [] [] [] trivial ?_
          refine At.a 2 ?_
          refine At.done rfl ?_
          refine AW.cNB (inR r.commit 0 (r.hard.log.length : Int)) (fun h5 => ?_) (fun h5 => ?_)
          · skip
            refine AW.r ?_
            refine At.a 1 ?_
            refine At.done rfl ?_
            refine AW.ret ?_
            refine ⟨_, Sub.refl _ _, ?_⟩
            refine KF.conv (fun w => .bool w) (fun w => []) (show (false) = (raftOk r) from by grind [raft_all, raftOk3, allIn_zero]) ?_
            exact KF.m [] [.bool false]
          · skip
            have h5i := inR_iff.1 h5
            refine AW.skip ?_
            refine AW.seq ?_
            refine AW.seq ?_
            refine AW.cut [(101, 101)] [false, true, false, true] 65 (!(raftI2 r)) ?_ ?_
            · skip
              refine AW.region (At.start ?_)
              refine At.a 4 ?_
              refine At.c (impl_nodesAscend_spec  r.yes r.of_ (by omega) (by omega)) Try.call87 true [] [] [] trivial ?_
              refine At.a 2 ?_
              by_cases h6 : (asc (r.of_ - 1) (-1) r.yes) = true
              · refine At.sB 48 (!(asc (r.of_ - 1) (-1) r.yes)) false (sayNF (sayB h6)) ?_
                refine At.a 4 ?_
                refine At.c (slices_Contains_spec  r.yes r.id (by omega)) Try.call88 true [] [] [] trivial ?_
                refine At.a 2 ?_
                by_cases h7 : (hasI r.id r.yes) = true
                · refine At.sB 55 (hasI r.id r.yes) true (sayB h7) ?_
                  refine At.a 10 ?_
                  refine At.sB 65 true (!(raftI2 r)) (congrArg V.bool (by grind [raftI2])) ?_
                  refine At.done rfl ⟨rfl, ?_⟩
                  exact Sub.cut [(101, 101)] [false, true, false, true] 65 _ (by kernel_rfl) (by kernel_rfl) (by kernel_rfl) (by kernel_rfl)
                · refine At.sB 55 (hasI r.id r.yes) false (sayB (Bool.eq_false_iff.2 h7)) ?_
                  replace h7 := Bool.eq_false_iff.2 h7
                  refine At.a 3 ?_
                  refine At.sL 58 encI r.yes ?_
                  refine At.a 2 ?_
                  by_cases h8 : (r.yes.length : Int) > 0
                  · refine At.sB 60 (decide ((r.yes.length : Int) > 0)) true (sayT h8) ?_
                    refine At.a 5 ?_
                    refine At.sB 65 (r.role != 2) (!(raftI2 r)) (congrArg V.bool (by grind [raftI2])) ?_
                    refine At.done rfl ⟨rfl, ?_⟩
                    exact Sub.cut [(101, 101)] [false, true, false, true] 65 _ (by kernel_rfl) (by kernel_rfl) (by kernel_rfl) (by kernel_rfl)
                  · refine At.sB 60 (decide ((r.yes.length : Int) > 0)) false (sayF h8) ?_
                    refine At.a 5 ?_
                    refine At.sB 65 false (!(raftI2 r)) (congrArg V.bool (by grind [raftI2])) ?_
                    refine At.done rfl ⟨rfl, ?_⟩
                    exact Sub.cut [(101, 101)] [false, true, false, true] 65 _ (by kernel_rfl) (by kernel_rfl) (by kernel_rfl) (by kernel_rfl)
              · refine At.sB 48 (!(asc (r.of_ - 1) (-1) r.yes)) true (sayNT (sayB (Bool.eq_false_iff.2 h6))) ?_
                replace h6 := Bool.eq_false_iff.2 h6
                refine At.a 17 ?_
                refine At.sB 65 true (!(raftI2 r)) (congrArg V.bool (by grind [raftI2])) ?_
                refine At.done rfl ⟨rfl, ?_⟩
                exact Sub.cut [(101, 101)] [false, true, false, true] 65 _ (by kernel_rfl) (by kernel_rfl) (by kernel_rfl) (by kernel_rfl)
            refine AW.cNB (raftI2 r) (fun h9 => ?_) (fun h9 => ?_)
            · skip
              refine AW.r ?_
              refine At.a 1 ?_
              refine At.done rfl ?_
              refine AW.ret ?_
              refine ⟨_, Sub.refl _ _, ?_⟩
              refine KF.conv (fun w => .bool w) (fun w => []) (show (false) = (raftOk r) from by grind [raft_all, raftOk3, allIn_zero]) ?_
              exact KF.m [] [.bool false]
            · skip
              refine AW.skip ?_
              refine AW.r ?_
              refine At.a 1 ?_
              refine At.done rfl ?_
              refine AW.seq ?_
              refine AW.r ?_
              refine At.a 3 ?_
              refine At.done rfl ?_
              refine AW.cE r.role (3 : Int) (fun h10 => ?_) (fun h10 => ?_)
              · skip
                refine AW.region (At.start ?_)
                refine At.a 3 ?_
                refine At.done rfl ?_
                refine AW.seq ?_
                refine AW.cut [(101, 101)] [false, true, false, true, true] 5 (raftI4 r) ?_ ?_
                · skip
                  refine AW.region (At.start ?_)
                  refine At.a 4 ?_
                  by_cases h11 : r.role = 1
                  · refine At.sB 74 (r.role == 1) true (sayET h11) ?_
                    refine At.a 15 ?_
                    refine At.sB 5 true (raftI4 r) (congrArg V.bool (by grind [raftI4])) ?_
                    refine At.done rfl ⟨rfl, ?_⟩
                    exact Sub.cut [(101, 101)] [false, true, false, true, true] 5 _ (by kernel_rfl) (by kernel_rfl) (by kernel_rfl) (by kernel_rfl)
                  · refine At.sB 74 (r.role == 1) false (sayEF h11) ?_
                    refine At.a 5 ?_
                    by_cases h12 : r.hard.term ≥ 1
                    · refine At.sB 79 (decide (r.hard.term ≥ 1)) true (sayT h12) ?_
                      refine At.a 6 ?_
                      refine At.sI 85 (r.id + 1) (by omega) ?_
                      refine At.a 4 ?_
                      refine At.sB 5 (r.hard.vote == (r.id + 1)) (raftI4 r) (congrArg V.bool (by grind [raftI4])) ?_
                      refine At.done rfl ⟨rfl, ?_⟩
                      exact Sub.cut [(101, 101)] [false, true, false, true, true] 5 _ (by kernel_rfl) (by kernel_rfl) (by kernel_rfl) (by kernel_rfl)
                    · refine At.sB 79 (decide (r.hard.term ≥ 1)) false (sayF h12) ?_
                      refine At.a 10 ?_
                      refine At.sB 5 false (raftI4 r) (congrArg V.bool (by grind [raftI4])) ?_
                      refine At.done rfl ⟨rfl, ?_⟩
                      exact Sub.cut [(101, 101)] [false, true, false, true, true] 5 _ (by kernel_rfl) (by kernel_rfl) (by kernel_rfl) (by kernel_rfl)
                refine AW.r ?_
                refine At.a 2 ?_
                by_cases h13 : (raftI4 r) = true
                · refine At.sB 90 (raftI4 r) true (sayB h13) ?_
                  refine At.a 5 ?_
                  refine At.sI 95 ((r.hard.log.length : Int) + 1) (by omega) ?_
                  refine At.c (impl_numbersIn_spec  r.next r.of_ 1 ((r.hard.log.length : Int) + 1) (by omega)) Try.call89 true [] [] [] trivial ?_
                  refine At.a 2 ?_
                  by_cases h14 : (allIn 1 ((r.hard.log.length : Int) + 1) r.next && ((r.next.length : Int) == r.of_)) = true
                  · refine At.sB 98 (allIn 1 ((r.hard.log.length : Int) + 1) r.next && ((r.next.length : Int) == r.of_)) true (sayB h14) ?_
                    refine At.a 4 ?_
                    refine At.c (impl_numbersIn_spec  r.match_ r.of_ 0 (r.hard.log.length : Int) (by omega)) Try.call89 true [] [] [] trivial ?_
                    refine At.a 2 ?_
                    refine At.done rfl ?_
                    refine AW.ret ?_
                    refine ⟨_, Sub.refl _ _, ?_⟩
                    refine KF.conv (fun w => .bool w) (fun w => []) (show (allIn 0 (r.hard.log.length : Int) r.match_ && ((r.match_.length : Int) == r.of_)) = (raftOk r) from by grind [raft_all, raftOk3, allIn_zero]) ?_
                    exact KF.m [] [.bool (allIn 0 (r.hard.log.length : Int) r.match_ && ((r.match_.length : Int) == r.of_))]
                  · refine At.sB 98 (allIn 1 ((r.hard.log.length : Int) + 1) r.next && ((r.next.length : Int) == r.of_)) false (sayB (Bool.eq_false_iff.2 h14)) ?_
                    replace h14 := Bool.eq_false_iff.2 h14
                    refine At.a 7 ?_
                    refine At.done rfl ?_
                    refine AW.ret ?_
                    refine ⟨_, Sub.refl _ _, ?_⟩
                    refine KF.conv (fun w => .bool w) (fun w => []) (show (false) = (raftOk r) from by grind [raft_all, raftOk3, allIn_zero]) ?_
                    exact KF.m [] [.bool false]
                · refine At.sB 90 (raftI4 r) false (sayB (Bool.eq_false_iff.2 h13)) ?_
                  replace h13 := Bool.eq_false_iff.2 h13
                  refine At.a 15 ?_
                  refine At.done rfl ?_
                  refine AW.ret ?_
                  refine ⟨_, Sub.refl _ _, ?_⟩
                  refine KF.conv (fun w => .bool w) (fun w => []) (show (false) = (raftOk r) from by grind [raft_all, raftOk3, allIn_zero]) ?_
                  exact KF.m [] [.bool false]
              · skip
                refine AW.skip ?_
                refine AW.seq ?_
                refine AW.cut [(101, 101)] [false, true, false, true, true] 5 (raftI4 r) ?_ ?_
                · skip
                  refine AW.region (At.start ?_)
                  refine At.a 4 ?_
                  by_cases h15 : r.role = 1
                  · refine At.sB 74 (r.role == 1) true (sayET h15) ?_
                    refine At.a 15 ?_
                    refine At.sB 5 true (raftI4 r) (congrArg V.bool (by grind [raftI4])) ?_
                    refine At.done rfl ⟨rfl, ?_⟩
                    exact Sub.cut [(101, 101)] [false, true, false, true, true] 5 _ (by kernel_rfl) (by kernel_rfl) (by kernel_rfl) (by kernel_rfl)
                  · refine At.sB 74 (r.role == 1) false (sayEF h15) ?_
                    refine At.a 5 ?_
                    by_cases h16 : r.hard.term ≥ 1
                    · refine At.sB 79 (decide (r.hard.term ≥ 1)) true (sayT h16) ?_
                      refine At.a 6 ?_
                      refine At.sI 85 (r.id + 1) (by omega) ?_
                      refine At.a 4 ?_
                      refine At.sB 5 (r.hard.vote == (r.id + 1)) (raftI4 r) (congrArg V.bool (by grind [raftI4])) ?_
                      refine At.done rfl ⟨rfl, ?_⟩
                      exact Sub.cut [(101, 101)] [false, true, false, true, true] 5 _ (by kernel_rfl) (by kernel_rfl) (by kernel_rfl) (by kernel_rfl)
                    · refine At.sB 79 (decide (r.hard.term ≥ 1)) false (sayF h16) ?_
                      refine At.a 10 ?_
                      refine At.sB 5 false (raftI4 r) (congrArg V.bool (by grind [raftI4])) ?_
                      refine At.done rfl ⟨rfl, ?_⟩
                      exact Sub.cut [(101, 101)] [false, true, false, true, true] 5 _ (by kernel_rfl) (by kernel_rfl) (by kernel_rfl) (by kernel_rfl)
                refine AW.r ?_
                refine At.a 2 ?_
                by_cases h17 : (raftI4 r) = true
                · refine At.sB 90 (raftI4 r) true (sayB h17) ?_
                  refine At.a 5 ?_
                  refine At.sI 95 ((r.hard.log.length : Int) + 1) (by omega) ?_
                  refine At.c (impl_numbersIn_spec  r.next 0 1 ((r.hard.log.length : Int) + 1) (by omega)) Try.call89 true [] [] [] trivial ?_
                  refine At.a 2 ?_
                  by_cases h18 : (allIn 1 ((r.hard.log.length : Int) + 1) r.next && ((r.next.length : Int) == 0)) = true
                  · refine At.sB 98 (allIn 1 ((r.hard.log.length : Int) + 1) r.next && ((r.next.length : Int) == 0)) true (sayB h18) ?_
                    refine At.a 4 ?_
                    refine At.c (impl_numbersIn_spec  r.match_ 0 0 (r.hard.log.length : Int) (by omega)) Try.call89 true [] [] [] trivial ?_
                    refine At.a 2 ?_
                    refine At.done rfl ?_
                    refine AW.ret ?_
                    refine ⟨_, Sub.refl _ _, ?_⟩
                    refine KF.conv (fun w => .bool w) (fun w => []) (show (allIn 0 (r.hard.log.length : Int) r.match_ && ((r.match_.length : Int) == 0)) = (raftOk r) from by grind [raft_all, raftOk3, allIn_zero]) ?_
                    exact KF.m [] [.bool (allIn 0 (r.hard.log.length : Int) r.match_ && ((r.match_.length : Int) == 0))]
                  · refine At.sB 98 (allIn 1 ((r.hard.log.length : Int) + 1) r.next && ((r.next.length : Int) == 0)) false (sayB (Bool.eq_false_iff.2 h18)) ?_
                    replace h18 := Bool.eq_false_iff.2 h18
                    refine At.a 7 ?_
                    refine At.done rfl ?_
                    refine AW.ret ?_
                    refine ⟨_, Sub.refl _ _, ?_⟩
                    refine KF.conv (fun w => .bool w) (fun w => []) (show (false) = (raftOk r) from by grind [raft_all, raftOk3, allIn_zero]) ?_
                    exact KF.m [] [.bool false]
                · refine At.sB 90 (raftI4 r) false (sayB (Bool.eq_false_iff.2 h17)) ?_
                  replace h17 := Bool.eq_false_iff.2 h17
                  refine At.a 15 ?_
                  refine At.done rfl ?_
                  refine AW.ret ?_
                  refine ⟨_, Sub.refl _ _, ?_⟩
                  refine KF.conv (fun w => .bool w) (fun w => []) (show (false) = (raftOk r) from by grind [raft_all, raftOk3, allIn_zero]) ?_
                  exact KF.m [] [.bool false]
        · refine At.sB 35 (!(hardOk r.hard)) true (sayNT (sayB (Bool.eq_false_iff.2 h4))) ?_
          replace h4 := Bool.eq_false_iff.2 h4
          refine At.a 6 ?_
          refine At.done rfl ?_
          refine AW.cond true (by kernel_rfl) (fun _ => ?_) (fun h => by cases h)
          refine AW.r ?_
          refine At.a 1 ?_
          refine At.done rfl ?_
          refine AW.ret ?_
          refine ⟨_, Sub.refl _ _, ?_⟩
          refine KF.conv (fun w => .bool w) (fun w => []) (show (false) = (raftOk r) from by grind [raft_all, raftOk3, allIn_zero]) ?_
          exact KF.m [] [.bool false]
      · refine At.sB 29 (!(inR r.role 1 3)) true (sayNT (sayB (Bool.eq_false_iff.2 h3))) ?_
        replace h3 := Bool.eq_false_iff.2 h3
        refine At.a 12 ?_
        refine At.done rfl ?_
        refine AW.cond true (by kernel_rfl) (fun _ => ?_) (fun h => by cases h)
        refine AW.r ?_
        refine At.a 1 ?_
        refine At.done rfl ?_
        refine AW.ret ?_
        refine ⟨_, Sub.refl _ _, ?_⟩
        refine KF.conv (fun w => .bool w) (fun w => []) (show (false) = (raftOk r) from by grind [raft_all, raftOk3, allIn_zero]) ?_
        exact KF.m [] [.bool false]
    · refine At.sB 23 (!(inR r.id 0 (r.of_ - 1))) true (sayNT (sayB (Bool.eq_false_iff.2 h2))) ?_
      replace h2 := Bool.eq_false_iff.2 h2
      refine At.a 18 ?_
      refine At.done rfl ?_
      refine AW.cond true (by kernel_rfl) (fun _ => ?_) (fun h => by cases h)
      refine AW.r ?_
      refine At.a 1 ?_
      refine At.done rfl ?_
      refine AW.ret ?_
      refine ⟨_, Sub.refl _ _, ?_⟩
      refine KF.conv (fun w => .bool w) (fun w => []) (show (false) = (raftOk r) from by grind [raft_all, raftOk3, allIn_zero]) ?_
      exact KF.m [] [.bool false]
  · refine At.sB 14 (!(ofOk r.of_)) true (sayNT (sayB (Bool.eq_false_iff.2 h1))) ?_
    replace h1 := Bool.eq_false_iff.2 h1
    refine At.a 27 ?_
    refine At.done rfl ?_
    refine AW.cond true (by kernel_rfl) (fun _ => ?_) (fun h => by cases h)
    refine AW.r ?_
    refine At.a 1 ?_
    refine At.done rfl ?_
    refine AW.ret ?_
    refine ⟨_, Sub.refl _ _, ?_⟩
    refine KF.conv (fun w => .bool w) (fun w => []) (show (false) = (raftOk r) from by grind [raft_all, raftOk3, allIn_zero]) ?_
    exact KF.m [] [.bool false]
set_option maxRecDepth 100000 in
set_option maxHeartbeats 4000000 in
theorem impl_stepper_none_spec  (s : Stepper) (hz : SmallR s.was) : FnSpec Try.prog 56 [.ptr 0 0 0] [.box 73 [.int .i64 s.r.id, .int .i64 s.r.of_, .int .i64 s.r.role, .int .i64 s.r.commit, .int .i64 s.r.hard.term, .int .i64 s.r.hard.vote, .ref 1, .ref 2, .ref 3, .ref 4, .int .i64 s.was.id, .int .i64 s.was.of_, .int .i64 s.was.role, .int .i64 s.was.commit, .int .i64 s.was.hard.term, .int .i64 s.was.hard.vote, .sl false 6 (s.was.hard.log.map encEnt), .sl false 1 (s.was.yes.map encI), .sl false 1 (s.was.next.map encI), .sl false 1 (s.was.match_.map encI), .ref 5, .ref 6], .arr 88 6 (s.r.hard.log.map encEnt), .arr 3 1 (s.r.yes.map encI), .arr 3 1 (s.r.next.map encI), .arr 3 1 (s.r.match_.map encI), .arr 93 10 (s.recs.map encRec), .arr 76 17 (s.outs.map encOut)] (.tup [.agg [.int .i64 ((same s.was).id), .int .i64 ((same s.was).of_), .int .i64 ((same s.was).role), .int .i64 ((same s.was).commit), .int .i64 ((same s.was).hard.term), .int .i64 ((same s.was).hard.vote), .ref 7, .ref 8, .ref 9, .ref 10], .ref 11, .ref 12]) [.box 73 [.int .i64 s.r.id, .int .i64 s.r.of_, .int .i64 s.r.role, .int .i64 s.r.commit, .int .i64 s.r.hard.term, .int .i64 s.r.hard.vote, .ref 1, .ref 2, .ref 3, .ref 4, .int .i64 s.was.id, .int .i64 s.was.of_, .int .i64 s.was.role, .int .i64 s.was.commit, .int .i64 s.was.hard.term, .int .i64 s.was.hard.vote, .sl false 6 (s.was.hard.log.map encEnt), .sl false 1 (s.was.yes.map encI), .sl false 1 (s.was.next.map encI), .sl false 1 (s.was.match_.map encI), .ref 5, .ref 6], .arr 88 6 (s.r.hard.log.map encEnt), .arr 3 1 (s.r.yes.map encI), .arr 3 1 (s.r.next.map encI), .arr 3 1 (s.r.match_.map encI), .arr 93 10 (s.recs.map encRec), .arr 76 17 (s.outs.map encOut), .arr 88 6 (((same s.was).hard.log).map encEnt), .arr 3 1 (((same s.was).yes).map encI), .arr 3 1 (((same s.was).next).map encI), .arr 3 1 (((same s.was).match_).map encI), .arr 93 10 [], .arr 76 17 []] := by
  obtain ⟨z1, z2, z3, z4⟩ := id hz
  refine FnSpec.of 17 Try.func56 rfl Try.ntmps56 (by simp) (AW.weakK ?_)
  refine AW.r ?_
  refine At.a 3 ?_
  refine At.done rfl ?_
  refine AW.seq ?_
  refine AW.seq ?_
  refine AW.weak (Sub.nils [⟨true, 102, some 6, 5001, 88, 6⟩, ⟨true, 102, some 7, 5002, 3, 1⟩, ⟨true, 102, some 8, 5003, 3, 1⟩, ⟨true, 102, some 9, 5004, 3, 1⟩] (by kernel_rfl)) ?_
  refine AW.region (At.start ?_)
  refine At.a 4 ?_
  refine At.c (impl_RaftOk_spec  s.was hz) Try.call40 true [] [] [] trivial ?_
  refine At.a 1 ?_
  refine At.done rfl ?_
  refine AW.cNB (raftOk s.was) (fun h1 => ?_) (fun h1 => ?_)
  · skip
    refine AW.r ?_
    refine At.a 4 ?_
    refine At.done rfl ?_
    refine AW.ret ?_
    refine ⟨_, Sub.nils [⟨true, 102, some 6, 5005, 88, 6⟩, ⟨true, 102, some 7, 5006, 3, 1⟩, ⟨true, 102, some 8, 5007, 3, 1⟩, ⟨true, 102, some 9, 5008, 3, 1⟩, ⟨false, 3, none, 5009, 93, 10⟩, ⟨false, 4, none, 5010, 76, 17⟩] (by kernel_rfl), ?_⟩
    refine KF.conv (fun w => .tup [.agg [.int .i64 w.id, .int .i64 w.of_, .int .i64 w.role, .int .i64 w.commit, .int .i64 w.hard.term, .int .i64 w.hard.vote, .ref 7, .ref 8, .ref 9, .ref 10], .ref 11, .ref 12]) (fun w => [.box 73 [.int .i64 s.r.id, .int .i64 s.r.of_, .int .i64 s.r.role, .int .i64 s.r.commit, .int .i64 s.r.hard.term, .int .i64 s.r.hard.vote, .ref 1, .ref 2, .ref 3, .ref 4, .int .i64 s.was.id, .int .i64 s.was.of_, .int .i64 s.was.role, .int .i64 s.was.commit, .int .i64 s.was.hard.term, .int .i64 s.was.hard.vote, .sl false 6 (s.was.hard.log.map encEnt), .sl false 1 (s.was.yes.map encI), .sl false 1 (s.was.next.map encI), .sl false 1 (s.was.match_.map encI), .ref 5, .ref 6], .arr 88 6 (s.r.hard.log.map encEnt), .arr 3 1 (s.r.yes.map encI), .arr 3 1 (s.r.next.map encI), .arr 3 1 (s.r.match_.map encI), .arr 93 10 (s.recs.map encRec), .arr 76 17 (s.outs.map encOut), .arr 88 6 (w.hard.log.map encEnt), .arr 3 1 (w.yes.map encI), .arr 3 1 (w.next.map encI), .arr 3 1 (w.match_.map encI), .arr 93 10 [], .arr 76 17 []]) (show ((⟨0, 0, 0, 0, ⟨0, 0, []⟩, [], [], []⟩ : Raft)) = (same s.was) from by simp only [same, h1, if_true] <;> rfl) ?_
    exact KF.m [(0, 0), (1, 1), (2, 2), (3, 3), (4, 4), (5, 5), (6, 6), (5005, 7), (5006, 8), (5007, 9), (5008, 10), (5009, 11), (5010, 12)] [.agg [.int .i64 0, .int .i64 0, .int .i64 0, .int .i64 0, .int .i64 0, .int .i64 0, .ref 5005, .ref 5006, .ref 5007, .ref 5008], .ref 5009, .ref 5010]
  · skip
    have h1n := raftOk1_nums (raftOk_1 h1)
    refine AW.skip ?_
    refine AW.r ?_
    refine At.a 4 ?_
    refine At.c (impl_copyRaft_spec  s.was hz) Try.call83 true [] [(1320, 0), (1321, 1), (1322, 2), (1323, 3)] [] trivial ?_
    refine At.a 3 ?_
    refine At.done rfl ?_
    refine AW.ret ?_
    refine ⟨_, Sub.nils [⟨false, 3, none, 5011, 93, 10⟩, ⟨false, 4, none, 5012, 76, 17⟩] (by kernel_rfl), ?_⟩
    refine KF.conv (fun w => .tup [.agg [.int .i64 w.id, .int .i64 w.of_, .int .i64 w.role, .int .i64 w.commit, .int .i64 w.hard.term, .int .i64 w.hard.vote, .ref 7, .ref 8, .ref 9, .ref 10], .ref 11, .ref 12]) (fun w => [.box 73 [.int .i64 s.r.id, .int .i64 s.r.of_, .int .i64 s.r.role, .int .i64 s.r.commit, .int .i64 s.r.hard.term, .int .i64 s.r.hard.vote, .ref 1, .ref 2, .ref 3, .ref 4, .int .i64 s.was.id, .int .i64 s.was.of_, .int .i64 s.was.role, .int .i64 s.was.commit, .int .i64 s.was.hard.term, .int .i64 s.was.hard.vote, .sl false 6 (s.was.hard.log.map encEnt), .sl false 1 (s.was.yes.map encI), .sl false 1 (s.was.next.map encI), .sl false 1 (s.was.match_.map encI), .ref 5, .ref 6], .arr 88 6 (s.r.hard.log.map encEnt), .arr 3 1 (s.r.yes.map encI), .arr 3 1 (s.r.next.map encI), .arr 3 1 (s.r.match_.map encI), .arr 93 10 (s.recs.map encRec), .arr 76 17 (s.outs.map encOut), .arr 88 6 (w.hard.log.map encEnt), .arr 3 1 (w.yes.map encI), .arr 3 1 (w.next.map encI), .arr 3 1 (w.match_.map encI), .arr 93 10 [], .arr 76 17 []]) (show (s.was) = (same s.was) from by simp only [same, h1, if_true] <;> rfl) ?_
    exact KF.m [(0, 0), (1, 1), (2, 2), (3, 3), (4, 4), (5, 5), (6, 6), (1320, 7), (1321, 8), (1322, 9), (1323, 10), (5011, 11), (5012, 12)] [.agg [.int .i64 s.was.id, .int .i64 s.was.of_, .int .i64 s.was.role, .int .i64 s.was.commit, .int .i64 s.was.hard.term, .int .i64 s.was.hard.vote, .ref 1320, .ref 1321, .ref 1322, .ref 1323], .ref 5011, .ref 5012]
set_option maxRecDepth 100000 in
set_option maxHeartbeats 4000000 in
theorem impl_stepper_none_T_spec  (s : Stepper) (hz : SmallR s.was) (hok : raftOk s.was = true) : FnSpec Try.prog 56 [.ptr 0 0 0] [.box 73 [.int .i64 s.r.id, .int .i64 s.r.of_, .int .i64 s.r.role, .int .i64 s.r.commit, .int .i64 s.r.hard.term, .int .i64 s.r.hard.vote, .ref 1, .ref 2, .ref 3, .ref 4, .int .i64 s.was.id, .int .i64 s.was.of_, .int .i64 s.was.role, .int .i64 s.was.commit, .int .i64 s.was.hard.term, .int .i64 s.was.hard.vote, .sl false 6 (s.was.hard.log.map encEnt), .sl false 1 (s.was.yes.map encI), .sl false 1 (s.was.next.map encI), .sl false 1 (s.was.match_.map encI), .ref 5, .ref 6], .arr 88 6 (s.r.hard.log.map encEnt), .arr 3 1 (s.r.yes.map encI), .arr 3 1 (s.r.next.map encI), .arr 3 1 (s.r.match_.map encI), .arr 93 10 (s.recs.map encRec), .arr 76 17 (s.outs.map encOut)] (.tup [.agg [.int .i64 s.was.id, .int .i64 s.was.of_, .int .i64 s.was.role, .int .i64 s.was.commit, .int .i64 s.was.hard.term, .int .i64 s.was.hard.vote, .ref 7, .ref 8, .ref 9, .ref 10], .ref 11, .ref 12]) [.box 73 [.int .i64 s.r.id, .int .i64 s.r.of_, .int .i64 s.r.role, .int .i64 s.r.commit, .int .i64 s.r.hard.term, .int .i64 s.r.hard.vote, .ref 1, .ref 2, .ref 3, .ref 4, .int .i64 s.was.id, .int .i64 s.was.of_, .int .i64 s.was.role, .int .i64 s.was.commit, .int .i64 s.was.hard.term, .int .i64 s.was.hard.vote, .sl false 6 (s.was.hard.log.map encEnt), .sl false 1 (s.was.yes.map encI), .sl false 1 (s.was.next.map encI), .sl false 1 (s.was.match_.map encI), .ref 5, .ref 6], .arr 88 6 (s.r.hard.log.map encEnt), .arr 3 1 (s.r.yes.map encI), .arr 3 1 (s.r.next.map encI), .arr 3 1 (s.r.match_.map encI), .arr 93 10 (s.recs.map encRec), .arr 76 17 (s.outs.map encOut), .arr 88 6 (s.was.hard.log.map encEnt), .arr 3 1 (s.was.yes.map encI), .arr 3 1 (s.was.next.map encI), .arr 3 1 (s.was.match_.map encI), .arr 93 10 [], .arr 76 17 []] := by have := impl_stepper_none_spec s hz; rw [show same s.was = s.was from if_pos hok] at this; exact this
set_option maxRecDepth 100000 in
set_option maxHeartbeats 4000000 in
theorem impl_stepper_none_F_spec  (s : Stepper) (hz : SmallR s.was) (hok : ¬ raftOk s.was = true) : FnSpec Try.prog 56 [.ptr 0 0 0] [.box 73 [.int .i64 s.r.id, .int .i64 s.r.of_, .int .i64 s.r.role, .int .i64 s.r.commit, .int .i64 s.r.hard.term, .int .i64 s.r.hard.vote, .ref 1, .ref 2, .ref 3, .ref 4, .int .i64 s.was.id, .int .i64 s.was.of_, .int .i64 s.was.role, .int .i64 s.was.commit, .int .i64 s.was.hard.term, .int .i64 s.was.hard.vote, .sl false 6 (s.was.hard.log.map encEnt), .sl false 1 (s.was.yes.map encI), .sl false 1 (s.was.next.map encI), .sl false 1 (s.was.match_.map encI), .ref 5, .ref 6], .arr 88 6 (s.r.hard.log.map encEnt), .arr 3 1 (s.r.yes.map encI), .arr 3 1 (s.r.next.map encI), .arr 3 1 (s.r.match_.map encI), .arr 93 10 (s.recs.map encRec), .arr 76 17 (s.outs.map encOut)] (.tup [.agg [.int .i64 0, .int .i64 0, .int .i64 0, .int .i64 0, .int .i64 0, .int .i64 0, .ref 7, .ref 8, .ref 9, .ref 10], .ref 11, .ref 12]) [.box 73 [.int .i64 s.r.id, .int .i64 s.r.of_, .int .i64 s.r.role, .int .i64 s.r.commit, .int .i64 s.r.hard.term, .int .i64 s.r.hard.vote, .ref 1, .ref 2, .ref 3, .ref 4, .int .i64 s.was.id, .int .i64 s.was.of_, .int .i64 s.was.role, .int .i64 s.was.commit, .int .i64 s.was.hard.term, .int .i64 s.was.hard.vote, .sl false 6 (s.was.hard.log.map encEnt), .sl false 1 (s.was.yes.map encI), .sl false 1 (s.was.next.map encI), .sl false 1 (s.was.match_.map encI), .ref 5, .ref 6], .arr 88 6 (s.r.hard.log.map encEnt), .arr 3 1 (s.r.yes.map encI), .arr 3 1 (s.r.next.map encI), .arr 3 1 (s.r.match_.map encI), .arr 93 10 (s.recs.map encRec), .arr 76 17 (s.outs.map encOut), .arr 88 6 [], .arr 3 1 [], .arr 3 1 [], .arr 3 1 [], .arr 93 10 [], .arr 76 17 []] := by have := impl_stepper_none_spec s hz; rw [show same s.was = zRaft from if_neg hok] at this; exact this
set_option maxRecDepth 100000 in
set_option maxHeartbeats 4000000 in
theorem bits_Mul64_spec  (x : Int) (y : Int) (hx : 0 ≤ x ∧ x ≤ 1048576) (hy : 0 ≤ y ∧ y ≤ 1048576) (hp : 0 ≤ x * y ∧ x * y ≤ 4294967295) : FnSpec Try.prog 121 [.int .u64 x, .int .u64 y] [] (.tup [.int .u64 0, .int .u64 (x * y)]) [] := by
  refine FnSpec.of 51 Try.func121 rfl Try.ntmps121 (by simp) (AW.weakK ?_)
  refine AW.r ?_
  refine At.a 2 ?_
  refine At.done rfl ?_
  refine AW.r ?_
  refine At.a 1 ?_
  refine At.bits (t := 134) (u := 134) (d := 15) (op := .and) (x := .tmp 14) (y := .const (.int .u64 4294967295)) (kd := .u64) (a := x) (b := 4294967295) x (by kernel_rfl) (by kernel_rfl) (by kernel_rfl) (by kernel_rfl) (and32 (by omega) (by omega)) ?_
  refine At.a 1 ?_
  refine At.done rfl ?_
  refine AW.r ?_
  refine At.a 1 ?_
  refine At.shift (t := 134) (u := 125) (d := 17) (op := .shr) (x := .tmp 16) (y := .const (.int .u64 32)) (kd := .u64) (kd' := .u64) (a := x) (b := 32) 0 (by kernel_rfl) (by kernel_rfl) (by kernel_rfl) (by kernel_rfl) (by omega) (shr32 (by omega) (by omega)) ?_
  refine At.a 1 ?_
  refine At.done rfl ?_
  refine AW.r ?_
  refine At.a 1 ?_
  refine At.bits (t := 134) (u := 134) (d := 19) (op := .and) (x := .tmp 18) (y := .const (.int .u64 4294967295)) (kd := .u64) (a := y) (b := 4294967295) y (by kernel_rfl) (by kernel_rfl) (by kernel_rfl) (by kernel_rfl) (and32 (by omega) (by omega)) ?_
  refine At.a 1 ?_
  refine At.done rfl ?_
  refine AW.r ?_
  refine At.a 1 ?_
  refine At.shift (t := 134) (u := 125) (d := 21) (op := .shr) (x := .tmp 20) (y := .const (.int .u64 32)) (kd := .u64) (kd' := .u64) (a := y) (b := 32) 0 (by kernel_rfl) (by kernel_rfl) (by kernel_rfl) (by kernel_rfl) (by omega) (shr32 (by omega) (by omega)) ?_
  refine At.a 1 ?_
  refine At.done rfl ?_
  refine AW.r ?_
  refine At.a 3 ?_
  refine At.say 24 (.int .u64 (IntKind.u64.wrap (x * y))) (.int .u64 (x * y)) (by kernel_rfl) (sayU _ (by omega)) ?_
  refine At.a 1 ?_
  refine At.done rfl ?_
  refine AW.r ?_
  refine At.a 3 ?_
  refine At.say 27 (.int .u64 (IntKind.u64.wrap (0 * y))) (.int .u64 0) (by kernel_rfl) (sayUs (Int.zero_mul _) (by omega)) ?_
  refine At.a 1 ?_
  refine At.shift (t := 134) (u := 125) (d := 29) (op := .shr) (x := .tmp 28) (y := .const (.int .u64 32)) (kd := .u64) (kd' := .u64) (a := x * y) (b := 32) 0 (by kernel_rfl) (by kernel_rfl) (by kernel_rfl) (by kernel_rfl) (by omega) (shr32 (by omega) (by omega)) ?_
  refine At.a 1 ?_
  refine At.say 30 (.int .u64 (IntKind.u64.wrap (0 + 0))) (.int .u64 0) (by kernel_rfl) (sayU _ (by omega)) ?_
  refine At.a 1 ?_
  refine At.done rfl ?_
  refine AW.r ?_
  refine At.a 1 ?_
  refine At.bits (t := 134) (u := 134) (d := 32) (op := .and) (x := .tmp 31) (y := .const (.int .u64 4294967295)) (kd := .u64) (a := 0) (b := 4294967295) 0 (by kernel_rfl) (by kernel_rfl) (by kernel_rfl) (by kernel_rfl) (and32 (by omega) (by omega)) ?_
  refine At.a 1 ?_
  refine At.done rfl ?_
  refine AW.r ?_
  refine At.a 1 ?_
  refine At.shift (t := 134) (u := 125) (d := 34) (op := .shr) (x := .tmp 33) (y := .const (.int .u64 32)) (kd := .u64) (kd' := .u64) (a := 0) (b := 32) 0 (by kernel_rfl) (by kernel_rfl) (by kernel_rfl) (by kernel_rfl) (by omega) (shr32 (by omega) (by omega)) ?_
  refine At.a 1 ?_
  refine At.done rfl ?_
  refine AW.r ?_
  refine At.a 4 ?_
  refine At.say 38 (.int .u64 (IntKind.u64.wrap (x * 0))) (.int .u64 0) (by kernel_rfl) (sayUs (Int.mul_zero _) (by omega)) ?_
  refine At.a 1 ?_
  refine At.say 39 (.int .u64 (IntKind.u64.wrap (0 + 0))) (.int .u64 0) (by kernel_rfl) (sayU _ (by omega)) ?_
  refine At.a 1 ?_
  refine At.done rfl ?_
  refine AW.r ?_
  refine At.a 3 ?_
  refine At.say 42 (.int .u64 (IntKind.u64.wrap (0 * 0))) (.int .u64 0) (by kernel_rfl) (sayU _ (by omega)) ?_
  refine At.a 2 ?_
  refine At.say 44 (.int .u64 (IntKind.u64.wrap (0 + 0))) (.int .u64 0) (by kernel_rfl) (sayU _ (by omega)) ?_
  refine At.a 1 ?_
  refine At.shift (t := 134) (u := 125) (d := 46) (op := .shr) (x := .tmp 45) (y := .const (.int .u64 32)) (kd := .u64) (kd' := .u64) (a := 0) (b := 32) 0 (by kernel_rfl) (by kernel_rfl) (by kernel_rfl) (by kernel_rfl) (by omega) (shr32 (by omega) (by omega)) ?_
  refine At.a 1 ?_
  refine At.say 47 (.int .u64 (IntKind.u64.wrap (0 + 0))) (.int .u64 0) (by kernel_rfl) (sayU _ (by omega)) ?_
  refine At.a 1 ?_
  refine At.done rfl ?_
  refine AW.r ?_
  refine At.a 3 ?_
  refine At.say 50 (.int .u64 (IntKind.u64.wrap (x * y))) (.int .u64 (x * y)) (by kernel_rfl) (sayU _ (by omega)) ?_
  refine At.a 1 ?_
  refine At.done rfl ?_
  refine AW.ret ?_
  refine ⟨_, Sub.refl _ _, ?_⟩
  exact KF.m [] [.int .u64 0, .int .u64 (x * y)]
set_option maxRecDepth 100000 in
set_option maxHeartbeats 4000000 in
theorem bits_Mul_spec  (x : Int) (y : Int) (hx : 0 ≤ x ∧ x ≤ 1048576) (hy : 0 ≤ y ∧ y ≤ 1048576) (hp : 0 ≤ x * y ∧ x * y ≤ 4294967295) : FnSpec Try.prog 113 [.int .u64 x, .int .u64 y] [] (.tup [.int .u64 0, .int .u64 (x * y)]) [] := by
  refine FnSpec.of 30 Try.func113 rfl Try.ntmps113 (by simp) (AW.weakK ?_)
  refine AW.r ?_
  refine At.a 2 ?_
  refine At.done rfl ?_
  refine AW.seq ?_
  refine AW.cond false (by kernel_rfl) (fun h => by cases h) (fun _ => ?_)
  refine AW.skip ?_
  refine AW.r ?_
  refine At.a 2 ?_
  refine At.c (bits_Mul64_spec  x y hx hy hp) Try.call121 true [] [] [] trivial ?_
  refine At.a 5 ?_
  refine At.done rfl ?_
  refine AW.r ?_
  refine At.a 4 ?_
  refine At.done rfl ?_
  refine AW.ret ?_
  refine ⟨_, Sub.refl _ _, ?_⟩
  exact KF.m [] [.int .u64 0, .int .u64 (x * y)]
set_option maxRecDepth 100000 in
set_option maxHeartbeats 4000000 in
theorem slices_Repeat_spec  (x : List Int) (count : Int) (hx : x.length = 1) (hc : 1 ≤ count ∧ count ≤ 1048576) : FnSpec Try.prog 96 [.sl false 1 (x.map encI), .int .i64 count] [] (.ref 0) [.arr 3 1 ((repl x count).map encI)] := by
  have hxi : (x.length : Int) = 1 := by omega
  have hp : (x.length : Int) * count = count := by rw [hxi]; omega
  refine FnSpec.of 48 Try.func96 rfl Try.ntmps96 (by simp) (AW.weakK ?_)
  refine AW.r ?_
  refine At.a 1 ?_
  refine At.done rfl ?_
  refine AW.seq ?_
  refine AW.r ?_
  refine At.a 2 ?_
  refine At.done rfl ?_
  refine AW.condF (decide (count < 0)) (by kernel_rfl) (decide_eq_false (by omega)) ?_
  refine AW.skip ?_
  refine AW.r ?_
  refine At.a 2 ?_
  refine At.sL 14 encI x ?_
  refine At.conv (s := 3) (t := 125) (d := 15) (x := .tmp 14) (kd := .i64) (kd' := .u64) (a := (x.length : Int)) (.int .u64 (x.length : Int)) (by kernel_rfl) (by kernel_rfl) (by kernel_rfl) (by kernel_rfl) (sayU _ (by omega)) ?_
  refine At.a 1 ?_
  refine At.conv (s := 3) (t := 125) (d := 17) (x := .tmp 16) (kd := .i64) (kd' := .u64) (a := count) (.int .u64 count) (by kernel_rfl) (by kernel_rfl) (by kernel_rfl) (by kernel_rfl) (sayU _ (by omega)) ?_
  refine At.c (bits_Mul_spec  (x.length : Int) count (by omega) (by omega) (by rw [hp]; omega)) Try.call113 true [] [] [] trivial ?_
  refine At.a 5 ?_
  refine At.done rfl ?_
  refine AW.seq ?_
  refine AW.r ?_
  refine At.a 6 ?_
  refine At.done rfl ?_
  refine AW.condF (decide (((x.length : Int) * count) > 9223372036854775807)) (by kernel_rfl) (decide_eq_false (by omega)) ?_
  refine AW.skip ?_
  refine AW.r ?_
  refine At.a 1 ?_
  refine At.conv (s := 125) (t := 3) (d := 29) (x := .tmp 28) (kd := .u64) (kd' := .i64) (a := (x.length : Int) * count) (.int .i64 ((count.toNat : Nat) : Int)) (by kernel_rfl) (by kernel_rfl) (by kernel_rfl) (by kernel_rfl) (sayAs (hp.trans (by omega)) (by omega)) ?_
  refine At.make (t := 25) (d := 30) (e := 3) (es := 1) (bytes := 8) (x := .tmp 29) (y := .tmp 29) (ka := .i64) (kb := .i64) (zs := [.int .i64 0]) 130 count.toNat ((List.replicate count.toNat 0).map encI) (by kernel_rfl) (by kernel_rfl) (by kernel_rfl) (by kernel_rfl) (by kernel_rfl) (by omega) (by omega) (by rw [List.map_replicate]; rfl) ?_
  refine At.a 1 ?_
  refine At.done rfl ?_
  refine AW.r ?_
  refine At.a 2 ?_
  refine At.copy (t := 25) (t2 := 25) (d := 33) (e := 3) (es := 1) (i := 130) (off := 0) (m := ((List.replicate count.toNat 0).map encI).length) (x := .tmp 31) (y := .tmp 32) (S := .ref 130) (T := .sl false 1 (x.map encI)) (xs := ((List.replicate count.toNat 0).map encI)) (ys := (x.map encI)) 1 ((List.replicate 1 (x.headD 0) ++ List.replicate (count.toNat - 1) (0 : Int)).map encI) (by kernel_rfl) (by kernel_rfl) (by kernel_rfl) (by kernel_rfl) (.inl ⟨rfl, rfl, rfl⟩) (by kernel_rfl) ⟨rfl, rfl, (allP_encI _), rfl⟩ (allP_encI _) (by simp only [List.length_map, List.length_replicate, hx]; omega) (repl_start hx (by omega)) ?_
  refine At.a 1 ?_
  refine At.done rfl ?_
  refine AW.seq ?_
  refine AW.block ?_
  refine AW.loopW (fun (k : Nat) => Go.Sy.mk [.un, .un, .un, .un, .un, .un, .un, .ref 130, .int .i64 (k : Int)] [(130, .arr 3 1 ((List.replicate k (x.headD 0) ++ List.replicate (count.toNat - k) (0 : Int)).map encI))]) (fun (k : Nat) => 1 ≤ k ∧ k ≤ count.toNat) (fun (k : Nat) => count.toNat - k) 1 ⟨by omega, by omega⟩ (Sub.o [(130, 130)] [false, false, false, false, false, false, false, true, true]) ?_
  rintro k ⟨hk1, hk2⟩
  have hl : (List.replicate k (x.headD 0) ++ List.replicate (count.toNat - k) (0 : Int)).length = count.toNat := (by rw [List.length_append, List.length_replicate, List.length_replicate]; omega)
  refine AW.seq ?_
  refine AW.r ?_
  refine At.a 3 ?_
  refine At.sL 36 encI (List.replicate k (x.headD 0) ++ List.replicate (count.toNat - k) (0 : Int)) ?_
  refine At.a 1 ?_
  refine At.done rfl ?_
  refine AW.cD ((k : Int) < ((List.replicate k (x.headD 0) ++ List.replicate (count.toNat - k) (0 : Int)).length : Int)) (fun h1 => ?_) (fun h1 => ?_)
  · skip
    refine AW.skip ?_
    refine AW.block ?_
    refine AW.regionD Try_mix (At.start ?_)
    refine At.a 3 ?_
    refine At.sliceRef (t := 25) (d := 41) (e := 3) (es := 1) (i := 130) (x := .tmp 39) (lx := some (.tmp 40)) (hx := none) (xs := ((List.replicate k (x.headD 0) ++ List.replicate (count.toNat - k) (0 : Int)).map encI)) (vl := .int .i64 (k : Int)) (vh := .un) k (((List.replicate k (x.headD 0) ++ List.replicate (count.toNat - k) (0 : Int)).map encI).length) (by kernel_rfl) (by kernel_rfl) (by kernel_rfl) (by kernel_rfl) (by kernel_rfl) (.inr ⟨_, _, rfl, rfl⟩) (.inl ⟨rfl, rfl⟩) (by simp only [List.length_map, List.length_append, List.length_take, List.length_drop, List.length_replicate, List.length_set, List.length_cons, List.length_nil]; omega) (by omega) ?_
    refine At.a 2 ?_
    refine At.sliceRef (t := 25) (d := 44) (e := 3) (es := 1) (i := 130) (x := .tmp 42) (lx := none) (hx := some (.tmp 43)) (xs := ((List.replicate k (x.headD 0) ++ List.replicate (count.toNat - k) (0 : Int)).map encI)) (vl := .un) (vh := .int .i64 (k : Int)) 0 k (by kernel_rfl) (by kernel_rfl) (by kernel_rfl) (by kernel_rfl) (by kernel_rfl) (.inl ⟨rfl, rfl⟩) (.inr ⟨_, _, rfl, rfl⟩) (by omega) (by simp only [List.length_map, List.length_append, List.length_take, List.length_drop, List.length_replicate, List.length_set, List.length_cons, List.length_nil]; omega) ?_
    refine At.copy (t := 25) (t2 := 25) (d := 45) (e := 3) (es := 1) (i := 130) (off := k) (m := (((List.replicate k (x.headD 0) ++ List.replicate (count.toNat - k) (0 : Int)).map encI).length) - k) (x := .tmp 41) (y := .tmp 44) (S := .sub 130 k ((((List.replicate k (x.headD 0) ++ List.replicate (count.toNat - k) (0 : Int)).map encI).length) - k)) (T := .sub 130 0 (k - 0)) (xs := ((List.replicate k (x.headD 0) ++ List.replicate (count.toNat - k) (0 : Int)).map encI)) (ys := (((List.replicate k (x.headD 0) ++ List.replicate (count.toNat - k) (0 : Int)).map encI).drop 0).take (k - 0)) (min k (count.toNat - k)) ((List.replicate (k + min k (count.toNat - k)) (x.headD 0) ++ List.replicate (count.toNat - (k + min k (count.toNat - k))) (0 : Int)).map encI) (by kernel_rfl) (by kernel_rfl) (by kernel_rfl) (by kernel_rfl) (.inr rfl) (by kernel_rfl) ⟨((List.replicate k (x.headD 0) ++ List.replicate (count.toNat - k) (0 : Int)).map encI), by kernel_rfl, by rw [List.length_map]; (first | omega | (simp only [List.length_append, List.length_replicate]; omega)), rfl, by rw [← List.map_drop, ← List.map_take]; exact (allP_encI _), rfl⟩ (allP_encI _) (by simp only [List.length_map, List.length_append, List.length_replicate, List.length_take, List.length_drop]; omega) (repl_step (by omega)) ?_
    refine At.a 1 ?_
    refine At.sI 46 ((k : Int) + ((min k (count.toNat - k) : Nat) : Int)) (by omega) ?_
    refine At.a 1 ?_
    refine At.done rfl ⟨by kernel_rfl, ?_⟩
    exact ⟨k + min k (count.toNat - k), ⟨by omega, by omega⟩, (by omega), Sub.o [(130, 130)] [false, false, false, false, false, false, false, true, true]⟩
  · skip
    refine AW.exit ?_
    refine AW.r ?_
    refine At.a 2 ?_
    refine At.done rfl ?_
    refine AW.ret ?_
    refine ⟨_, Sub.refl _ _, ?_⟩
    refine KF.conv (fun w => .ref 0) (fun w => [.arr 3 1 (w.map encI)]) (show (List.replicate k (x.headD 0) ++ List.replicate (count.toNat - k) (0 : Int)) = (repl x count) from by have hk : k = count.toNat := (by omega); rw [hk, Nat.sub_self]; simp [repl]) ?_
    exact KF.m [(130, 0)] [.ref 130]
set_option maxRecDepth 100000 in
set_option maxHeartbeats 4000000 in
theorem impl_stepper_put_spec  (s : Stepper) (e : Ent) (hl : s.r.hard.log.length ≤ 1048576) (hr : s.recs.length ≤ 1048576) : FnSpec Try.prog 57 [.ptr 0 0 0, .agg [.int .i64 e.term, .int .i64 e.cmd.kind, .int .i64 e.cmd.release, .int .i64 e.cmd.node, .int .i64 e.cmd.size, .str e.cmd.digest]] [.box 73 [.int .i64 s.r.id, .int .i64 s.r.of_, .int .i64 s.r.role, .int .i64 s.r.commit, .int .i64 s.r.hard.term, .int .i64 s.r.hard.vote, .ref 1, .ref 2, .ref 3, .ref 4, .int .i64 s.was.id, .int .i64 s.was.of_, .int .i64 s.was.role, .int .i64 s.was.commit, .int .i64 s.was.hard.term, .int .i64 s.was.hard.vote, .sl false 6 (s.was.hard.log.map encEnt), .sl false 1 (s.was.yes.map encI), .sl false 1 (s.was.next.map encI), .sl false 1 (s.was.match_.map encI), .ref 5, .ref 6], .arr 88 6 (s.r.hard.log.map encEnt), .arr 3 1 (s.r.yes.map encI), .arr 3 1 (s.r.next.map encI), .arr 3 1 (s.r.match_.map encI), .arr 93 10 (s.recs.map encRec), .arr 76 17 (s.outs.map encOut)] (.tup []) [.box 73 [.int .i64 s.r.id, .int .i64 s.r.of_, .int .i64 s.r.role, .int .i64 s.r.commit, .int .i64 s.r.hard.term, .int .i64 s.r.hard.vote, .ref 7, .ref 2, .ref 3, .ref 4, .int .i64 s.was.id, .int .i64 s.was.of_, .int .i64 s.was.role, .int .i64 s.was.commit, .int .i64 s.was.hard.term, .int .i64 s.was.hard.vote, .sl false 6 (s.was.hard.log.map encEnt), .sl false 1 (s.was.yes.map encI), .sl false 1 (s.was.next.map encI), .sl false 1 (s.was.match_.map encI), .ref 8, .ref 6], .dead, .arr 3 1 (s.r.yes.map encI), .arr 3 1 (s.r.next.map encI), .arr 3 1 (s.r.match_.map encI), .dead, .arr 76 17 (s.outs.map encOut), .arr 88 6 ((s.r.hard.log ++ [e]).map encEnt), .arr 93 10 ((s.recs ++ [(⟨2, 0, 0, ((s.r.hard.log ++ [e]).length : Int), e⟩ : Rec)]).map encRec)] := by
  refine FnSpec.of 36 Try.func57 rfl Try.ntmps57 (by simp) (AW.weakK ?_)
  refine AW.r ?_
  refine At.a 1 ?_
  refine At.done rfl ?_
  refine AW.seq ?_
  refine AW.regionD Try_mix (At.start ?_)
  refine At.a 8 ?_
  refine At.litK (t := 31) (d := 12) (e := 88) (es := 6) (bytes := 56) (n := 1) (parts := #[(0, .tmp 11)]) (88, 6) 112 [] [.int .i64 e.term, .int .i64 e.cmd.kind, .int .i64 e.cmd.release, .int .i64 e.cmd.node, .int .i64 e.cmd.size, .str e.cmd.digest] [.int .i64 e.term, .int .i64 e.cmd.kind, .int .i64 e.cmd.release, .int .i64 e.cmd.node, .int .i64 e.cmd.size, .str e.cmd.digest] [.int .i64 0, .int .i64 0, .int .i64 0, .int .i64 0, .int .i64 0, .str (⟨#[]⟩ : ByteArray)] [.agg [.int .i64 e.term, .int .i64 e.cmd.kind, .int .i64 e.cmd.release, .int .i64 e.cmd.node, .int .i64 e.cmd.size, .str e.cmd.digest]] [] (by kernel_rfl) (by kernel_rfl) (by kernel_rfl) (by kernel_rfl) rfl (fun p hp => by cases hp) (by kernel_rfl) ?_
  refine At.append (t := 31) (d := 13) (e := 88) (es := 6) (bytes := 56) (s := .tmp 10) (x := .tmp 12) (S := .ref 1) (T := .ref 112) (xs := (s.r.hard.log.map encEnt)) (ys := (([e]).map encEnt)) 113 [1] [112] ((s.r.hard.log ++ ([e])).map encEnt) (by kernel_rfl) (by kernel_rfl) (by kernel_rfl) (by kernel_rfl) ⟨by kernel_rfl, rfl⟩ ⟨by kernel_rfl, .inr rfl⟩ (by kernel_rfl) (by kernel_rfl) (by simp) (by simp only [List.length_map, List.length_append, List.length_take, List.length_drop, List.length_replicate, List.length_set, List.length_cons, List.length_nil]; omega) (by simp only [List.length_map, List.length_append, List.length_take, List.length_drop, List.length_replicate, List.length_set, List.length_cons, List.length_nil]; omega) ?_
  refine At.a 5 ?_
  refine At.done rfl ⟨by kernel_rfl, ?_⟩
  refine AW.regionD Try_mix (At.start ?_)
  refine At.a 12 ?_
  refine At.sL 29 encEnt (s.r.hard.log ++ ([e])) ?_
  refine At.a 2 ?_
  refine At.litK (t := 45) (d := 32) (e := 93) (es := 10) (bytes := 88) (n := 1) (parts := #[(0, .tmp 31)]) (88, 6) 132 [] [.int .i64 2, .int .i64 0, .int .i64 0, .int .i64 ((s.r.hard.log ++ ([e])).length : Int), .int .i64 e.term, .int .i64 e.cmd.kind, .int .i64 e.cmd.release, .int .i64 e.cmd.node, .int .i64 e.cmd.size, .str e.cmd.digest] [.int .i64 2, .int .i64 0, .int .i64 0, .int .i64 ((s.r.hard.log ++ ([e])).length : Int), .int .i64 e.term, .int .i64 e.cmd.kind, .int .i64 e.cmd.release, .int .i64 e.cmd.node, .int .i64 e.cmd.size, .str e.cmd.digest] [.int .i64 0, .int .i64 0, .int .i64 0, .int .i64 0, .int .i64 0, .int .i64 0, .int .i64 0, .int .i64 0, .int .i64 0, .str (⟨#[]⟩ : ByteArray)] [.agg [.int .i64 2, .int .i64 0, .int .i64 0, .int .i64 ((s.r.hard.log ++ ([e])).length : Int), .int .i64 e.term, .int .i64 e.cmd.kind, .int .i64 e.cmd.release, .int .i64 e.cmd.node, .int .i64 e.cmd.size, .str e.cmd.digest]] [] (by kernel_rfl) (by kernel_rfl) (by kernel_rfl) (by kernel_rfl) rfl (fun p hp => by cases hp) (by kernel_rfl) ?_
  refine At.append (t := 45) (d := 33) (e := 93) (es := 10) (bytes := 88) (s := .tmp 22) (x := .tmp 32) (S := .ref 5) (T := .ref 132) (xs := (s.recs.map encRec)) (ys := (([(⟨2, 0, 0, ((s.r.hard.log ++ ([e])).length : Int), e⟩ : Rec)]).map encRec)) 133 [5] [132] ((s.recs ++ ([(⟨2, 0, 0, ((s.r.hard.log ++ ([e])).length : Int), e⟩ : Rec)])).map encRec) (by kernel_rfl) (by kernel_rfl) (by kernel_rfl) (by kernel_rfl) ⟨by kernel_rfl, rfl⟩ ⟨by kernel_rfl, .inr rfl⟩ (by kernel_rfl) (by kernel_rfl) (by simp) (by simp only [List.length_map, List.length_append, List.length_take, List.length_drop, List.length_replicate, List.length_set, List.length_cons, List.length_nil]; omega) (by simp only [List.length_map, List.length_append, List.length_take, List.length_drop, List.length_replicate, List.length_set, List.length_cons, List.length_nil]; omega) ?_
  refine At.a 3 ?_
  refine At.done rfl ⟨by kernel_rfl, ?_⟩
  refine ⟨_, Sub.refl _ _, ?_⟩
  refine KF.conv (fun w => .tup []) (fun w => [.box 73 [.int .i64 w.r.id, .int .i64 w.r.of_, .int .i64 w.r.role, .int .i64 w.r.commit, .int .i64 w.r.hard.term, .int .i64 w.r.hard.vote, .ref 7, .ref 2, .ref 3, .ref 4, .int .i64 w.was.id, .int .i64 w.was.of_, .int .i64 w.was.role, .int .i64 w.was.commit, .int .i64 w.was.hard.term, .int .i64 w.was.hard.vote, .sl false 6 (w.was.hard.log.map encEnt), .sl false 1 (w.was.yes.map encI), .sl false 1 (w.was.next.map encI), .sl false 1 (w.was.match_.map encI), .ref 8, .ref 6], .dead, .arr 3 1 (w.r.yes.map encI), .arr 3 1 (w.r.next.map encI), .arr 3 1 (w.r.match_.map encI), .dead, .arr 76 17 (w.outs.map encOut), .arr 88 6 (w.r.hard.log.map encEnt), .arr 93 10 (w.recs.map encRec)]) (show ((⟨⟨s.r.id, s.r.of_, s.r.role, s.r.commit, ⟨s.r.hard.term, s.r.hard.vote, s.r.hard.log ++ ([e])⟩, s.r.yes, s.r.next, s.r.match_⟩, s.was, s.recs ++ ([(⟨2, 0, 0, ((s.r.hard.log ++ ([e])).length : Int), e⟩ : Rec)]), s.outs⟩ : Stepper)) = (({ s with r := ({ s.r with hard := { s.r.hard with log := s.r.hard.log ++ [e] } } : Raft), recs := s.recs ++ [(⟨2, 0, 0, ((s.r.hard.log ++ [e]).length : Int), e⟩ : Rec)] } : Stepper)) from by rfl) ?_
  exact KF.m [(0, 0), (1, 1), (2, 2), (3, 3), (4, 4), (5, 5), (6, 6), (113, 7), (133, 8)] []
set_option maxRecDepth 100000 in
set_option maxHeartbeats 4000000 in
theorem impl_stepper_had_spec  (s : Stepper) (hi : 0 ≤ s.r.id ∧ s.r.id < s.r.match_.length) : FnSpec Try.prog 58 [.ptr 0 0 0] [.box 73 [.int .i64 s.r.id, .int .i64 s.r.of_, .int .i64 s.r.role, .int .i64 s.r.commit, .int .i64 s.r.hard.term, .int .i64 s.r.hard.vote, .ref 1, .ref 2, .ref 3, .ref 4, .int .i64 s.was.id, .int .i64 s.was.of_, .int .i64 s.was.role, .int .i64 s.was.commit, .int .i64 s.was.hard.term, .int .i64 s.was.hard.vote, .sl false 6 (s.was.hard.log.map encEnt), .sl false 1 (s.was.yes.map encI), .sl false 1 (s.was.next.map encI), .sl false 1 (s.was.match_.map encI), .ref 5, .ref 6], .arr 88 6 (s.r.hard.log.map encEnt), .arr 3 1 (s.r.yes.map encI), .arr 3 1 (s.r.next.map encI), .arr 3 1 (s.r.match_.map encI), .arr 93 10 (s.recs.map encRec), .arr 76 17 (s.outs.map encOut)] (.tup []) [.box 73 [.int .i64 s.r.id, .int .i64 s.r.of_, .int .i64 s.r.role, .int .i64 (if s.r.of_ = 1 then (s.r.hard.log.length : Int) else s.r.commit), .int .i64 s.r.hard.term, .int .i64 s.r.hard.vote, .ref 1, .ref 2, .ref 3, .ref 4, .int .i64 s.was.id, .int .i64 s.was.of_, .int .i64 s.was.role, .int .i64 s.was.commit, .int .i64 s.was.hard.term, .int .i64 s.was.hard.vote, .sl false 6 (s.was.hard.log.map encEnt), .sl false 1 (s.was.yes.map encI), .sl false 1 (s.was.next.map encI), .sl false 1 (s.was.match_.map encI), .ref 5, .ref 6], .arr 88 6 (s.r.hard.log.map encEnt), .arr 3 1 (s.r.yes.map encI), .arr 3 1 (s.r.next.map encI), .arr 3 1 ((s.r.match_.set (s.r.id).toNat (s.r.hard.log.length : Int)).map encI), .arr 93 10 (s.recs.map encRec), .arr 76 17 (s.outs.map encOut)] := by
  refine FnSpec.of 33 Try.func58 rfl Try.ntmps58 (by simp) (AW.weakK ?_)
  refine AW.r ?_
  refine At.a 7 ?_
  refine At.sL 9 encEnt s.r.hard.log ?_
  refine At.a 1 ?_
  refine At.done rfl ?_
  refine AW.seq ?_
  refine AW.regionD Try_mix (At.start ?_)
  refine At.a 11 ?_
  refine At.iRf 25 21 (.tmp 14) (.tmp 19) 4 (s.r.match_.map encI) .i64 s.r.id 3 1 (by omega) (by simp only [List.length_map, List.length_append, List.length_take, List.length_drop, List.length_replicate, List.length_set, List.length_cons, List.length_nil]; omega) ?_
  refine Exists.elim (show ∃ e, s.r.match_[(s.r.id).toNat]? = some e from ⟨_, List.getElem?_eq_getElem (by omega)⟩) fun e1 he1 => ?_
  refine At.sEl 3 4 3 1 ((s.r.id).toNat) 0 (.tmp 21) (.tmp 20) (s.r.match_.map encI) ((s.r.match_.set ((s.r.id).toNat) (s.r.hard.log.length : Int)).map encI) [.int .i64 (s.r.hard.log.length : Int)] (.int .i64 (s.r.hard.log.length : Int)) (encI e1) (encI (s.r.hard.log.length : Int)) (mapGet he1) setV ?_
  refine At.done rfl ⟨by kernel_rfl, ?_⟩
  refine AW.r ?_
  refine At.a 6 ?_
  refine At.done rfl ?_
  refine AW.cE s.r.of_ (1 : Int) (fun h1 => ?_) (fun h1 => ?_)
  · skip
    refine AW.region (At.start ?_)
    refine At.a 6 ?_
    refine At.done rfl ?_
    refine ⟨_, Sub.refl _ _, ?_⟩
    refine KF.conv (fun w => .tup []) (fun w => [.box 73 [.int .i64 w.r.id, .int .i64 w.r.of_, .int .i64 w.r.role, .int .i64 w.r.commit, .int .i64 w.r.hard.term, .int .i64 w.r.hard.vote, .ref 1, .ref 2, .ref 3, .ref 4, .int .i64 w.was.id, .int .i64 w.was.of_, .int .i64 w.was.role, .int .i64 w.was.commit, .int .i64 w.was.hard.term, .int .i64 w.was.hard.vote, .sl false 6 (w.was.hard.log.map encEnt), .sl false 1 (w.was.yes.map encI), .sl false 1 (w.was.next.map encI), .sl false 1 (w.was.match_.map encI), .ref 5, .ref 6], .arr 88 6 (w.r.hard.log.map encEnt), .arr 3 1 (w.r.yes.map encI), .arr 3 1 (w.r.next.map encI), .arr 3 1 (w.r.match_.map encI), .arr 93 10 (w.recs.map encRec), .arr 76 17 (w.outs.map encOut)]) (show ((⟨⟨s.r.id, s.r.of_, s.r.role, (s.r.hard.log.length : Int), ⟨s.r.hard.term, s.r.hard.vote, s.r.hard.log⟩, s.r.yes, s.r.next, s.r.match_.set ((s.r.id).toNat) (s.r.hard.log.length : Int)⟩, s.was, s.recs, s.outs⟩ : Stepper)) = (({ s with r := ({ s.r with match_ := s.r.match_.set (s.r.id).toNat (s.r.hard.log.length : Int), commit := if s.r.of_ = 1 then (s.r.hard.log.length : Int) else s.r.commit } : Raft) } : Stepper)) from by simp [had, h1]) ?_
    exact KF.m [(0, 0), (1, 1), (2, 2), (3, 3), (4, 4), (5, 5), (6, 6)] []
  · skip
    refine AW.skip ?_
    refine ⟨_, Sub.refl _ _, ?_⟩
    refine KF.conv (fun w => .tup []) (fun w => [.box 73 [.int .i64 w.r.id, .int .i64 w.r.of_, .int .i64 w.r.role, .int .i64 w.r.commit, .int .i64 w.r.hard.term, .int .i64 w.r.hard.vote, .ref 1, .ref 2, .ref 3, .ref 4, .int .i64 w.was.id, .int .i64 w.was.of_, .int .i64 w.was.role, .int .i64 w.was.commit, .int .i64 w.was.hard.term, .int .i64 w.was.hard.vote, .sl false 6 (w.was.hard.log.map encEnt), .sl false 1 (w.was.yes.map encI), .sl false 1 (w.was.next.map encI), .sl false 1 (w.was.match_.map encI), .ref 5, .ref 6], .arr 88 6 (w.r.hard.log.map encEnt), .arr 3 1 (w.r.yes.map encI), .arr 3 1 (w.r.next.map encI), .arr 3 1 (w.r.match_.map encI), .arr 93 10 (w.recs.map encRec), .arr 76 17 (w.outs.map encOut)]) (show ((⟨⟨s.r.id, s.r.of_, s.r.role, s.r.commit, ⟨s.r.hard.term, s.r.hard.vote, s.r.hard.log⟩, s.r.yes, s.r.next, s.r.match_.set ((s.r.id).toNat) (s.r.hard.log.length : Int)⟩, s.was, s.recs, s.outs⟩ : Stepper)) = (({ s with r := ({ s.r with match_ := s.r.match_.set (s.r.id).toNat (s.r.hard.log.length : Int), commit := if s.r.of_ = 1 then (s.r.hard.log.length : Int) else s.r.commit } : Raft) } : Stepper)) from by simp [had, h1]) ?_
    exact KF.m [(0, 0), (1, 1), (2, 2), (3, 3), (4, 4), (5, 5), (6, 6)] []
set_option maxRecDepth 100000 in
set_option maxHeartbeats 4000000 in
theorem impl_stepper_message_spec  (s : Stepper) (kind : Int) : FnSpec Try.prog 74 [.ptr 0 0 0, .int .i64 kind] [.box 73 [.int .i64 s.r.id, .int .i64 s.r.of_, .int .i64 s.r.role, .int .i64 s.r.commit, .int .i64 s.r.hard.term, .int .i64 s.r.hard.vote, .ref 1, .ref 2, .ref 3, .ref 4, .int .i64 s.was.id, .int .i64 s.was.of_, .int .i64 s.was.role, .int .i64 s.was.commit, .int .i64 s.was.hard.term, .int .i64 s.was.hard.vote, .sl false 6 (s.was.hard.log.map encEnt), .sl false 1 (s.was.yes.map encI), .sl false 1 (s.was.next.map encI), .sl false 1 (s.was.match_.map encI), .ref 5, .ref 6], .arr 88 6 (s.r.hard.log.map encEnt), .arr 3 1 (s.r.yes.map encI), .arr 3 1 (s.r.next.map encI), .arr 3 1 (s.r.match_.map encI), .arr 93 10 (s.recs.map encRec), .arr 76 17 (s.outs.map encOut)] (.agg [.int .i64 kind, .int .i64 s.r.id, .int .i64 s.r.hard.term, .int .i64 0, .int .i64 0, .int .i64 0, .bool false, .int .i64 0, .int .i64 0, .str (⟨#[]⟩), .int .i64 0, .int .i64 0, .int .i64 0, .int .i64 0, .str (⟨#[]⟩), .ref 7]) [.box 73 [.int .i64 s.r.id, .int .i64 s.r.of_, .int .i64 s.r.role, .int .i64 s.r.commit, .int .i64 s.r.hard.term, .int .i64 s.r.hard.vote, .ref 1, .ref 2, .ref 3, .ref 4, .int .i64 s.was.id, .int .i64 s.was.of_, .int .i64 s.was.role, .int .i64 s.was.commit, .int .i64 s.was.hard.term, .int .i64 s.was.hard.vote, .sl false 6 (s.was.hard.log.map encEnt), .sl false 1 (s.was.yes.map encI), .sl false 1 (s.was.next.map encI), .sl false 1 (s.was.match_.map encI), .ref 5, .ref 6], .arr 88 6 (s.r.hard.log.map encEnt), .arr 3 1 (s.r.yes.map encI), .arr 3 1 (s.r.next.map encI), .arr 3 1 (s.r.match_.map encI), .arr 93 10 (s.recs.map encRec), .arr 76 17 (s.outs.map encOut), .arr 88 6 []] := by
  refine FnSpec.of 18 Try.func74 rfl Try.ntmps74 (by simp) (AW.weakK ?_)
  refine AW.r ?_
  refine At.a 1 ?_
  refine At.done rfl ?_
  refine AW.seq ?_
  refine AW.weak (Sub.nils [⟨true, 104, some 15, 5001, 88, 6⟩] (by kernel_rfl)) ?_
  refine AW.regionD Try_mix (At.start ?_)
  refine At.a 14 ?_
  refine At.done rfl ⟨by kernel_rfl, ?_⟩
  refine AW.ret ?_
  refine ⟨_, Sub.nils [⟨true, 104, some 15, 5002, 88, 6⟩] (by kernel_rfl), ?_⟩
  refine KF.conv (fun w => .agg [.int .i64 w.kind, .int .i64 w.from_, .int .i64 w.term, .int .i64 w.at_, .int .i64 w.atTerm, .int .i64 w.commit, .bool w.yes, .int .i64 w.release, .int .i64 w.part, .str w.bytes, .int .i64 w.cmd.kind, .int .i64 w.cmd.release, .int .i64 w.cmd.node, .int .i64 w.cmd.size, .str w.cmd.digest, .ref 7]) (fun w => [.box 73 [.int .i64 s.r.id, .int .i64 s.r.of_, .int .i64 s.r.role, .int .i64 s.r.commit, .int .i64 s.r.hard.term, .int .i64 s.r.hard.vote, .ref 1, .ref 2, .ref 3, .ref 4, .int .i64 s.was.id, .int .i64 s.was.of_, .int .i64 s.was.role, .int .i64 s.was.commit, .int .i64 s.was.hard.term, .int .i64 s.was.hard.vote, .sl false 6 (s.was.hard.log.map encEnt), .sl false 1 (s.was.yes.map encI), .sl false 1 (s.was.next.map encI), .sl false 1 (s.was.match_.map encI), .ref 5, .ref 6], .arr 88 6 (s.r.hard.log.map encEnt), .arr 3 1 (s.r.yes.map encI), .arr 3 1 (s.r.next.map encI), .arr 3 1 (s.r.match_.map encI), .arr 93 10 (s.recs.map encRec), .arr 76 17 (s.outs.map encOut), .arr 88 6 (w.entries.map encEnt)]) (show ((⟨kind, s.r.id, s.r.hard.term, 0, 0, 0, false, 0, 0, (⟨#[]⟩ : ByteArray), ⟨0, 0, 0, 0, (⟨#[]⟩ : ByteArray)⟩, []⟩ : Msg)) = ((⟨kind, s.r.id, s.r.hard.term, 0, 0, 0, false, 0, 0, ⟨#[]⟩, ⟨0, 0, 0, 0, ⟨#[]⟩⟩, []⟩ : Msg)) from rfl) ?_
  exact KF.m [(0, 0), (1, 1), (2, 2), (3, 3), (4, 4), (5, 5), (6, 6), (5002, 7)] [.agg [.int .i64 kind, .int .i64 s.r.id, .int .i64 s.r.hard.term, .int .i64 0, .int .i64 0, .int .i64 0, .bool false, .int .i64 0, .int .i64 0, .str (⟨#[]⟩ : ByteArray), .int .i64 0, .int .i64 0, .int .i64 0, .int .i64 0, .str (⟨#[]⟩ : ByteArray), .ref 5002]]
set_option maxRecDepth 100000 in
set_option maxHeartbeats 4000000 in
theorem impl_termAt_spec  (l : List Ent) (at_ : Int) (hl : l.length ≤ 1048576) (ha : 0 ≤ at_ ∧ at_ ≤ l.length) : FnSpec Try.prog 110 [.sl false 6 (l.map encEnt), .int .i64 at_] [] (.int .i64 (termAt l at_)) [] := by
  refine FnSpec.of 13 Try.func110 rfl Try.ntmps110 (by simp) (AW.weakK ?_)
  refine AW.r ?_
  refine At.a 1 ?_
  refine At.done rfl ?_
  refine AW.seq ?_
  refine AW.r ?_
  refine At.a 2 ?_
  refine At.done rfl ?_
  refine AW.cE at_ (0 : Int) (fun h1 => ?_) (fun h1 => ?_)
  · skip
    refine AW.r ?_
    refine At.a 1 ?_
    refine At.done rfl ?_
    refine AW.ret ?_
    refine ⟨_, Sub.refl _ _, ?_⟩
    refine KF.conv (fun w => .int .i64 w) (fun w => []) (show (0) = (termAt l at_) from by unfold termAt; first | (rw [if_pos (by omega)]; done) | (rw [if_neg (by omega), he1]; rfl)) ?_
    exact KF.m [] [.int .i64 0]
  · skip
    refine AW.skip ?_
    refine AW.r ?_
    refine At.a 3 ?_
    refine At.sI 9 (at_ - 1) (by omega) ?_
    refine At.iSl 31 10 (.tmp 7) (.tmp 9) false 6 (l.map encEnt) .i64 (at_ - 1) 88 (by omega) (by simp only [List.length_map, List.length_append, List.length_take, List.length_drop, List.length_replicate, List.length_set, List.length_cons, List.length_nil]; omega) ?_
    refine At.a 1 ?_
    refine Exists.elim (show ∃ e, l[(at_ - 1).toNat]? = some e from ⟨_, List.getElem?_eq_getElem (by omega)⟩) fun e1 he1 => ?_
    refine At.lVp 3 12 (.tmp 11) false 6 (l.map encEnt) ((at_ - 1).toNat) 0 false 1 (encEnt e1) (.int .i64 e1.term) (mapGet he1) ?_
    refine At.a 1 ?_
    refine At.done rfl ?_
    refine AW.ret ?_
    refine ⟨_, Sub.refl _ _, ?_⟩
    refine KF.conv (fun w => .int .i64 w) (fun w => []) (show (e1.term) = (termAt l at_) from by unfold termAt; first | (rw [if_pos (by omega)]; done) | (rw [if_neg (by omega), he1]; rfl)) ?_
    exact KF.m [] [.int .i64 e1.term]
set_option maxRecDepth 100000 in
set_option maxHeartbeats 4000000 in
theorem impl_stepper_send_spec  (s : Stepper) (i : Int) (hz : SmallR s.r) (hi : 0 ≤ i ∧ i < s.r.next.length) (hn : NextOk s.r) (ho : s.outs.length ≤ 2000) : FnSpec Try.prog 90 [.ptr 0 0 0, .int .i64 i] [.box 73 [.int .i64 s.r.id, .int .i64 s.r.of_, .int .i64 s.r.role, .int .i64 s.r.commit, .int .i64 s.r.hard.term, .int .i64 s.r.hard.vote, .ref 1, .ref 2, .ref 3, .ref 4, .int .i64 s.was.id, .int .i64 s.was.of_, .int .i64 s.was.role, .int .i64 s.was.commit, .int .i64 s.was.hard.term, .int .i64 s.was.hard.vote, .sl false 6 (s.was.hard.log.map encEnt), .sl false 1 (s.was.yes.map encI), .sl false 1 (s.was.next.map encI), .sl false 1 (s.was.match_.map encI), .ref 5, .ref 6], .arr 88 6 (s.r.hard.log.map encEnt), .arr 3 1 (s.r.yes.map encI), .arr 3 1 (s.r.next.map encI), .arr 3 1 (s.r.match_.map encI), .arr 93 10 (s.recs.map encRec), .arr 76 17 (s.outs.map encOut)] (.tup []) [.box 73 [.int .i64 s.r.id, .int .i64 s.r.of_, .int .i64 s.r.role, .int .i64 s.r.commit, .int .i64 s.r.hard.term, .int .i64 s.r.hard.vote, .ref 1, .ref 2, .ref 3, .ref 4, .int .i64 s.was.id, .int .i64 s.was.of_, .int .i64 s.was.role, .int .i64 s.was.commit, .int .i64 s.was.hard.term, .int .i64 s.was.hard.vote, .sl false 6 (s.was.hard.log.map encEnt), .sl false 1 (s.was.yes.map encI), .sl false 1 (s.was.next.map encI), .sl false 1 (s.was.match_.map encI), .ref 5, .ref 7], .arr 88 6 (s.r.hard.log.map encEnt), .arr 3 1 (s.r.yes.map encI), .arr 3 1 (s.r.next.map encI), .arr 3 1 (s.r.match_.map encI), .arr 93 10 (s.recs.map encRec), .dead, .arr 76 17 ((s.outs ++ [sendOf s.r i]).map encOut)] := by
  obtain ⟨z1, z2, z3, z4⟩ := id hz
  refine FnSpec.of 59 Try.func90 rfl Try.ntmps90 (by simp) (AW.weakK ?_)
  refine AW.r ?_
  refine At.a 7 ?_
  refine At.done rfl ?_
  refine AW.r ?_
  refine At.a 1 ?_
  refine At.c (impl_stepper_message_spec  s 3 ) Try.call74 true [(0, 0), (1, 1), (2, 2), (3, 3), (4, 4), (5, 5), (6, 6)] [(1260, 7)] [] trivial ?_
  refine At.a 2 ?_
  refine At.done rfl ?_
  refine AW.r ?_
  refine At.a 6 ?_
  refine At.iRf 25 20 (.tmp 18) (.tmp 19) 3 (s.r.next.map encI) .i64 i 3 1 (by omega) (by simp only [List.length_map, List.length_append, List.length_take, List.length_drop, List.length_replicate, List.length_set, List.length_cons, List.length_nil]; omega) ?_
  refine Exists.elim (show ∃ e, s.r.next[(i).toNat]? = some e from ⟨_, List.getElem?_eq_getElem (by omega)⟩) fun e1 he1 => ?_
  have hxe1 := hn _ (List.mem_of_getElem? he1)
  refine At.lEl 3 21 (.tmp 20) 3 3 1 (s.r.next.map encI) ((i).toNat) 0 false 1 (encI e1) (.int .i64 e1) (mapGet he1) ?_
  refine At.a 1 ?_
  refine At.sI 22 (e1 - 1) (by omega) ?_
  refine At.a 2 ?_
  refine At.done rfl ?_
  refine AW.seq ?_
  refine AW.regionD Try_mix (At.start ?_)
  refine At.a 3 ?_
  refine At.c (impl_termAt_spec  s.r.hard.log (e1 - 1) (by omega) (by omega)) Try.call110 false [] [] [(1, 6, (s.r.hard.log.map encEnt))] ⟨rfl, ⟨88, (s.r.hard.log.map encEnt), by kernel_rfl, FrzIs.same (allP_encEnt _)⟩, trivial⟩ ?_
  refine At.a 9 ?_
  refine At.done rfl ⟨by kernel_rfl, ?_⟩
  refine AW.r ?_
  refine At.a 6 ?_
  refine At.sJ 40 ((e1 - 1) + 6) (e1 + 5) (by omega) (by omega) ?_
  refine At.a 2 ?_
  refine At.sL 42 encEnt s.r.hard.log ?_
  refine At.mm (d := 43) (b := .min) (x := .tmp 40) (y := .tmp 42) (ats := #[3, 3]) (q := .i64) (m := e1 + 5) (n := (s.r.hard.log.length : Int)) (if (s.r.hard.log.length : Int) < (e1 + 5) then (s.r.hard.log.length : Int) else e1 + 5) (by kernel_rfl) (by kernel_rfl) (by kernel_rfl) (by kernel_rfl) (.inl ⟨rfl, rfl⟩) ?_
  refine At.say 43 (.int .i64 (if (s.r.hard.log.length : Int) < (e1 + 5) then (s.r.hard.log.length : Int) else e1 + 5)) (.int .i64 (min (e1 + 5) (s.r.hard.log.length : Int))) (by kernel_rfl) (congrArg (V.int .i64) (by omega)) ?_
  refine At.sliceRef (t := 31) (d := 44) (e := 88) (es := 6) (i := 1) (x := .tmp 35) (lx := some (.tmp 37)) (hx := some (.tmp 43)) (xs := (s.r.hard.log.map encEnt)) (vl := .int .i64 (e1 - 1)) (vh := .int .i64 (min (e1 + 5) (s.r.hard.log.length : Int))) ((e1 - 1).toNat) ((min (e1 + 5) (s.r.hard.log.length : Int)).toNat) (by kernel_rfl) (by kernel_rfl) (by kernel_rfl) (by kernel_rfl) (by kernel_rfl) (.inr ⟨_, _, rfl, sayNat (by omega)⟩) (.inr ⟨_, _, rfl, sayNat (by omega)⟩) (by omega) (by simp only [List.length_map, List.length_append, List.length_take, List.length_drop, List.length_replicate, List.length_set, List.length_cons, List.length_nil]; omega) ?_
  refine At.call (impl_copyLog_spec  ((s.r.hard.log.drop ((e1 - 1).toNat)).take (((min (e1 + 5) (s.r.hard.log.length : Int)).toNat) - ((e1 - 1).toNat))) (by simp only [List.length_map, List.length_append, List.length_take, List.length_drop, List.length_replicate, List.length_set, List.length_cons, List.length_nil]; omega)) Try.call111 false [] [(1900, 0)] [(1, 6, (s.r.hard.log.map encEnt))] (by kernel_rfl) (by kernel_rfl) (Eq.trans (b := [.sl false 6 (((s.r.hard.log.map encEnt).drop ((e1 - 1).toNat)).take (((min (e1 + 5) (s.r.hard.log.length : Int)).toNat) - ((e1 - 1).toNat)))]) (by kernel_rfl) (by simp only [List.map_take, List.map_drop])) (by kernel_rfl) (by kernel_rfl) ⟨rfl, ⟨88, (s.r.hard.log.map encEnt), by kernel_rfl, FrzIs.same (allP_encEnt _)⟩, trivial⟩ ?_
  refine At.a 2 ?_
  refine At.done rfl ?_
  refine AW.regionD Try_mix (At.start ?_)
  refine At.a 8 ?_
  refine At.litK (t := 29) (d := 55) (e := 76) (es := 17) (bytes := 168) (n := 1) (parts := #[(0, .tmp 54)]) (88, 6) 155 [1900] [.int .i64 i, .int .i64 3, .int .i64 s.r.id, .int .i64 s.r.hard.term, .int .i64 (e1 - 1), .int .i64 (termAt s.r.hard.log (e1 - 1)), .int .i64 s.r.commit, .bool false, .int .i64 0, .int .i64 0, .str (⟨#[]⟩), .int .i64 0, .int .i64 0, .int .i64 0, .int .i64 0, .str (⟨#[]⟩), .ref 1900] [.int .i64 i, .int .i64 3, .int .i64 s.r.id, .int .i64 s.r.hard.term, .int .i64 (e1 - 1), .int .i64 (termAt s.r.hard.log (e1 - 1)), .int .i64 s.r.commit, .bool false, .int .i64 0, .int .i64 0, .str (⟨#[]⟩), .int .i64 0, .int .i64 0, .int .i64 0, .int .i64 0, .str (⟨#[]⟩), .own 88 6 (((s.r.hard.log.drop ((e1 - 1).toNat)).take (((min (e1 + 5) (s.r.hard.log.length : Int)).toNat) - ((e1 - 1).toNat))).map encEnt)] [.int .i64 0, .int .i64 0, .int .i64 0, .int .i64 0, .int .i64 0, .int .i64 0, .int .i64 0, .bool false, .int .i64 0, .int .i64 0, .str (⟨#[]⟩ : ByteArray), .int .i64 0, .int .i64 0, .int .i64 0, .int .i64 0, .str (⟨#[]⟩ : ByteArray), .nil] [.agg [.int .i64 i, .int .i64 3, .int .i64 s.r.id, .int .i64 s.r.hard.term, .int .i64 (e1 - 1), .int .i64 (termAt s.r.hard.log (e1 - 1)), .int .i64 s.r.commit, .bool false, .int .i64 0, .int .i64 0, .str (⟨#[]⟩), .int .i64 0, .int .i64 0, .int .i64 0, .int .i64 0, .str (⟨#[]⟩), .own 88 6 (((s.r.hard.log.drop ((e1 - 1).toNat)).take (((min (e1 + 5) (s.r.hard.log.length : Int)).toNat) - ((e1 - 1).toNat))).map encEnt)]] [(88, 6, (((s.r.hard.log.drop ((e1 - 1).toNat)).take (((min (e1 + 5) (s.r.hard.log.length : Int)).toNat) - ((e1 - 1).toNat))).map encEnt))] (by kernel_rfl) (by kernel_rfl) (by kernel_rfl) (by kernel_rfl) (by kernel_rfl) (by intro p hp; simp only [List.mem_cons, List.not_mem_nil, or_false] at hp; subst hp; all_goals first | exact flatEnts | (intro x hx; cases hx)) (by kernel_rfl) ?_
  refine At.append (t := 29) (d := 56) (e := 76) (es := 17) (bytes := 168) (s := .tmp 51) (x := .tmp 55) (S := .ref 6) (T := .ref 155) (xs := (s.outs.map encOut)) (ys := (([(⟨i, ⟨3, s.r.id, s.r.hard.term, e1 - 1, termAt s.r.hard.log (e1 - 1), s.r.commit, false, 0, 0, ⟨#[]⟩, ⟨0, 0, 0, 0, ⟨#[]⟩⟩, ((s.r.hard.log.drop ((e1 - 1).toNat)).take (((min (e1 + 5) (s.r.hard.log.length : Int)).toNat) - ((e1 - 1).toNat)))⟩⟩ : Out)]).map encOut)) 156 [6] [155] ((s.outs ++ ([(⟨i, ⟨3, s.r.id, s.r.hard.term, e1 - 1, termAt s.r.hard.log (e1 - 1), s.r.commit, false, 0, 0, ⟨#[]⟩, ⟨0, 0, 0, 0, ⟨#[]⟩⟩, ((s.r.hard.log.drop ((e1 - 1).toNat)).take (((min (e1 + 5) (s.r.hard.log.length : Int)).toNat) - ((e1 - 1).toNat)))⟩⟩ : Out)])).map encOut) (by kernel_rfl) (by kernel_rfl) (by kernel_rfl) (by kernel_rfl) ⟨by kernel_rfl, rfl⟩ ⟨by kernel_rfl, .inr rfl⟩ (by kernel_rfl) (by kernel_rfl) (by simp) (by simp only [List.length_map, List.length_append, List.length_take, List.length_drop, List.length_replicate, List.length_set, List.length_cons, List.length_nil]; omega) (by simp only [List.length_map, List.length_append, List.length_take, List.length_drop, List.length_replicate, List.length_set, List.length_cons, List.length_nil]; omega) ?_
  refine At.a 3 ?_
  refine At.done rfl ⟨by kernel_rfl, ?_⟩
  refine ⟨_, Sub.refl _ _, ?_⟩
  refine KF.conv (fun w => .tup []) (fun w => [.box 73 [.int .i64 w.r.id, .int .i64 w.r.of_, .int .i64 w.r.role, .int .i64 w.r.commit, .int .i64 w.r.hard.term, .int .i64 w.r.hard.vote, .ref 1, .ref 2, .ref 3, .ref 4, .int .i64 w.was.id, .int .i64 w.was.of_, .int .i64 w.was.role, .int .i64 w.was.commit, .int .i64 w.was.hard.term, .int .i64 w.was.hard.vote, .sl false 6 (w.was.hard.log.map encEnt), .sl false 1 (w.was.yes.map encI), .sl false 1 (w.was.next.map encI), .sl false 1 (w.was.match_.map encI), .ref 5, .ref 7], .arr 88 6 (w.r.hard.log.map encEnt), .arr 3 1 (w.r.yes.map encI), .arr 3 1 (w.r.next.map encI), .arr 3 1 (w.r.match_.map encI), .arr 93 10 (w.recs.map encRec), .dead, .arr 76 17 (w.outs.map encOut)]) (show ((⟨s.r, s.was, s.recs, s.outs ++ ([(⟨i, ⟨3, s.r.id, s.r.hard.term, e1 - 1, termAt s.r.hard.log (e1 - 1), s.r.commit, false, 0, 0, ⟨#[]⟩, ⟨0, 0, 0, 0, ⟨#[]⟩⟩, ((s.r.hard.log.drop ((e1 - 1).toNat)).take (((min (e1 + 5) (s.r.hard.log.length : Int)).toNat) - ((e1 - 1).toNat)))⟩⟩ : Out)])⟩ : Stepper)) = (({ s with outs := s.outs ++ [sendOf s.r i] } : Stepper)) from by simp only [sendOf, nextOf, he1, Option.getD_some]; rw [takeMin _ _ 6 _ (by omega)]; rfl) ?_
  exact KF.m [(0, 0), (1, 1), (2, 2), (3, 3), (4, 4), (5, 5), (6, 6), (156, 7)] []
set_option maxRecDepth 100000 in
set_option maxHeartbeats 4000000 in
theorem impl_stepper_sendAll_spec  (s : Stepper) (hz : SmallR s.r) (hf : 0 ≤ s.r.of_ ∧ s.r.of_ ≤ 5) (hx : s.r.of_ ≤ s.r.next.length) (hn : NextOk s.r) (ho : s.outs.length ≤ 1000) : FnSpec Try.prog 41 [.ptr 0 0 0] [.box 73 [.int .i64 s.r.id, .int .i64 s.r.of_, .int .i64 s.r.role, .int .i64 s.r.commit, .int .i64 s.r.hard.term, .int .i64 s.r.hard.vote, .ref 1, .ref 2, .ref 3, .ref 4, .int .i64 s.was.id, .int .i64 s.was.of_, .int .i64 s.was.role, .int .i64 s.was.commit, .int .i64 s.was.hard.term, .int .i64 s.was.hard.vote, .sl false 6 (s.was.hard.log.map encEnt), .sl false 1 (s.was.yes.map encI), .sl false 1 (s.was.next.map encI), .sl false 1 (s.was.match_.map encI), .ref 5, .ref 6], .arr 88 6 (s.r.hard.log.map encEnt), .arr 3 1 (s.r.yes.map encI), .arr 3 1 (s.r.next.map encI), .arr 3 1 (s.r.match_.map encI), .arr 93 10 (s.recs.map encRec), .arr 76 17 (s.outs.map encOut)] (.tup []) [.box 73 [.int .i64 s.r.id, .int .i64 s.r.of_, .int .i64 s.r.role, .int .i64 s.r.commit, .int .i64 s.r.hard.term, .int .i64 s.r.hard.vote, .ref 1, .ref 2, .ref 3, .ref 4, .int .i64 s.was.id, .int .i64 s.was.of_, .int .i64 s.was.role, .int .i64 s.was.commit, .int .i64 s.was.hard.term, .int .i64 s.was.hard.vote, .sl false 6 (s.was.hard.log.map encEnt), .sl false 1 (s.was.yes.map encI), .sl false 1 (s.was.next.map encI), .sl false 1 (s.was.match_.map encI), .ref 5, .ref 7], .arr 88 6 (s.r.hard.log.map encEnt), .arr 3 1 (s.r.yes.map encI), .arr 3 1 (s.r.next.map encI), .arr 3 1 (s.r.match_.map encI), .arr 93 10 (s.recs.map encRec), .dead, .arr 76 17 ((s.outs ++ sendAll s.r).map encOut)] := by
  obtain ⟨z1, z2, z3, z4⟩ := id hz
  refine FnSpec.of 22 Try.func41 rfl Try.ntmps41 (by simp) (AW.weakK ?_)
  refine AW.r ?_
  refine At.a 6 ?_
  refine At.done rfl ?_
  refine AW.block ?_
  refine AW.weak (Sub.mv 6 7000 (by kernel_rfl) (by decide)) ?_
  refine AW.loopW (fun (x : Nat × List Out) => match x with | (k, o) => Go.Sy.mk [.ptr 0 0 0, .un, .un, .un, .un, .un, .un, .int .i64 s.r.of_, .int .i64 (k : Int)] [(0, .box 73 [.int .i64 s.r.id, .int .i64 s.r.of_, .int .i64 s.r.role, .int .i64 s.r.commit, .int .i64 s.r.hard.term, .int .i64 s.r.hard.vote, .ref 1, .ref 2, .ref 3, .ref 4, .int .i64 s.was.id, .int .i64 s.was.of_, .int .i64 s.was.role, .int .i64 s.was.commit, .int .i64 s.was.hard.term, .int .i64 s.was.hard.vote, .sl false 6 (s.was.hard.log.map encEnt), .sl false 1 (s.was.yes.map encI), .sl false 1 (s.was.next.map encI), .sl false 1 (s.was.match_.map encI), .ref 5, .ref 7000]), (1, .arr 88 6 (s.r.hard.log.map encEnt)), (2, .arr 3 1 (s.r.yes.map encI)), (3, .arr 3 1 (s.r.next.map encI)), (4, .arr 3 1 (s.r.match_.map encI)), (5, .arr 93 10 (s.recs.map encRec)), (6, .dead), (7000, .arr 76 17 (o.map encOut))]) (fun (x : Nat × List Out) => match x with | (k, o) => (k : Int) ≤ s.r.of_ ∧ o = s.outs ++ sendUp s.r k) (fun (x : Nat × List Out) => match x with | (k, o) => s.r.of_.toNat - k) (0, s.outs) ⟨by omega, by simp [sendUp]⟩ (Sub.o [(0, 0), (1, 1), (2, 2), (3, 3), (4, 4), (5, 5), (6, 6), (7000, 7000)] [true, false, false, false, false, false, false, true, true]) ?_
  rintro ⟨k, o⟩ ⟨hk, hR⟩
  have hlen := sendUp_len s.r k
  have hlen2 := congrArg List.length hR
  try rw [List.length_append] at hlen2
  refine AW.r ?_
  refine At.a 1 ?_
  refine At.done rfl ?_
  refine AW.seq ?_
  refine AW.cD ((k : Int) < s.r.of_) (fun h1 => ?_) (fun h1 => ?_)
  · skip
    refine AW.skip ?_
    refine AW.seq ?_
    refine AW.block ?_
    refine AW.r ?_
    refine At.a 2 ?_
    refine At.done rfl ?_
    refine AW.r ?_
    refine At.a 7 ?_
    refine At.done rfl ?_
    refine AW.cU (k : Int) s.r.id (fun h2 => ?_) (fun h2 => ?_)
    · skip
      refine AW.region (At.start ?_)
      refine At.a 2 ?_
      refine At.c (impl_stepper_send_spec  (⟨s.r, s.was, s.recs, o⟩ : Stepper) (k : Int) hz (by dsimp only; omega) hn (by dsimp only; omega)) Try.call90 true [(0, 0), (1, 1), (2, 2), (3, 3), (4, 4), (5, 5), (7000, 6)] [(1400, 7)] [] trivial ?_
      refine At.done rfl ?_
      refine AW.region (At.start ?_)
      refine At.a 1 ?_
      refine At.sI 21 ((k : Int) + 1) (by omega) ?_
      refine At.a 1 ?_
      refine At.done rfl ?_
      exact ⟨(k + 1, (o ++ [sendOf s.r (k : Int)])), ⟨by omega, by rw [hR, sendUp, if_neg (by grind)]; (try rw [termAt_end]); first | rfl | exact List.append_assoc _ _ _⟩, (by simp only; omega), Sub.o [(0, 0), (1, 1), (2, 2), (3, 3), (4, 4), (5, 5), (6, 6), (1400, 7000)] [true, false, false, false, false, false, false, true, true]⟩
    · skip
      refine AW.skip ?_
      refine AW.region (At.start ?_)
      refine At.a 1 ?_
      refine At.sI 21 ((k : Int) + 1) (by omega) ?_
      refine At.a 1 ?_
      refine At.done rfl ?_
      exact ⟨(k + 1, o), ⟨by omega, by rw [hR, sendUp, if_pos (by grind)]; simp⟩, (by simp only; omega), Sub.o [(0, 0), (1, 1), (2, 2), (3, 3), (4, 4), (5, 5), (6, 6), (7000, 7000)] [true, false, false, false, false, false, false, true, true]⟩
  · skip
    refine AW.exit ?_
    refine ⟨_, Sub.refl _ _, ?_⟩
    refine KF.conv (fun w => .tup []) (fun w => [.box 73 [.int .i64 w.r.id, .int .i64 w.r.of_, .int .i64 w.r.role, .int .i64 w.r.commit, .int .i64 w.r.hard.term, .int .i64 w.r.hard.vote, .ref 1, .ref 2, .ref 3, .ref 4, .int .i64 w.was.id, .int .i64 w.was.of_, .int .i64 w.was.role, .int .i64 w.was.commit, .int .i64 w.was.hard.term, .int .i64 w.was.hard.vote, .sl false 6 (w.was.hard.log.map encEnt), .sl false 1 (w.was.yes.map encI), .sl false 1 (w.was.next.map encI), .sl false 1 (w.was.match_.map encI), .ref 5, .ref 7], .arr 88 6 (w.r.hard.log.map encEnt), .arr 3 1 (w.r.yes.map encI), .arr 3 1 (w.r.next.map encI), .arr 3 1 (w.r.match_.map encI), .arr 93 10 (w.recs.map encRec), .dead, .arr 76 17 (w.outs.map encOut)]) (show ((⟨s.r, s.was, s.recs, o⟩ : Stepper)) = (({ s with outs := s.outs ++ sendAll s.r } : Stepper)) from by rw [hR, sendAll, show s.r.of_.toNat = k from by omega]) ?_
    exact KF.m [(0, 0), (1, 1), (2, 2), (3, 3), (4, 4), (5, 5), (6, 6), (7000, 7)] []
set_option maxRecDepth 100000 in
set_option maxHeartbeats 4000000 in
theorem impl_stepper_lead_T_spec  (s : Stepper) (hz : SmallR s.r) (hf : 0 ≤ s.r.of_ ∧ s.r.of_ ≤ 5) (hi : 0 ≤ s.r.id ∧ s.r.id < s.r.of_) (ho : s.outs.length ≤ 1000) (hr : s.recs.length ≤ 1000) (hlt : s.r.hard.log.length < 80) : FnSpec Try.prog 65 [.ptr 0 0 0] [.box 73 [.int .i64 s.r.id, .int .i64 s.r.of_, .int .i64 s.r.role, .int .i64 s.r.commit, .int .i64 s.r.hard.term, .int .i64 s.r.hard.vote, .ref 1, .ref 2, .ref 3, .ref 4, .int .i64 s.was.id, .int .i64 s.was.of_, .int .i64 s.was.role, .int .i64 s.was.commit, .int .i64 s.was.hard.term, .int .i64 s.was.hard.vote, .sl false 6 (s.was.hard.log.map encEnt), .sl false 1 (s.was.yes.map encI), .sl false 1 (s.was.next.map encI), .sl false 1 (s.was.match_.map encI), .ref 5, .ref 6], .arr 88 6 (s.r.hard.log.map encEnt), .arr 3 1 (s.r.yes.map encI), .arr 3 1 (s.r.next.map encI), .arr 3 1 (s.r.match_.map encI), .arr 93 10 (s.recs.map encRec), .arr 76 17 (s.outs.map encOut)] (.tup []) [.box 73 [.int .i64 ((leadR s.r).id), .int .i64 ((leadR s.r).of_), .int .i64 ((leadR s.r).role), .int .i64 ((leadR s.r).commit), .int .i64 ((leadR s.r).hard.term), .int .i64 ((leadR s.r).hard.vote), .ref 7, .ref 8, .ref 9, .ref 10, .int .i64 s.was.id, .int .i64 s.was.of_, .int .i64 s.was.role, .int .i64 s.was.commit, .int .i64 s.was.hard.term, .int .i64 s.was.hard.vote, .sl false 6 (s.was.hard.log.map encEnt), .sl false 1 (s.was.yes.map encI), .sl false 1 (s.was.next.map encI), .sl false 1 (s.was.match_.map encI), .ref 11, .ref 12], .dead, .dead, .dead, .dead, .dead, .dead, .arr 88 6 (((leadR s.r).hard.log).map encEnt), .arr 3 1 (((leadR s.r).yes).map encI), .arr 3 1 (((leadR s.r).next).map encI), .arr 3 1 (((leadR s.r).match_).map encI), .arr 93 10 ((s.recs ++ leadRecs s.r).map encRec), .arr 76 17 ((s.outs ++ sendAll (leadR s.r)).map encOut)] := by
  obtain ⟨z1, z2, z3, z4⟩ := id hz
  refine FnSpec.of 57 Try.func65 rfl Try.ntmps65 (by simp) (AW.weakK ?_)
  refine AW.r ?_
  refine At.a 7 ?_
  refine At.sL 9 encEnt s.r.hard.log ?_
  refine At.a 1 ?_
  refine At.done rfl ?_
  refine AW.r ?_
  refine At.a 10 ?_
  refine At.done rfl ?_
  refine AW.seq ?_
  refine AW.weak (Sub.nils [⟨true, 0, some 7, 5001, 3, 1⟩] (by kernel_rfl)) ?_
  refine AW.regionD Try_mix (At.start ?_)
  refine At.a 4 ?_
  refine At.sI 21 ((s.r.hard.log.length : Int) + 1) (by omega) ?_
  refine At.litK (t := 25) (d := 22) (e := 3) (es := 1) (bytes := 8) (n := 1) (parts := #[(0, .tmp 21)]) (88, 6) 122 [] [.int .i64 ((s.r.hard.log.length : Int) + 1)] [.int .i64 ((s.r.hard.log.length : Int) + 1)] [.int .i64 0] [.int .i64 ((s.r.hard.log.length : Int) + 1)] [] (by kernel_rfl) (by kernel_rfl) (by kernel_rfl) (by kernel_rfl) rfl (fun p hp => by cases hp) (by kernel_rfl) ?_
  refine At.a 5 ?_
  refine At.c (slices_Repeat_spec  ([(s.r.hard.log.length : Int) + 1]) s.r.of_ rfl (by omega)) Try.call96 false [] [(1560, 0)] [(122, 1, (([(s.r.hard.log.length : Int) + 1]).map encI))] ⟨rfl, ⟨3, (([(s.r.hard.log.length : Int) + 1]).map encI), by kernel_rfl, FrzIs.same (allP_encI _)⟩, trivial⟩ ?_
  refine At.a 5 ?_
  refine At.say 33 (.int .i64 s.r.of_) (.int .i64 (((s.r.of_).toNat : Nat) : Int)) (by kernel_rfl) (congrArg (V.int .i64) (Int.toNat_of_nonneg (by omega)).symm) ?_
  refine At.make (t := 25) (d := 34) (e := 3) (es := 1) (bytes := 8) (x := .tmp 33) (y := .tmp 33) (ka := .i64) (kb := .i64) (zs := [.int .i64 0]) 134 ((s.r.of_).toNat) ((List.replicate ((s.r.of_).toNat) 0).map encI) (by kernel_rfl) (by kernel_rfl) (by kernel_rfl) (by kernel_rfl) (by kernel_rfl) (by omega) (by omega) (by rw [List.map_replicate]; rfl) ?_
  refine At.a 8 ?_
  refine At.done rfl ⟨by kernel_rfl, ?_⟩
  refine AW.seq ?_
  refine AW.r ?_
  refine At.a 2 ?_
  refine At.done rfl ?_
  refine AW.condT (decide ((s.r.hard.log.length : Int) < 80)) (by kernel_rfl) (decide_eq_true (by omega)) ?_
  refine AW.region (At.start ?_)
  refine At.a 9 ?_
  refine At.c (impl_stepper_put_spec  (⟨⟨s.r.id, s.r.of_, 3, s.r.commit, ⟨s.r.hard.term, s.r.hard.vote, s.r.hard.log⟩, [], repl ([(s.r.hard.log.length : Int) + 1]) s.r.of_, List.replicate ((s.r.of_).toNat) 0⟩, s.was, s.recs, s.outs⟩ : Stepper) (⟨s.r.hard.term, ⟨1, 0, 0, 0, (⟨#[]⟩ : ByteArray)⟩⟩ : Ent) (by dsimp only; omega) (by dsimp only; omega)) Try.call57 true [(0, 0), (1, 1), (5001, 2), (1560, 3), (134, 4), (5, 5), (6, 6)] [(2040, 7), (2041, 8)] [] trivial ?_
  refine At.done rfl ?_
  refine AW.r ?_
  refine At.a 1 ?_
  refine At.c (impl_stepper_had_spec  (⟨⟨s.r.id, s.r.of_, 3, s.r.commit, ⟨s.r.hard.term, s.r.hard.vote, s.r.hard.log ++ [(⟨s.r.hard.term, ⟨1, 0, 0, 0, (⟨#[]⟩ : ByteArray)⟩⟩ : Ent)]⟩, [], repl ([(s.r.hard.log.length : Int) + 1]) s.r.of_, List.replicate ((s.r.of_).toNat) 0⟩, s.was, s.recs ++ [(⟨2, 0, 0, ((s.r.hard.log ++ [(⟨s.r.hard.term, ⟨1, 0, 0, 0, (⟨#[]⟩ : ByteArray)⟩⟩ : Ent)]).length : Int), (⟨s.r.hard.term, ⟨1, 0, 0, 0, (⟨#[]⟩ : ByteArray)⟩⟩ : Ent)⟩ : Rec)], s.outs⟩ : Stepper) (by dsimp only; simp only [List.length_replicate]; omega)) Try.call58 true [(0, 0), (2040, 1), (5001, 2), (1560, 3), (134, 4), (2041, 5), (6, 6)] [] [] trivial ?_
  refine At.done rfl ?_
  refine AW.region (At.start ?_)
  refine At.a 1 ?_
  refine At.c (impl_stepper_sendAll_spec  (⟨⟨s.r.id, s.r.of_, 3, if s.r.of_ = 1 then ((s.r.hard.log ++ [(⟨s.r.hard.term, ⟨1, 0, 0, 0, (⟨#[]⟩ : ByteArray)⟩⟩ : Ent)]).length : Int) else s.r.commit, ⟨s.r.hard.term, s.r.hard.vote, s.r.hard.log ++ [(⟨s.r.hard.term, ⟨1, 0, 0, 0, (⟨#[]⟩ : ByteArray)⟩⟩ : Ent)]⟩, [], repl ([(s.r.hard.log.length : Int) + 1]) s.r.of_, (List.replicate ((s.r.of_).toNat) 0).set (s.r.id).toNat ((s.r.hard.log ++ [(⟨s.r.hard.term, ⟨1, 0, 0, 0, (⟨#[]⟩ : ByteArray)⟩⟩ : Ent)]).length : Int)⟩, s.was, s.recs ++ [(⟨2, 0, 0, ((s.r.hard.log ++ [(⟨s.r.hard.term, ⟨1, 0, 0, 0, (⟨#[]⟩ : ByteArray)⟩⟩ : Ent)]).length : Int), (⟨s.r.hard.term, ⟨1, 0, 0, 0, (⟨#[]⟩ : ByteArray)⟩⟩ : Ent)⟩ : Rec)], s.outs⟩ : Stepper) (by unfold SmallR; simp only [repl, List.length_append, List.length_set, List.length_replicate, List.length_cons, List.length_nil]; omega) (by dsimp only; omega) (by dsimp only; simp only [repl, List.length_replicate]; omega) (nextOk_repl rfl ⟨by omega, by dsimp only; (try simp only [List.length_append]); omega⟩) (by omega)) Try.call41 true [(0, 0), (2040, 1), (5001, 2), (1560, 3), (134, 4), (2041, 5), (6, 6)] [(2120, 7)] [] trivial ?_
  refine At.done rfl ?_
  refine ⟨_, (Sub.trans (Sub.trans (Sub.trans (Sub.refl _ _) (Sub.mv 2 8002 (by kernel_rfl) (by decide))) (Sub.mv 3 8003 (by kernel_rfl) (by decide))) (Sub.mv 4 8004 (by kernel_rfl) (by decide))), ?_⟩
  refine KF.conv (fun w => .tup []) (fun w => [.box 73 [.int .i64 w.r.id, .int .i64 w.r.of_, .int .i64 w.r.role, .int .i64 w.r.commit, .int .i64 w.r.hard.term, .int .i64 w.r.hard.vote, .ref 7, .ref 8, .ref 9, .ref 10, .int .i64 w.was.id, .int .i64 w.was.of_, .int .i64 w.was.role, .int .i64 w.was.commit, .int .i64 w.was.hard.term, .int .i64 w.was.hard.vote, .sl false 6 (w.was.hard.log.map encEnt), .sl false 1 (w.was.yes.map encI), .sl false 1 (w.was.next.map encI), .sl false 1 (w.was.match_.map encI), .ref 11, .ref 12], .dead, .dead, .dead, .dead, .dead, .dead, .arr 88 6 (w.r.hard.log.map encEnt), .arr 3 1 (w.r.yes.map encI), .arr 3 1 (w.r.next.map encI), .arr 3 1 (w.r.match_.map encI), .arr 93 10 (w.recs.map encRec), .arr 76 17 (w.outs.map encOut)]) (show ((⟨⟨s.r.id, s.r.of_, 3, if s.r.of_ = 1 then ((s.r.hard.log ++ [(⟨s.r.hard.term, ⟨1, 0, 0, 0, (⟨#[]⟩ : ByteArray)⟩⟩ : Ent)]).length : Int) else s.r.commit, ⟨s.r.hard.term, s.r.hard.vote, s.r.hard.log ++ [(⟨s.r.hard.term, ⟨1, 0, 0, 0, (⟨#[]⟩ : ByteArray)⟩⟩ : Ent)]⟩, [], repl ([(s.r.hard.log.length : Int) + 1]) s.r.of_, (List.replicate ((s.r.of_).toNat) 0).set (s.r.id).toNat ((s.r.hard.log ++ [(⟨s.r.hard.term, ⟨1, 0, 0, 0, (⟨#[]⟩ : ByteArray)⟩⟩ : Ent)]).length : Int)⟩, s.was, s.recs ++ [(⟨2, 0, 0, ((s.r.hard.log ++ [(⟨s.r.hard.term, ⟨1, 0, 0, 0, (⟨#[]⟩ : ByteArray)⟩⟩ : Ent)]).length : Int), (⟨s.r.hard.term, ⟨1, 0, 0, 0, (⟨#[]⟩ : ByteArray)⟩⟩ : Ent)⟩ : Rec)], s.outs ++ sendAll (⟨s.r.id, s.r.of_, 3, if s.r.of_ = 1 then ((s.r.hard.log ++ [(⟨s.r.hard.term, ⟨1, 0, 0, 0, (⟨#[]⟩ : ByteArray)⟩⟩ : Ent)]).length : Int) else s.r.commit, ⟨s.r.hard.term, s.r.hard.vote, s.r.hard.log ++ [(⟨s.r.hard.term, ⟨1, 0, 0, 0, (⟨#[]⟩ : ByteArray)⟩⟩ : Ent)]⟩, [], repl ([(s.r.hard.log.length : Int) + 1]) s.r.of_, (List.replicate ((s.r.of_).toNat) 0).set (s.r.id).toNat ((s.r.hard.log ++ [(⟨s.r.hard.term, ⟨1, 0, 0, 0, (⟨#[]⟩ : ByteArray)⟩⟩ : Ent)]).length : Int)⟩)⟩ : Stepper)) = (({ s with r := leadR s.r, recs := s.recs ++ leadRecs s.r, outs := s.outs ++ sendAll (leadR s.r) } : Stepper)) from by simp [leadR, leadRecs, had, put, lead0, noneE, putRec, repl, hlt, and_true] <;> first | rfl | exact ⟨rfl, rfl⟩) ?_
  exact KF.m [(0, 0), (1, 1), (2, 2), (3, 3), (4, 4), (5, 5), (6, 6), (2040, 7), (5001, 8), (1560, 9), (134, 10), (2041, 11), (2120, 12)] []
set_option maxRecDepth 100000 in
set_option maxHeartbeats 4000000 in
theorem impl_stepper_lead_F_spec  (s : Stepper) (hz : SmallR s.r) (hf : 0 ≤ s.r.of_ ∧ s.r.of_ ≤ 5) (hi : 0 ≤ s.r.id ∧ s.r.id < s.r.of_) (ho : s.outs.length ≤ 1000) (hr : s.recs.length ≤ 1000) (hlt : ¬ s.r.hard.log.length < 80) : FnSpec Try.prog 65 [.ptr 0 0 0] [.box 73 [.int .i64 s.r.id, .int .i64 s.r.of_, .int .i64 s.r.role, .int .i64 s.r.commit, .int .i64 s.r.hard.term, .int .i64 s.r.hard.vote, .ref 1, .ref 2, .ref 3, .ref 4, .int .i64 s.was.id, .int .i64 s.was.of_, .int .i64 s.was.role, .int .i64 s.was.commit, .int .i64 s.was.hard.term, .int .i64 s.was.hard.vote, .sl false 6 (s.was.hard.log.map encEnt), .sl false 1 (s.was.yes.map encI), .sl false 1 (s.was.next.map encI), .sl false 1 (s.was.match_.map encI), .ref 5, .ref 6], .arr 88 6 (s.r.hard.log.map encEnt), .arr 3 1 (s.r.yes.map encI), .arr 3 1 (s.r.next.map encI), .arr 3 1 (s.r.match_.map encI), .arr 93 10 (s.recs.map encRec), .arr 76 17 (s.outs.map encOut)] (.tup []) [.box 73 [.int .i64 ((leadR s.r).id), .int .i64 ((leadR s.r).of_), .int .i64 ((leadR s.r).role), .int .i64 ((leadR s.r).commit), .int .i64 ((leadR s.r).hard.term), .int .i64 ((leadR s.r).hard.vote), .ref 1, .ref 7, .ref 8, .ref 9, .int .i64 s.was.id, .int .i64 s.was.of_, .int .i64 s.was.role, .int .i64 s.was.commit, .int .i64 s.was.hard.term, .int .i64 s.was.hard.vote, .sl false 6 (s.was.hard.log.map encEnt), .sl false 1 (s.was.yes.map encI), .sl false 1 (s.was.next.map encI), .sl false 1 (s.was.match_.map encI), .ref 5, .ref 10], .arr 88 6 (((leadR s.r).hard.log).map encEnt), .dead, .dead, .dead, .arr 93 10 ((s.recs ++ leadRecs s.r).map encRec), .dead, .arr 3 1 (((leadR s.r).yes).map encI), .arr 3 1 (((leadR s.r).next).map encI), .arr 3 1 (((leadR s.r).match_).map encI), .arr 76 17 ((s.outs ++ sendAll (leadR s.r)).map encOut)] := by
  obtain ⟨z1, z2, z3, z4⟩ := id hz
  refine FnSpec.of 57 Try.func65 rfl Try.ntmps65 (by simp) (AW.weakK ?_)
  refine AW.r ?_
  refine At.a 7 ?_
  refine At.sL 9 encEnt s.r.hard.log ?_
  refine At.a 1 ?_
  refine At.done rfl ?_
  refine AW.r ?_
  refine At.a 10 ?_
  refine At.done rfl ?_
  refine AW.seq ?_
  refine AW.weak (Sub.nils [⟨true, 0, some 7, 5001, 3, 1⟩] (by kernel_rfl)) ?_
  refine AW.regionD Try_mix (At.start ?_)
  refine At.a 4 ?_
  refine At.sI 21 ((s.r.hard.log.length : Int) + 1) (by omega) ?_
  refine At.litK (t := 25) (d := 22) (e := 3) (es := 1) (bytes := 8) (n := 1) (parts := #[(0, .tmp 21)]) (88, 6) 122 [] [.int .i64 ((s.r.hard.log.length : Int) + 1)] [.int .i64 ((s.r.hard.log.length : Int) + 1)] [.int .i64 0] [.int .i64 ((s.r.hard.log.length : Int) + 1)] [] (by kernel_rfl) (by kernel_rfl) (by kernel_rfl) (by kernel_rfl) rfl (fun p hp => by cases hp) (by kernel_rfl) ?_
  refine At.a 5 ?_
  refine At.c (slices_Repeat_spec  ([(s.r.hard.log.length : Int) + 1]) s.r.of_ rfl (by omega)) Try.call96 false [] [(1560, 0)] [(122, 1, (([(s.r.hard.log.length : Int) + 1]).map encI))] ⟨rfl, ⟨3, (([(s.r.hard.log.length : Int) + 1]).map encI), by kernel_rfl, FrzIs.same (allP_encI _)⟩, trivial⟩ ?_
  refine At.a 5 ?_
  refine At.say 33 (.int .i64 s.r.of_) (.int .i64 (((s.r.of_).toNat : Nat) : Int)) (by kernel_rfl) (congrArg (V.int .i64) (Int.toNat_of_nonneg (by omega)).symm) ?_
  refine At.make (t := 25) (d := 34) (e := 3) (es := 1) (bytes := 8) (x := .tmp 33) (y := .tmp 33) (ka := .i64) (kb := .i64) (zs := [.int .i64 0]) 134 ((s.r.of_).toNat) ((List.replicate ((s.r.of_).toNat) 0).map encI) (by kernel_rfl) (by kernel_rfl) (by kernel_rfl) (by kernel_rfl) (by kernel_rfl) (by omega) (by omega) (by rw [List.map_replicate]; rfl) ?_
  refine At.a 8 ?_
  refine At.done rfl ⟨by kernel_rfl, ?_⟩
  refine AW.seq ?_
  refine AW.r ?_
  refine At.a 2 ?_
  refine At.done rfl ?_
  refine AW.condF (decide ((s.r.hard.log.length : Int) < 80)) (by kernel_rfl) (decide_eq_false (by omega)) ?_
  refine AW.skip ?_
  refine AW.r ?_
  refine At.a 1 ?_
  refine At.c (impl_stepper_had_spec  (⟨⟨s.r.id, s.r.of_, 3, s.r.commit, ⟨s.r.hard.term, s.r.hard.vote, s.r.hard.log⟩, [], repl ([(s.r.hard.log.length : Int) + 1]) s.r.of_, List.replicate ((s.r.of_).toNat) 0⟩, s.was, s.recs, s.outs⟩ : Stepper) (by dsimp only; simp only [List.length_replicate]; omega)) Try.call58 true [(0, 0), (1, 1), (5001, 2), (1560, 3), (134, 4), (5, 5), (6, 6)] [] [] trivial ?_
  refine At.done rfl ?_
  refine AW.region (At.start ?_)
  refine At.a 1 ?_
  refine At.c (impl_stepper_sendAll_spec  (⟨⟨s.r.id, s.r.of_, 3, if s.r.of_ = 1 then (s.r.hard.log.length : Int) else s.r.commit, ⟨s.r.hard.term, s.r.hard.vote, s.r.hard.log⟩, [], repl ([(s.r.hard.log.length : Int) + 1]) s.r.of_, (List.replicate ((s.r.of_).toNat) 0).set (s.r.id).toNat (s.r.hard.log.length : Int)⟩, s.was, s.recs, s.outs⟩ : Stepper) (by unfold SmallR; simp only [repl, List.length_append, List.length_set, List.length_replicate, List.length_cons, List.length_nil]; omega) (by dsimp only; omega) (by dsimp only; simp only [repl, List.length_replicate]; omega) (nextOk_repl rfl ⟨by omega, by dsimp only; (try simp only [List.length_append]); omega⟩) (by omega)) Try.call41 true [(0, 0), (1, 1), (5001, 2), (1560, 3), (134, 4), (5, 5), (6, 6)] [(2120, 7)] [] trivial ?_
  refine At.done rfl ?_
  refine ⟨_, (Sub.trans (Sub.trans (Sub.trans (Sub.refl _ _) (Sub.mv 2 8002 (by kernel_rfl) (by decide))) (Sub.mv 3 8003 (by kernel_rfl) (by decide))) (Sub.mv 4 8004 (by kernel_rfl) (by decide))), ?_⟩
  refine KF.conv (fun w => .tup []) (fun w => [.box 73 [.int .i64 w.r.id, .int .i64 w.r.of_, .int .i64 w.r.role, .int .i64 w.r.commit, .int .i64 w.r.hard.term, .int .i64 w.r.hard.vote, .ref 1, .ref 7, .ref 8, .ref 9, .int .i64 w.was.id, .int .i64 w.was.of_, .int .i64 w.was.role, .int .i64 w.was.commit, .int .i64 w.was.hard.term, .int .i64 w.was.hard.vote, .sl false 6 (w.was.hard.log.map encEnt), .sl false 1 (w.was.yes.map encI), .sl false 1 (w.was.next.map encI), .sl false 1 (w.was.match_.map encI), .ref 5, .ref 10], .arr 88 6 (w.r.hard.log.map encEnt), .dead, .dead, .dead, .arr 93 10 (w.recs.map encRec), .dead, .arr 3 1 (w.r.yes.map encI), .arr 3 1 (w.r.next.map encI), .arr 3 1 (w.r.match_.map encI), .arr 76 17 (w.outs.map encOut)]) (show ((⟨⟨s.r.id, s.r.of_, 3, if s.r.of_ = 1 then (s.r.hard.log.length : Int) else s.r.commit, ⟨s.r.hard.term, s.r.hard.vote, s.r.hard.log⟩, [], repl ([(s.r.hard.log.length : Int) + 1]) s.r.of_, (List.replicate ((s.r.of_).toNat) 0).set (s.r.id).toNat (s.r.hard.log.length : Int)⟩, s.was, s.recs, s.outs ++ sendAll (⟨s.r.id, s.r.of_, 3, if s.r.of_ = 1 then (s.r.hard.log.length : Int) else s.r.commit, ⟨s.r.hard.term, s.r.hard.vote, s.r.hard.log⟩, [], repl ([(s.r.hard.log.length : Int) + 1]) s.r.of_, (List.replicate ((s.r.of_).toNat) 0).set (s.r.id).toNat (s.r.hard.log.length : Int)⟩)⟩ : Stepper)) = (({ s with r := leadR s.r, recs := s.recs ++ leadRecs s.r, outs := s.outs ++ sendAll (leadR s.r) } : Stepper)) from by simp [leadR, leadRecs, had, put, lead0, noneE, putRec, repl, hlt, and_true] <;> first | rfl | exact ⟨rfl, rfl⟩) ?_
  exact KF.m [(0, 0), (1, 1), (2, 2), (3, 3), (4, 4), (5, 5), (6, 6), (5001, 7), (1560, 8), (134, 9), (2120, 10)] []
set_option maxRecDepth 100000 in
set_option maxHeartbeats 4000000 in
theorem impl_stepper_ask_spec  (s : Stepper) (hz : SmallR s.r) (hf : 0 ≤ s.r.of_ ∧ s.r.of_ ≤ 5) (ho : s.outs.length ≤ 1000) : FnSpec Try.prog 42 [.ptr 0 0 0] [.box 73 [.int .i64 s.r.id, .int .i64 s.r.of_, .int .i64 s.r.role, .int .i64 s.r.commit, .int .i64 s.r.hard.term, .int .i64 s.r.hard.vote, .ref 1, .ref 2, .ref 3, .ref 4, .int .i64 s.was.id, .int .i64 s.was.of_, .int .i64 s.was.role, .int .i64 s.was.commit, .int .i64 s.was.hard.term, .int .i64 s.was.hard.vote, .sl false 6 (s.was.hard.log.map encEnt), .sl false 1 (s.was.yes.map encI), .sl false 1 (s.was.next.map encI), .sl false 1 (s.was.match_.map encI), .ref 5, .ref 6], .arr 88 6 (s.r.hard.log.map encEnt), .arr 3 1 (s.r.yes.map encI), .arr 3 1 (s.r.next.map encI), .arr 3 1 (s.r.match_.map encI), .arr 93 10 (s.recs.map encRec), .arr 76 17 (s.outs.map encOut)] (.tup []) [.box 73 [.int .i64 s.r.id, .int .i64 s.r.of_, .int .i64 s.r.role, .int .i64 s.r.commit, .int .i64 s.r.hard.term, .int .i64 s.r.hard.vote, .ref 1, .ref 2, .ref 3, .ref 4, .int .i64 s.was.id, .int .i64 s.was.of_, .int .i64 s.was.role, .int .i64 s.was.commit, .int .i64 s.was.hard.term, .int .i64 s.was.hard.vote, .sl false 6 (s.was.hard.log.map encEnt), .sl false 1 (s.was.yes.map encI), .sl false 1 (s.was.next.map encI), .sl false 1 (s.was.match_.map encI), .ref 5, .ref 7], .arr 88 6 (s.r.hard.log.map encEnt), .arr 3 1 (s.r.yes.map encI), .arr 3 1 (s.r.next.map encI), .arr 3 1 (s.r.match_.map encI), .arr 93 10 (s.recs.map encRec), .dead, .arr 76 17 ((s.outs ++ asks s.r).map encOut)] := by
  obtain ⟨z1, z2, z3, z4⟩ := id hz
  refine FnSpec.of 59 Try.func42 rfl Try.ntmps42 (by simp) (AW.weakK ?_)
  refine AW.r ?_
  refine At.a 6 ?_
  refine At.done rfl ?_
  refine AW.block ?_
  refine AW.weak (Sub.mv 6 7000 (by kernel_rfl) (by decide)) ?_
  refine AW.loopW (fun (x : Nat × List Out) => match x with | (k, o) => Go.Sy.mk [.ptr 0 0 0, .un, .un, .un, .un, .un, .un, .un, .int .i64 s.r.of_, .int .i64 (k : Int)] [(0, .box 73 [.int .i64 s.r.id, .int .i64 s.r.of_, .int .i64 s.r.role, .int .i64 s.r.commit, .int .i64 s.r.hard.term, .int .i64 s.r.hard.vote, .ref 1, .ref 2, .ref 3, .ref 4, .int .i64 s.was.id, .int .i64 s.was.of_, .int .i64 s.was.role, .int .i64 s.was.commit, .int .i64 s.was.hard.term, .int .i64 s.was.hard.vote, .sl false 6 (s.was.hard.log.map encEnt), .sl false 1 (s.was.yes.map encI), .sl false 1 (s.was.next.map encI), .sl false 1 (s.was.match_.map encI), .ref 5, .ref 7000]), (1, .arr 88 6 (s.r.hard.log.map encEnt)), (2, .arr 3 1 (s.r.yes.map encI)), (3, .arr 3 1 (s.r.next.map encI)), (4, .arr 3 1 (s.r.match_.map encI)), (5, .arr 93 10 (s.recs.map encRec)), (6, .dead), (7000, .arr 76 17 (o.map encOut))]) (fun (x : Nat × List Out) => match x with | (k, o) => (k : Int) ≤ s.r.of_ ∧ o = s.outs ++ askUp s.r k) (fun (x : Nat × List Out) => match x with | (k, o) => s.r.of_.toNat - k) (0, s.outs) ⟨by omega, by simp [askUp]⟩ (Sub.o [(0, 0), (1, 1), (2, 2), (3, 3), (4, 4), (5, 5), (6, 6), (7000, 7000)] [true, false, false, false, false, false, false, false, true, true]) ?_
  rintro ⟨k, o⟩ ⟨hk, hR⟩
  have hlen := askUp_len s.r k
  have hlen2 := congrArg List.length hR
  try rw [List.length_append] at hlen2
  refine AW.r ?_
  refine At.a 1 ?_
  refine At.done rfl ?_
  refine AW.seq ?_
  refine AW.cD ((k : Int) < s.r.of_) (fun h1 => ?_) (fun h1 => ?_)
  · skip
    refine AW.skip ?_
    refine AW.seq ?_
    refine AW.block ?_
    refine AW.r ?_
    refine At.a 2 ?_
    refine At.done rfl ?_
    refine AW.seq ?_
    refine AW.r ?_
    refine At.a 8 ?_
    by_cases h2 : (k : Int) = s.r.id
    · refine At.sB 19 ((k : Int) == s.r.id) true (sayET h2) ?_
      refine At.a 8 ?_
      refine At.done rfl ?_
      refine AW.cond true (by kernel_rfl) (fun _ => ?_) (fun h => by cases h)
      refine AW.exit ?_
      refine AW.region (At.start ?_)
      refine At.a 1 ?_
      refine At.sI 58 ((k : Int) + 1) (by omega) ?_
      refine At.a 1 ?_
      refine At.done rfl ?_
      exact ⟨(k + 1, o), ⟨by omega, by rw [hR, askUp, if_pos (by grind)]; simp⟩, (by simp only; omega), Sub.o [(0, 0), (1, 1), (2, 2), (3, 3), (4, 4), (5, 5), (6, 6), (7000, 7000)] [true, false, false, false, false, false, false, false, true, true]⟩
    · refine At.sB 19 ((k : Int) == s.r.id) false (sayEF h2) ?_
      refine At.a 6 ?_
      refine At.c (slices_Contains_spec  s.r.yes (k : Int) (by omega)) Try.call88 false [] [] [(2, 1, (s.r.yes.map encI))] ⟨rfl, ⟨3, (s.r.yes.map encI), by kernel_rfl, FrzIs.same (allP_encI _)⟩, trivial⟩ ?_
      refine At.a 1 ?_
      refine At.done rfl ?_
      refine AW.cB (hasI (k : Int) s.r.yes) (fun h3 => ?_) (fun h3 => ?_)
      · skip
        refine AW.exit ?_
        refine AW.region (At.start ?_)
        refine At.a 1 ?_
        refine At.sI 58 ((k : Int) + 1) (by omega) ?_
        refine At.a 1 ?_
        refine At.done rfl ?_
        exact ⟨(k + 1, o), ⟨by omega, by rw [hR, askUp, if_pos (by grind)]; simp⟩, (by simp only; omega), Sub.o [(0, 0), (1, 1), (2, 2), (3, 3), (4, 4), (5, 5), (6, 6), (7000, 7000)] [true, false, false, false, false, false, false, false, true, true]⟩
      · skip
        refine AW.skip ?_
        refine AW.r ?_
        refine At.a 1 ?_
        refine At.c (impl_stepper_message_spec  (⟨s.r, s.was, s.recs, o⟩ : Stepper) 1 ) Try.call74 true [(0, 0), (1, 1), (2, 2), (3, 3), (4, 4), (5, 5), (7000, 6)] [(1580, 7)] [] trivial ?_
        refine At.a 2 ?_
        refine At.done rfl ?_
        refine AW.seq ?_
        refine AW.regionD Try_mix (At.start ?_)
        refine At.a 7 ?_
        refine At.sL 36 encEnt s.r.hard.log ?_
        refine At.a 6 ?_
        refine At.c (impl_lastTerm_spec  s.r.hard.log (by omega)) Try.call73 false [] [] [(1, 6, (s.r.hard.log.map encEnt))] ⟨rfl, ⟨88, (s.r.hard.log.map encEnt), by kernel_rfl, FrzIs.same (allP_encEnt _)⟩, trivial⟩ ?_
        refine At.a 4 ?_
        refine At.done rfl ⟨by kernel_rfl, ?_⟩
        refine AW.regionD Try_mix (At.start ?_)
        refine At.a 8 ?_
        refine At.litK (t := 29) (d := 54) (e := 76) (es := 17) (bytes := 168) (n := 1) (parts := #[(0, .tmp 53)]) (88, 6) 154 [1580] [.int .i64 (k : Int), .int .i64 1, .int .i64 s.r.id, .int .i64 s.r.hard.term, .int .i64 (s.r.hard.log.length : Int), .int .i64 (lastT s.r.hard.log), .int .i64 0, .bool false, .int .i64 0, .int .i64 0, .str (⟨#[]⟩), .int .i64 0, .int .i64 0, .int .i64 0, .int .i64 0, .str (⟨#[]⟩), .ref 1580] [.int .i64 (k : Int), .int .i64 1, .int .i64 s.r.id, .int .i64 s.r.hard.term, .int .i64 (s.r.hard.log.length : Int), .int .i64 (lastT s.r.hard.log), .int .i64 0, .bool false, .int .i64 0, .int .i64 0, .str (⟨#[]⟩), .int .i64 0, .int .i64 0, .int .i64 0, .int .i64 0, .str (⟨#[]⟩), .own 88 6 []] [.int .i64 0, .int .i64 0, .int .i64 0, .int .i64 0, .int .i64 0, .int .i64 0, .int .i64 0, .bool false, .int .i64 0, .int .i64 0, .str (⟨#[]⟩ : ByteArray), .int .i64 0, .int .i64 0, .int .i64 0, .int .i64 0, .str (⟨#[]⟩ : ByteArray), .nil] [.agg [.int .i64 (k : Int), .int .i64 1, .int .i64 s.r.id, .int .i64 s.r.hard.term, .int .i64 (s.r.hard.log.length : Int), .int .i64 (lastT s.r.hard.log), .int .i64 0, .bool false, .int .i64 0, .int .i64 0, .str (⟨#[]⟩), .int .i64 0, .int .i64 0, .int .i64 0, .int .i64 0, .str (⟨#[]⟩), .own 88 6 []]] [(88, 6, [])] (by kernel_rfl) (by kernel_rfl) (by kernel_rfl) (by kernel_rfl) (by kernel_rfl) (by intro p hp; simp only [List.mem_cons, List.not_mem_nil, or_false] at hp; subst hp; all_goals first | exact flatEnts | (intro x hx; cases hx)) (by kernel_rfl) ?_
        refine At.append (t := 29) (d := 55) (e := 76) (es := 17) (bytes := 168) (s := .tmp 50) (x := .tmp 54) (S := .ref 7000) (T := .ref 154) (xs := (o.map encOut)) (ys := (([(⟨(k : Int), ⟨1, s.r.id, s.r.hard.term, (s.r.hard.log.length : Int), lastT s.r.hard.log, 0, false, 0, 0, ⟨#[]⟩, ⟨0, 0, 0, 0, ⟨#[]⟩⟩, []⟩⟩ : Out)]).map encOut)) 155 [7000] [154] ((o ++ ([(⟨(k : Int), ⟨1, s.r.id, s.r.hard.term, (s.r.hard.log.length : Int), lastT s.r.hard.log, 0, false, 0, 0, ⟨#[]⟩, ⟨0, 0, 0, 0, ⟨#[]⟩⟩, []⟩⟩ : Out)])).map encOut) (by kernel_rfl) (by kernel_rfl) (by kernel_rfl) (by kernel_rfl) ⟨by kernel_rfl, rfl⟩ ⟨by kernel_rfl, .inr rfl⟩ (by kernel_rfl) (by kernel_rfl) (by simp) (by simp only [List.length_map, List.length_append, List.length_take, List.length_drop, List.length_replicate, List.length_set, List.length_cons, List.length_nil]; omega) (by simp only [List.length_map, List.length_append, List.length_take, List.length_drop, List.length_replicate, List.length_set, List.length_cons, List.length_nil]; omega) ?_
        refine At.a 3 ?_
        refine At.done rfl ⟨by kernel_rfl, ?_⟩
        refine AW.region (At.start ?_)
        refine At.a 1 ?_
        refine At.sI 58 ((k : Int) + 1) (by omega) ?_
        refine At.a 1 ?_
        refine At.done rfl ?_
        exact ⟨(k + 1, (o ++ ([(⟨(k : Int), ⟨1, s.r.id, s.r.hard.term, (s.r.hard.log.length : Int), lastT s.r.hard.log, 0, false, 0, 0, ⟨#[]⟩, ⟨0, 0, 0, 0, ⟨#[]⟩⟩, []⟩⟩ : Out)]))), ⟨by omega, by rw [hR, askUp, if_neg (by grind)]; (try rw [termAt_end]); first | rfl | exact List.append_assoc _ _ _⟩, (by simp only; omega), Sub.o [(0, 0), (1, 1), (2, 2), (3, 3), (4, 4), (5, 5), (6, 6), (155, 7000)] [true, false, false, false, false, false, false, false, true, true]⟩
  · skip
    refine AW.exit ?_
    refine ⟨_, Sub.refl _ _, ?_⟩
    refine KF.conv (fun w => .tup []) (fun w => [.box 73 [.int .i64 w.r.id, .int .i64 w.r.of_, .int .i64 w.r.role, .int .i64 w.r.commit, .int .i64 w.r.hard.term, .int .i64 w.r.hard.vote, .ref 1, .ref 2, .ref 3, .ref 4, .int .i64 w.was.id, .int .i64 w.was.of_, .int .i64 w.was.role, .int .i64 w.was.commit, .int .i64 w.was.hard.term, .int .i64 w.was.hard.vote, .sl false 6 (w.was.hard.log.map encEnt), .sl false 1 (w.was.yes.map encI), .sl false 1 (w.was.next.map encI), .sl false 1 (w.was.match_.map encI), .ref 5, .ref 7], .arr 88 6 (w.r.hard.log.map encEnt), .arr 3 1 (w.r.yes.map encI), .arr 3 1 (w.r.next.map encI), .arr 3 1 (w.r.match_.map encI), .arr 93 10 (w.recs.map encRec), .dead, .arr 76 17 (w.outs.map encOut)]) (show ((⟨s.r, s.was, s.recs, o⟩ : Stepper)) = (({ s with outs := s.outs ++ asks s.r } : Stepper)) from by rw [hR, asks, show s.r.of_.toNat = k from by omega]) ?_
    exact KF.m [(0, 0), (1, 1), (2, 2), (3, 3), (4, 4), (5, 5), (6, 6), (7000, 7)] []
set_option maxRecDepth 100000 in
set_option maxHeartbeats 4000000 in
theorem impl_stepper_end_spec  (s : Stepper) (hr : s.recs.length ≤ 1048576) : FnSpec Try.prog 59 [.ptr 0 0 0] [.box 73 [.int .i64 s.r.id, .int .i64 s.r.of_, .int .i64 s.r.role, .int .i64 s.r.commit, .int .i64 s.r.hard.term, .int .i64 s.r.hard.vote, .ref 1, .ref 2, .ref 3, .ref 4, .int .i64 s.was.id, .int .i64 s.was.of_, .int .i64 s.was.role, .int .i64 s.was.commit, .int .i64 s.was.hard.term, .int .i64 s.was.hard.vote, .sl false 6 (s.was.hard.log.map encEnt), .sl false 1 (s.was.yes.map encI), .sl false 1 (s.was.next.map encI), .sl false 1 (s.was.match_.map encI), .ref 5, .ref 6], .arr 88 6 (s.r.hard.log.map encEnt), .arr 3 1 (s.r.yes.map encI), .arr 3 1 (s.r.next.map encI), .arr 3 1 (s.r.match_.map encI), .arr 93 10 (s.recs.map encRec), .arr 76 17 (s.outs.map encOut)] (.tup [.agg [.int .i64 s.r.id, .int .i64 s.r.of_, .int .i64 s.r.role, .int .i64 s.r.commit, .int .i64 s.r.hard.term, .int .i64 s.r.hard.vote, .ref 1, .ref 2, .ref 3, .ref 4], .ref 7, .ref 6]) [.box 73 [.int .i64 s.r.id, .int .i64 s.r.of_, .int .i64 s.r.role, .int .i64 s.r.commit, .int .i64 s.r.hard.term, .int .i64 s.r.hard.vote, .ref 1, .ref 2, .ref 3, .ref 4, .int .i64 s.was.id, .int .i64 s.was.of_, .int .i64 s.was.role, .int .i64 s.was.commit, .int .i64 s.was.hard.term, .int .i64 s.was.hard.vote, .sl false 6 (s.was.hard.log.map encEnt), .sl false 1 (s.was.yes.map encI), .sl false 1 (s.was.next.map encI), .sl false 1 (s.was.match_.map encI), .un, .ref 6], .arr 88 6 (s.r.hard.log.map encEnt), .arr 3 1 (s.r.yes.map encI), .arr 3 1 (s.r.next.map encI), .arr 3 1 (s.r.match_.map encI), .dead, .arr 76 17 (s.outs.map encOut), .arr 93 10 ((endRecs s).map encRec)] := by
  refine FnSpec.of 60 Try.func59 rfl Try.ntmps59 (by simp) (AW.weakK ?_)
  refine AW.r ?_
  refine At.a 3 ?_
  refine At.done rfl ?_
  refine AW.seq ?_
  refine AW.weak (Sub.nils [⟨true, 102, some 6, 5001, 88, 6⟩, ⟨true, 102, some 7, 5002, 3, 1⟩, ⟨true, 102, some 8, 5003, 3, 1⟩, ⟨true, 102, some 9, 5004, 3, 1⟩] (by kernel_rfl)) ?_
  refine AW.regionD Try_mix (At.start ?_)
  refine At.a 14 ?_
  refine At.done rfl ⟨by kernel_rfl, ?_⟩
  refine AW.seq ?_
  refine AW.r ?_
  refine At.a 6 ?_
  by_cases h1 : s.r.hard.term = s.was.hard.term
  · refine At.sB 22 (s.r.hard.term == s.was.hard.term) true (sayET h1) ?_
    refine At.a 6 ?_
    refine At.done rfl ?_
    refine AW.cE s.r.hard.vote s.was.hard.vote (fun h2 => ?_) (fun h2 => ?_)
    · skip
      refine AW.seq ?_
      refine AW.regionD Try_mix (At.start ?_)
      refine At.a 15 ?_
      refine At.done rfl ⟨by kernel_rfl, ?_⟩
      refine AW.ret ?_
      refine ⟨_, (Sub.trans (Sub.trans (Sub.refl _ _) (Sub.mv 5 8005 (by kernel_rfl) (by decide))) (Sub.un1 0 20 73 [.int .i64 s.r.id, .int .i64 s.r.of_, .int .i64 s.r.role, .int .i64 s.r.commit, .int .i64 s.r.hard.term, .int .i64 s.r.hard.vote, .ref 1, .ref 2, .ref 3, .ref 4, .int .i64 s.was.id, .int .i64 s.was.of_, .int .i64 s.was.role, .int .i64 s.was.commit, .int .i64 s.was.hard.term, .int .i64 s.was.hard.vote, .sl false 6 (s.was.hard.log.map encEnt), .sl false 1 (s.was.yes.map encI), .sl false 1 (s.was.next.map encI), .sl false 1 (s.was.match_.map encI), .ref 8005, .ref 6] (by kernel_rfl))), ?_⟩
      refine KF.conv (fun w => .tup [.agg [.int .i64 s.r.id, .int .i64 s.r.of_, .int .i64 s.r.role, .int .i64 s.r.commit, .int .i64 s.r.hard.term, .int .i64 s.r.hard.vote, .ref 1, .ref 2, .ref 3, .ref 4], .ref 7, .ref 6]) (fun w => [.box 73 [.int .i64 s.r.id, .int .i64 s.r.of_, .int .i64 s.r.role, .int .i64 s.r.commit, .int .i64 s.r.hard.term, .int .i64 s.r.hard.vote, .ref 1, .ref 2, .ref 3, .ref 4, .int .i64 s.was.id, .int .i64 s.was.of_, .int .i64 s.was.role, .int .i64 s.was.commit, .int .i64 s.was.hard.term, .int .i64 s.was.hard.vote, .sl false 6 (s.was.hard.log.map encEnt), .sl false 1 (s.was.yes.map encI), .sl false 1 (s.was.next.map encI), .sl false 1 (s.was.match_.map encI), .un, .ref 6], .arr 88 6 (s.r.hard.log.map encEnt), .arr 3 1 (s.r.yes.map encI), .arr 3 1 (s.r.next.map encI), .arr 3 1 (s.r.match_.map encI), .dead, .arr 76 17 (s.outs.map encOut), .arr 93 10 (w.map encRec)]) (show (s.recs) = (endRecs s) from by simp [endRecs, voteRec, h1, h2]; try rfl) ?_
      exact KF.m [(0, 0), (1, 1), (2, 2), (3, 3), (4, 4), (5, 5), (6, 6), (8005, 7)] [.agg [.int .i64 s.r.id, .int .i64 s.r.of_, .int .i64 s.r.role, .int .i64 s.r.commit, .int .i64 s.r.hard.term, .int .i64 s.r.hard.vote, .ref 1, .ref 2, .ref 3, .ref 4], .ref 8005, .ref 6]
    · skip
      refine AW.skip ?_
      refine AW.seq ?_
      refine AW.regionD Try_mix (At.start ?_)
      refine At.a 9 ?_
      refine At.litK (t := 45) (d := 50) (e := 93) (es := 10) (bytes := 88) (n := 1) (parts := #[(0, .tmp 49)]) (88, 6) 150 [] [.int .i64 1, .int .i64 s.r.hard.term, .int .i64 s.r.hard.vote, .int .i64 0, .int .i64 0, .int .i64 0, .int .i64 0, .int .i64 0, .int .i64 0, .str (⟨#[]⟩ : ByteArray)] [.int .i64 1, .int .i64 s.r.hard.term, .int .i64 s.r.hard.vote, .int .i64 0, .int .i64 0, .int .i64 0, .int .i64 0, .int .i64 0, .int .i64 0, .str (⟨#[]⟩ : ByteArray)] [.int .i64 0, .int .i64 0, .int .i64 0, .int .i64 0, .int .i64 0, .int .i64 0, .int .i64 0, .int .i64 0, .int .i64 0, .str (⟨#[]⟩ : ByteArray)] [.agg [.int .i64 1, .int .i64 s.r.hard.term, .int .i64 s.r.hard.vote, .int .i64 0, .int .i64 0, .int .i64 0, .int .i64 0, .int .i64 0, .int .i64 0, .str (⟨#[]⟩ : ByteArray)]] [] (by kernel_rfl) (by kernel_rfl) (by kernel_rfl) (by kernel_rfl) rfl (fun p hp => by cases hp) (by kernel_rfl) ?_
      refine At.a 4 ?_
      refine At.append (t := 45) (d := 55) (e := 93) (es := 10) (bytes := 88) (s := .tmp 50) (x := .tmp 54) (S := .ref 150) (T := .ref 5) (xs := (([(⟨1, s.r.hard.term, s.r.hard.vote, 0, ⟨0, ⟨0, 0, 0, 0, (⟨#[]⟩ : ByteArray)⟩⟩⟩ : Rec)]).map encRec)) (ys := (s.recs.map encRec)) 155 [150] [] ((([(⟨1, s.r.hard.term, s.r.hard.vote, 0, ⟨0, ⟨0, 0, 0, 0, (⟨#[]⟩ : ByteArray)⟩⟩⟩ : Rec)]) ++ s.recs).map encRec) (by kernel_rfl) (by kernel_rfl) (by kernel_rfl) (by kernel_rfl) ⟨by kernel_rfl, rfl⟩ ⟨by kernel_rfl, .inl ⟨rfl, (allP_encRec _)⟩⟩ (by kernel_rfl) (by kernel_rfl) (by simp) (by simp only [List.length_map, List.length_append, List.length_take, List.length_drop, List.length_replicate, List.length_set, List.length_cons, List.length_nil]; omega) (by simp only [List.length_map, List.length_append, List.length_take, List.length_drop, List.length_replicate, List.length_set, List.length_cons, List.length_nil]; omega) ?_
      refine At.a 7 ?_
      refine At.done rfl ⟨by kernel_rfl, ?_⟩
      refine AW.ret ?_
      refine ⟨_, (Sub.trans (Sub.trans (Sub.refl _ _) (Sub.mv 5 8005 (by kernel_rfl) (by decide))) (Sub.un1 0 20 73 [.int .i64 s.r.id, .int .i64 s.r.of_, .int .i64 s.r.role, .int .i64 s.r.commit, .int .i64 s.r.hard.term, .int .i64 s.r.hard.vote, .ref 1, .ref 2, .ref 3, .ref 4, .int .i64 s.was.id, .int .i64 s.was.of_, .int .i64 s.was.role, .int .i64 s.was.commit, .int .i64 s.was.hard.term, .int .i64 s.was.hard.vote, .sl false 6 (s.was.hard.log.map encEnt), .sl false 1 (s.was.yes.map encI), .sl false 1 (s.was.next.map encI), .sl false 1 (s.was.match_.map encI), .ref 8005, .ref 6] (by kernel_rfl))), ?_⟩
      refine KF.conv (fun w => .tup [.agg [.int .i64 s.r.id, .int .i64 s.r.of_, .int .i64 s.r.role, .int .i64 s.r.commit, .int .i64 s.r.hard.term, .int .i64 s.r.hard.vote, .ref 1, .ref 2, .ref 3, .ref 4], .ref 7, .ref 6]) (fun w => [.box 73 [.int .i64 s.r.id, .int .i64 s.r.of_, .int .i64 s.r.role, .int .i64 s.r.commit, .int .i64 s.r.hard.term, .int .i64 s.r.hard.vote, .ref 1, .ref 2, .ref 3, .ref 4, .int .i64 s.was.id, .int .i64 s.was.of_, .int .i64 s.was.role, .int .i64 s.was.commit, .int .i64 s.was.hard.term, .int .i64 s.was.hard.vote, .sl false 6 (s.was.hard.log.map encEnt), .sl false 1 (s.was.yes.map encI), .sl false 1 (s.was.next.map encI), .sl false 1 (s.was.match_.map encI), .un, .ref 6], .arr 88 6 (s.r.hard.log.map encEnt), .arr 3 1 (s.r.yes.map encI), .arr 3 1 (s.r.next.map encI), .arr 3 1 (s.r.match_.map encI), .dead, .arr 76 17 (s.outs.map encOut), .arr 93 10 (w.map encRec)]) (show (([(⟨1, s.r.hard.term, s.r.hard.vote, 0, ⟨0, ⟨0, 0, 0, 0, (⟨#[]⟩ : ByteArray)⟩⟩⟩ : Rec)]) ++ s.recs) = (endRecs s) from by simp [endRecs, voteRec, h1, h2]; try rfl) ?_
      exact KF.m [(0, 0), (1, 1), (2, 2), (3, 3), (4, 4), (5, 5), (6, 6), (155, 7)] [.agg [.int .i64 s.r.id, .int .i64 s.r.of_, .int .i64 s.r.role, .int .i64 s.r.commit, .int .i64 s.r.hard.term, .int .i64 s.r.hard.vote, .ref 1, .ref 2, .ref 3, .ref 4], .ref 155, .ref 6]
  · refine At.sB 22 (s.r.hard.term == s.was.hard.term) false (sayEF h1) ?_
    refine At.a 6 ?_
    refine At.done rfl ?_
    refine AW.cond false (by kernel_rfl) (fun h => by cases h) (fun _ => ?_)
    refine AW.skip ?_
    refine AW.seq ?_
    refine AW.regionD Try_mix (At.start ?_)
    refine At.a 9 ?_
    refine At.litK (t := 45) (d := 50) (e := 93) (es := 10) (bytes := 88) (n := 1) (parts := #[(0, .tmp 49)]) (88, 6) 150 [] [.int .i64 1, .int .i64 s.r.hard.term, .int .i64 s.r.hard.vote, .int .i64 0, .int .i64 0, .int .i64 0, .int .i64 0, .int .i64 0, .int .i64 0, .str (⟨#[]⟩ : ByteArray)] [.int .i64 1, .int .i64 s.r.hard.term, .int .i64 s.r.hard.vote, .int .i64 0, .int .i64 0, .int .i64 0, .int .i64 0, .int .i64 0, .int .i64 0, .str (⟨#[]⟩ : ByteArray)] [.int .i64 0, .int .i64 0, .int .i64 0, .int .i64 0, .int .i64 0, .int .i64 0, .int .i64 0, .int .i64 0, .int .i64 0, .str (⟨#[]⟩ : ByteArray)] [.agg [.int .i64 1, .int .i64 s.r.hard.term, .int .i64 s.r.hard.vote, .int .i64 0, .int .i64 0, .int .i64 0, .int .i64 0, .int .i64 0, .int .i64 0, .str (⟨#[]⟩ : ByteArray)]] [] (by kernel_rfl) (by kernel_rfl) (by kernel_rfl) (by kernel_rfl) rfl (fun p hp => by cases hp) (by kernel_rfl) ?_
    refine At.a 4 ?_
    refine At.append (t := 45) (d := 55) (e := 93) (es := 10) (bytes := 88) (s := .tmp 50) (x := .tmp 54) (S := .ref 150) (T := .ref 5) (xs := (([(⟨1, s.r.hard.term, s.r.hard.vote, 0, ⟨0, ⟨0, 0, 0, 0, (⟨#[]⟩ : ByteArray)⟩⟩⟩ : Rec)]).map encRec)) (ys := (s.recs.map encRec)) 155 [150] [] ((([(⟨1, s.r.hard.term, s.r.hard.vote, 0, ⟨0, ⟨0, 0, 0, 0, (⟨#[]⟩ : ByteArray)⟩⟩⟩ : Rec)]) ++ s.recs).map encRec) (by kernel_rfl) (by kernel_rfl) (by kernel_rfl) (by kernel_rfl) ⟨by kernel_rfl, rfl⟩ ⟨by kernel_rfl, .inl ⟨rfl, (allP_encRec _)⟩⟩ (by kernel_rfl) (by kernel_rfl) (by simp) (by simp only [List.length_map, List.length_append, List.length_take, List.length_drop, List.length_replicate, List.length_set, List.length_cons, List.length_nil]; omega) (by simp only [List.length_map, List.length_append, List.length_take, List.length_drop, List.length_replicate, List.length_set, List.length_cons, List.length_nil]; omega) ?_
    refine At.a 7 ?_
    refine At.done rfl ⟨by kernel_rfl, ?_⟩
    refine AW.ret ?_
    refine ⟨_, (Sub.trans (Sub.trans (Sub.refl _ _) (Sub.mv 5 8005 (by kernel_rfl) (by decide))) (Sub.un1 0 20 73 [.int .i64 s.r.id, .int .i64 s.r.of_, .int .i64 s.r.role, .int .i64 s.r.commit, .int .i64 s.r.hard.term, .int .i64 s.r.hard.vote, .ref 1, .ref 2, .ref 3, .ref 4, .int .i64 s.was.id, .int .i64 s.was.of_, .int .i64 s.was.role, .int .i64 s.was.commit, .int .i64 s.was.hard.term, .int .i64 s.was.hard.vote, .sl false 6 (s.was.hard.log.map encEnt), .sl false 1 (s.was.yes.map encI), .sl false 1 (s.was.next.map encI), .sl false 1 (s.was.match_.map encI), .ref 8005, .ref 6] (by kernel_rfl))), ?_⟩
    refine KF.conv (fun w => .tup [.agg [.int .i64 s.r.id, .int .i64 s.r.of_, .int .i64 s.r.role, .int .i64 s.r.commit, .int .i64 s.r.hard.term, .int .i64 s.r.hard.vote, .ref 1, .ref 2, .ref 3, .ref 4], .ref 7, .ref 6]) (fun w => [.box 73 [.int .i64 s.r.id, .int .i64 s.r.of_, .int .i64 s.r.role, .int .i64 s.r.commit, .int .i64 s.r.hard.term, .int .i64 s.r.hard.vote, .ref 1, .ref 2, .ref 3, .ref 4, .int .i64 s.was.id, .int .i64 s.was.of_, .int .i64 s.was.role, .int .i64 s.was.commit, .int .i64 s.was.hard.term, .int .i64 s.was.hard.vote, .sl false 6 (s.was.hard.log.map encEnt), .sl false 1 (s.was.yes.map encI), .sl false 1 (s.was.next.map encI), .sl false 1 (s.was.match_.map encI), .un, .ref 6], .arr 88 6 (s.r.hard.log.map encEnt), .arr 3 1 (s.r.yes.map encI), .arr 3 1 (s.r.next.map encI), .arr 3 1 (s.r.match_.map encI), .dead, .arr 76 17 (s.outs.map encOut), .arr 93 10 (w.map encRec)]) (show (([(⟨1, s.r.hard.term, s.r.hard.vote, 0, ⟨0, ⟨0, 0, 0, 0, (⟨#[]⟩ : ByteArray)⟩⟩⟩ : Rec)]) ++ s.recs) = (endRecs s) from by simp [endRecs, voteRec, h1]; try rfl) ?_
    exact KF.m [(0, 0), (1, 1), (2, 2), (3, 3), (4, 4), (5, 5), (6, 6), (155, 7)] [.agg [.int .i64 s.r.id, .int .i64 s.r.of_, .int .i64 s.r.role, .int .i64 s.r.commit, .int .i64 s.r.hard.term, .int .i64 s.r.hard.vote, .ref 1, .ref 2, .ref 3, .ref 4], .ref 155, .ref 6]
set_option maxRecDepth 100000 in
set_option maxHeartbeats 4000000 in
theorem impl_RaftStand_spec  (r : Raft) (hz : SmallR r) : FnSpec Try.prog 25 [.agg [.int .i64 r.id, .int .i64 r.of_, .int .i64 r.role, .int .i64 r.commit, .int .i64 r.hard.term, .int .i64 r.hard.vote, .sl false 6 (r.hard.log.map encEnt), .sl false 1 (r.yes.map encI), .sl false 1 (r.next.map encI), .sl false 1 (r.match_.map encI)]] [] (.tup [.agg [.int .i64 (((stands r).1).id), .int .i64 (((stands r).1).of_), .int .i64 (((stands r).1).role), .int .i64 (((stands r).1).commit), .int .i64 (((stands r).1).hard.term), .int .i64 (((stands r).1).hard.vote), .ref 0, .ref 1, .ref 2, .ref 3], .ref 4, .ref 5]) [.arr 88 6 ((((stands r).1).hard.log).map encEnt), .arr 3 1 ((((stands r).1).yes).map encI), .arr 3 1 ((((stands r).1).next).map encI), .arr 3 1 ((((stands r).1).match_).map encI), .arr 93 10 (((stands r).2.1).map encRec), .arr 76 17 (((stands r).2.2).map encOut)] := by
  obtain ⟨z1, z2, z3, z4⟩ := id hz
  refine FnSpec.of 66 Try.func25 rfl Try.ntmps25 (by simp) (AW.weakK ?_)
  by_cases hok : raftOk r = true
  · skip
    have hokn := raftOk1_nums (raftOk_1 hok)
    refine AW.r ?_
    refine At.a 4 ?_
    refine At.done rfl ?_
    refine AW.seq ?_
    refine AW.weak (Sub.nils [⟨true, 102, some 6, 5001, 88, 6⟩, ⟨true, 102, some 7, 5002, 3, 1⟩, ⟨true, 102, some 8, 5003, 3, 1⟩, ⟨true, 102, some 9, 5004, 3, 1⟩] (by kernel_rfl)) ?_
    refine AW.region (At.start ?_)
    refine At.a 1 ?_
    refine At.c (impl_stepOf_spec  r (by exact hz)) Try.call39 true [] [(1140, 0), (1141, 1), (1142, 2), (1143, 3), (1144, 4), (1145, 5), (1146, 6)] [] trivial ?_
    refine At.a 1 ?_
    refine At.done rfl ?_
    refine AW.seq ?_
    refine AW.r ?_
    refine At.a 1 ?_
    refine At.c (impl_RaftOk_spec  r (by exact hz)) Try.call40 true [] [] [] trivial ?_
    refine At.a 2 ?_
    refine At.sB 11 (!(raftOk r)) false (sayB (by rw [show (raftOk r) = true from hok]; rfl)) ?_
    refine At.a 5 ?_
    by_cases h1 : r.role = 3
    · refine At.sB 16 (r.role == 3) true (sayET h1) ?_
      refine At.a 5 ?_
      refine At.done rfl ?_
      refine AW.cond true (by kernel_rfl) (fun _ => ?_) (fun h => by cases h)
      refine AW.r ?_
      refine At.a 1 ?_
      refine At.c (impl_stepper_none_T_spec  (⟨r, r, [], []⟩ : Stepper) (by exact hz) hok) Try.call56 true [(1140, 0), (1141, 1), (1142, 2), (1143, 3), (1144, 4), (1145, 5), (1146, 6)] [(1460, 7), (1461, 8), (1462, 9), (1463, 10), (1464, 11), (1465, 12)] [] trivial ?_
      refine At.a 6 ?_
      refine At.done rfl ?_
      refine AW.ret ?_
      refine ⟨_, Sub.refl _ _, ?_⟩
      refine KF.conv (fun w => .tup [.agg [.int .i64 w.id, .int .i64 w.of_, .int .i64 w.role, .int .i64 w.commit, .int .i64 w.hard.term, .int .i64 w.hard.vote, .ref 0, .ref 1, .ref 2, .ref 3], .ref 4, .ref 5]) (fun w => [.arr 88 6 (w.hard.log.map encEnt), .arr 3 1 (w.yes.map encI), .arr 3 1 (w.next.map encI), .arr 3 1 (w.match_.map encI), .arr 93 10 (((stands r).2.1).map encRec), .arr 76 17 (((stands r).2.2).map encOut)]) (show (r) = ((stands r).1) from by have q : ¬ (raftOk r = true ∧ r.role ≠ 3 ∧ r.hard.term ≠ 1000000000) := (by rintro ⟨_, q1, q2⟩; omega); rw [stands, if_neg q]; (try simp [same, hok])) ?_
      refine KF.conv (fun w => .tup [.agg [.int .i64 r.id, .int .i64 r.of_, .int .i64 r.role, .int .i64 r.commit, .int .i64 r.hard.term, .int .i64 r.hard.vote, .ref 0, .ref 1, .ref 2, .ref 3], .ref 4, .ref 5]) (fun w => [.arr 88 6 (r.hard.log.map encEnt), .arr 3 1 (r.yes.map encI), .arr 3 1 (r.next.map encI), .arr 3 1 (r.match_.map encI), .arr 93 10 (w.map encRec), .arr 76 17 (((stands r).2.2).map encOut)]) (show ([]) = ((stands r).2.1) from by have q : ¬ (raftOk r = true ∧ r.role ≠ 3 ∧ r.hard.term ≠ 1000000000) := (by rintro ⟨_, q1, q2⟩; omega); rw [stands, if_neg q]; (try simp [same, hok])) ?_
      refine KF.conv (fun w => .tup [.agg [.int .i64 r.id, .int .i64 r.of_, .int .i64 r.role, .int .i64 r.commit, .int .i64 r.hard.term, .int .i64 r.hard.vote, .ref 0, .ref 1, .ref 2, .ref 3], .ref 4, .ref 5]) (fun w => [.arr 88 6 (r.hard.log.map encEnt), .arr 3 1 (r.yes.map encI), .arr 3 1 (r.next.map encI), .arr 3 1 (r.match_.map encI), .arr 93 10 [], .arr 76 17 (w.map encOut)]) (show ([]) = ((stands r).2.2) from by have q : ¬ (raftOk r = true ∧ r.role ≠ 3 ∧ r.hard.term ≠ 1000000000) := (by rintro ⟨_, q1, q2⟩; omega); rw [stands, if_neg q]; (try simp [same, hok])) ?_
      exact KF.m [(1460, 0), (1461, 1), (1462, 2), (1463, 3), (1464, 4), (1465, 5)] [.agg [.int .i64 r.id, .int .i64 r.of_, .int .i64 r.role, .int .i64 r.commit, .int .i64 r.hard.term, .int .i64 r.hard.vote, .ref 1460, .ref 1461, .ref 1462, .ref 1463], .ref 1464, .ref 1465]
    · refine At.sB 16 (r.role == 3) false (sayEF h1) ?_
      refine At.a 5 ?_
      refine At.done rfl ?_
      refine AW.cD (r.hard.term ≥ 1000000000) (fun h2 => ?_) (fun h2 => ?_)
      · skip
        refine AW.r ?_
        refine At.a 1 ?_
        refine At.c (impl_stepper_none_T_spec  (⟨r, r, [], []⟩ : Stepper) (by exact hz) hok) Try.call56 true [(1140, 0), (1141, 1), (1142, 2), (1143, 3), (1144, 4), (1145, 5), (1146, 6)] [(1460, 7), (1461, 8), (1462, 9), (1463, 10), (1464, 11), (1465, 12)] [] trivial ?_
        refine At.a 6 ?_
        refine At.done rfl ?_
        refine AW.ret ?_
        refine ⟨_, Sub.refl _ _, ?_⟩
        refine KF.conv (fun w => .tup [.agg [.int .i64 w.id, .int .i64 w.of_, .int .i64 w.role, .int .i64 w.commit, .int .i64 w.hard.term, .int .i64 w.hard.vote, .ref 0, .ref 1, .ref 2, .ref 3], .ref 4, .ref 5]) (fun w => [.arr 88 6 (w.hard.log.map encEnt), .arr 3 1 (w.yes.map encI), .arr 3 1 (w.next.map encI), .arr 3 1 (w.match_.map encI), .arr 93 10 (((stands r).2.1).map encRec), .arr 76 17 (((stands r).2.2).map encOut)]) (show (r) = ((stands r).1) from by have q : ¬ (raftOk r = true ∧ r.role ≠ 3 ∧ r.hard.term ≠ 1000000000) := (by rintro ⟨_, q1, q2⟩; omega); rw [stands, if_neg q]; (try simp [same, hok])) ?_
        refine KF.conv (fun w => .tup [.agg [.int .i64 r.id, .int .i64 r.of_, .int .i64 r.role, .int .i64 r.commit, .int .i64 r.hard.term, .int .i64 r.hard.vote, .ref 0, .ref 1, .ref 2, .ref 3], .ref 4, .ref 5]) (fun w => [.arr 88 6 (r.hard.log.map encEnt), .arr 3 1 (r.yes.map encI), .arr 3 1 (r.next.map encI), .arr 3 1 (r.match_.map encI), .arr 93 10 (w.map encRec), .arr 76 17 (((stands r).2.2).map encOut)]) (show ([]) = ((stands r).2.1) from by have q : ¬ (raftOk r = true ∧ r.role ≠ 3 ∧ r.hard.term ≠ 1000000000) := (by rintro ⟨_, q1, q2⟩; omega); rw [stands, if_neg q]; (try simp [same, hok])) ?_
        refine KF.conv (fun w => .tup [.agg [.int .i64 r.id, .int .i64 r.of_, .int .i64 r.role, .int .i64 r.commit, .int .i64 r.hard.term, .int .i64 r.hard.vote, .ref 0, .ref 1, .ref 2, .ref 3], .ref 4, .ref 5]) (fun w => [.arr 88 6 (r.hard.log.map encEnt), .arr 3 1 (r.yes.map encI), .arr 3 1 (r.next.map encI), .arr 3 1 (r.match_.map encI), .arr 93 10 [], .arr 76 17 (w.map encOut)]) (show ([]) = ((stands r).2.2) from by have q : ¬ (raftOk r = true ∧ r.role ≠ 3 ∧ r.hard.term ≠ 1000000000) := (by rintro ⟨_, q1, q2⟩; omega); rw [stands, if_neg q]; (try simp [same, hok])) ?_
        exact KF.m [(1460, 0), (1461, 1), (1462, 2), (1463, 3), (1464, 4), (1465, 5)] [.agg [.int .i64 r.id, .int .i64 r.of_, .int .i64 r.role, .int .i64 r.commit, .int .i64 r.hard.term, .int .i64 r.hard.vote, .ref 1460, .ref 1461, .ref 1462, .ref 1463], .ref 1464, .ref 1465]
      · skip
        refine AW.skip ?_
        refine AW.r ?_
        refine At.a 7 ?_
        refine At.sI 33 (r.hard.term + 1) (by omega) ?_
        refine At.a 5 ?_
        refine At.done rfl ?_
        refine AW.r ?_
        refine At.a 4 ?_
        refine At.sI 41 (r.id + 1) (by omega) ?_
        refine At.a 5 ?_
        refine At.done rfl ?_
        refine AW.r ?_
        refine At.a 10 ?_
        refine At.done rfl ?_
        refine AW.seq ?_
        refine AW.seq ?_
        refine AW.weak (Sub.nils [⟨true, 1140, some 7, 5005, 3, 1⟩] (by kernel_rfl)) ?_
        refine AW.region (At.start ?_)
        refine At.a 3 ?_
        refine At.done rfl ?_
        refine AW.cE r.of_ (1 : Int) (fun h3 => ?_) (fun h3 => ?_)
        · skip
          refine AW.region (At.start ?_)
          refine At.a 1 ?_
          by_cases h4 : r.hard.log.length < 80
          · skip
            refine At.c (impl_stepper_lead_T_spec  (⟨⟨r.id, r.of_, 2, r.commit, ⟨r.hard.term + 1, r.id + 1, r.hard.log⟩, [], r.next, r.match_⟩, r, [], []⟩ : Stepper) (by unfold SmallR; simp only [List.length_nil]; omega) (by dsimp only; omega) (by dsimp only; omega) (by simp only [List.length_map, List.length_append, List.length_take, List.length_drop, List.length_replicate, List.length_set, List.length_cons, List.length_nil]; omega) (by simp only [List.length_map, List.length_append, List.length_take, List.length_drop, List.length_replicate, List.length_set, List.length_cons, List.length_nil]; omega) h4) Try.call65 true [(1140, 0), (1141, 1), (5005, 2), (1143, 3), (1144, 4), (1145, 5), (1146, 6)] [(2160, 7), (2161, 8), (2162, 9), (2163, 10), (2164, 11), (2165, 12)] [] trivial ?_
            refine At.done rfl ?_
            refine AW.r ?_
            refine At.a 1 ?_
            refine At.c (impl_stepper_end_spec  (⟨(leadR (⟨r.id, r.of_, 2, r.commit, ⟨r.hard.term + 1, r.id + 1, r.hard.log⟩, [], r.next, r.match_⟩)), r, ([]) ++ leadRecs (⟨r.id, r.of_, 2, r.commit, ⟨r.hard.term + 1, r.id + 1, r.hard.log⟩, [], r.next, r.match_⟩), ([]) ++ sendAll (leadR (⟨r.id, r.of_, 2, r.commit, ⟨r.hard.term + 1, r.id + 1, r.hard.log⟩, [], r.next, r.match_⟩))⟩ : Stepper) (by dsimp only; simp only [leadRecs]; (split <;> simp))) Try.call59 true [(1140, 0), (2160, 1), (2161, 2), (2162, 3), (2163, 4), (2164, 5), (2165, 6)] [(2240, 7)] [] trivial ?_
            refine At.a 6 ?_
            refine At.done rfl ?_
            refine AW.ret ?_
            refine ⟨_, Sub.refl _ _, ?_⟩
            refine KF.conv (fun w => .tup [.agg [.int .i64 w.id, .int .i64 w.of_, .int .i64 w.role, .int .i64 w.commit, .int .i64 w.hard.term, .int .i64 w.hard.vote, .ref 0, .ref 1, .ref 2, .ref 3], .ref 4, .ref 5]) (fun w => [.arr 88 6 (w.hard.log.map encEnt), .arr 3 1 (w.yes.map encI), .arr 3 1 (w.next.map encI), .arr 3 1 (w.match_.map encI), .arr 93 10 (((stands r).2.1).map encRec), .arr 76 17 (((stands r).2.2).map encOut)]) (show ((leadR (⟨r.id, r.of_, 2, r.commit, ⟨r.hard.term + 1, r.id + 1, r.hard.log⟩, [], r.next, r.match_⟩))) = ((stands r).1) from by have q : raftOk r = true ∧ r.role ≠ 3 ∧ r.hard.term ≠ 1000000000 := (⟨hok, by omega, by omega⟩); simp only [stands, if_pos q]; first | rfl | (rw [endRecs_ne (by dsimp only; first | omega | (rw [leadR_term]; dsimp only; omega))]; simp [h1, h2, h3, h4, voteRec, leadR_term, leadR_vote, standR, zEnt, zCmd, leadRecs]; done) | (simp [h1, h2, h3, h4, standR, voteRec, zEnt, zCmd, leadRecs]; done) | (simp [h1, h2, h3, h4, standR, voteRec, zEnt, zCmd, leadRecs]; rfl) | (simp [h1, h2, h3, h4, standR, leadR, had, lead0]; done) | (simp [h1, h2, h3, h4, standR, leadR, had, lead0]; rfl)) ?_
            refine KF.conv (fun w => .tup [.agg [.int .i64 ((leadR (⟨r.id, r.of_, 2, r.commit, ⟨r.hard.term + 1, r.id + 1, r.hard.log⟩, [], r.next, r.match_⟩)).id), .int .i64 ((leadR (⟨r.id, r.of_, 2, r.commit, ⟨r.hard.term + 1, r.id + 1, r.hard.log⟩, [], r.next, r.match_⟩)).of_), .int .i64 ((leadR (⟨r.id, r.of_, 2, r.commit, ⟨r.hard.term + 1, r.id + 1, r.hard.log⟩, [], r.next, r.match_⟩)).role), .int .i64 ((leadR (⟨r.id, r.of_, 2, r.commit, ⟨r.hard.term + 1, r.id + 1, r.hard.log⟩, [], r.next, r.match_⟩)).commit), .int .i64 ((leadR (⟨r.id, r.of_, 2, r.commit, ⟨r.hard.term + 1, r.id + 1, r.hard.log⟩, [], r.next, r.match_⟩)).hard.term), .int .i64 ((leadR (⟨r.id, r.of_, 2, r.commit, ⟨r.hard.term + 1, r.id + 1, r.hard.log⟩, [], r.next, r.match_⟩)).hard.vote), .ref 0, .ref 1, .ref 2, .ref 3], .ref 4, .ref 5]) (fun w => [.arr 88 6 (((leadR (⟨r.id, r.of_, 2, r.commit, ⟨r.hard.term + 1, r.id + 1, r.hard.log⟩, [], r.next, r.match_⟩)).hard.log).map encEnt), .arr 3 1 (((leadR (⟨r.id, r.of_, 2, r.commit, ⟨r.hard.term + 1, r.id + 1, r.hard.log⟩, [], r.next, r.match_⟩)).yes).map encI), .arr 3 1 (((leadR (⟨r.id, r.of_, 2, r.commit, ⟨r.hard.term + 1, r.id + 1, r.hard.log⟩, [], r.next, r.match_⟩)).next).map encI), .arr 3 1 (((leadR (⟨r.id, r.of_, 2, r.commit, ⟨r.hard.term + 1, r.id + 1, r.hard.log⟩, [], r.next, r.match_⟩)).match_).map encI), .arr 93 10 (w.map encRec), .arr 76 17 (((stands r).2.2).map encOut)]) (show (endRecs (⟨(leadR (⟨r.id, r.of_, 2, r.commit, ⟨r.hard.term + 1, r.id + 1, r.hard.log⟩, [], r.next, r.match_⟩)), r, ([]) ++ leadRecs (⟨r.id, r.of_, 2, r.commit, ⟨r.hard.term + 1, r.id + 1, r.hard.log⟩, [], r.next, r.match_⟩), ([]) ++ sendAll (leadR (⟨r.id, r.of_, 2, r.commit, ⟨r.hard.term + 1, r.id + 1, r.hard.log⟩, [], r.next, r.match_⟩))⟩ : Stepper)) = ((stands r).2.1) from by have q : raftOk r = true ∧ r.role ≠ 3 ∧ r.hard.term ≠ 1000000000 := (⟨hok, by omega, by omega⟩); simp only [stands, if_pos q]; first | rfl | (rw [endRecs_ne (by dsimp only; first | omega | (rw [leadR_term]; dsimp only; omega))]; simp [h1, h2, h3, h4, voteRec, leadR_term, leadR_vote, standR, zEnt, zCmd, leadRecs]; done) | (simp [h1, h2, h3, h4, standR, voteRec, zEnt, zCmd, leadRecs]; done) | (simp [h1, h2, h3, h4, standR, voteRec, zEnt, zCmd, leadRecs]; rfl) | (simp [h1, h2, h3, h4, standR, leadR, had, lead0]; done) | (simp [h1, h2, h3, h4, standR, leadR, had, lead0]; rfl)) ?_
            refine KF.conv (fun w => .tup [.agg [.int .i64 ((leadR (⟨r.id, r.of_, 2, r.commit, ⟨r.hard.term + 1, r.id + 1, r.hard.log⟩, [], r.next, r.match_⟩)).id), .int .i64 ((leadR (⟨r.id, r.of_, 2, r.commit, ⟨r.hard.term + 1, r.id + 1, r.hard.log⟩, [], r.next, r.match_⟩)).of_), .int .i64 ((leadR (⟨r.id, r.of_, 2, r.commit, ⟨r.hard.term + 1, r.id + 1, r.hard.log⟩, [], r.next, r.match_⟩)).role), .int .i64 ((leadR (⟨r.id, r.of_, 2, r.commit, ⟨r.hard.term + 1, r.id + 1, r.hard.log⟩, [], r.next, r.match_⟩)).commit), .int .i64 ((leadR (⟨r.id, r.of_, 2, r.commit, ⟨r.hard.term + 1, r.id + 1, r.hard.log⟩, [], r.next, r.match_⟩)).hard.term), .int .i64 ((leadR (⟨r.id, r.of_, 2, r.commit, ⟨r.hard.term + 1, r.id + 1, r.hard.log⟩, [], r.next, r.match_⟩)).hard.vote), .ref 0, .ref 1, .ref 2, .ref 3], .ref 4, .ref 5]) (fun w => [.arr 88 6 (((leadR (⟨r.id, r.of_, 2, r.commit, ⟨r.hard.term + 1, r.id + 1, r.hard.log⟩, [], r.next, r.match_⟩)).hard.log).map encEnt), .arr 3 1 (((leadR (⟨r.id, r.of_, 2, r.commit, ⟨r.hard.term + 1, r.id + 1, r.hard.log⟩, [], r.next, r.match_⟩)).yes).map encI), .arr 3 1 (((leadR (⟨r.id, r.of_, 2, r.commit, ⟨r.hard.term + 1, r.id + 1, r.hard.log⟩, [], r.next, r.match_⟩)).next).map encI), .arr 3 1 (((leadR (⟨r.id, r.of_, 2, r.commit, ⟨r.hard.term + 1, r.id + 1, r.hard.log⟩, [], r.next, r.match_⟩)).match_).map encI), .arr 93 10 ((endRecs (⟨(leadR (⟨r.id, r.of_, 2, r.commit, ⟨r.hard.term + 1, r.id + 1, r.hard.log⟩, [], r.next, r.match_⟩)), r, ([]) ++ leadRecs (⟨r.id, r.of_, 2, r.commit, ⟨r.hard.term + 1, r.id + 1, r.hard.log⟩, [], r.next, r.match_⟩), ([]) ++ sendAll (leadR (⟨r.id, r.of_, 2, r.commit, ⟨r.hard.term + 1, r.id + 1, r.hard.log⟩, [], r.next, r.match_⟩))⟩ : Stepper)).map encRec), .arr 76 17 (w.map encOut)]) (show (([]) ++ sendAll (leadR (⟨r.id, r.of_, 2, r.commit, ⟨r.hard.term + 1, r.id + 1, r.hard.log⟩, [], r.next, r.match_⟩))) = ((stands r).2.2) from by have q : raftOk r = true ∧ r.role ≠ 3 ∧ r.hard.term ≠ 1000000000 := (⟨hok, by omega, by omega⟩); simp only [stands, if_pos q]; first | rfl | (rw [endRecs_ne (by dsimp only; first | omega | (rw [leadR_term]; dsimp only; omega))]; simp [h1, h2, h3, h4, voteRec, leadR_term, leadR_vote, standR, zEnt, zCmd, leadRecs]; done) | (simp [h1, h2, h3, h4, standR, voteRec, zEnt, zCmd, leadRecs]; done) | (simp [h1, h2, h3, h4, standR, voteRec, zEnt, zCmd, leadRecs]; rfl) | (simp [h1, h2, h3, h4, standR, leadR, had, lead0]; done) | (simp [h1, h2, h3, h4, standR, leadR, had, lead0]; rfl)) ?_
            exact KF.m [(2160, 0), (2161, 1), (2162, 2), (2163, 3), (2240, 4), (2165, 5)] [.agg [.int .i64 ((leadR (⟨r.id, r.of_, 2, r.commit, ⟨r.hard.term + 1, r.id + 1, r.hard.log⟩, [], r.next, r.match_⟩)).id), .int .i64 ((leadR (⟨r.id, r.of_, 2, r.commit, ⟨r.hard.term + 1, r.id + 1, r.hard.log⟩, [], r.next, r.match_⟩)).of_), .int .i64 ((leadR (⟨r.id, r.of_, 2, r.commit, ⟨r.hard.term + 1, r.id + 1, r.hard.log⟩, [], r.next, r.match_⟩)).role), .int .i64 ((leadR (⟨r.id, r.of_, 2, r.commit, ⟨r.hard.term + 1, r.id + 1, r.hard.log⟩, [], r.next, r.match_⟩)).commit), .int .i64 ((leadR (⟨r.id, r.of_, 2, r.commit, ⟨r.hard.term + 1, r.id + 1, r.hard.log⟩, [], r.next, r.match_⟩)).hard.term), .int .i64 ((leadR (⟨r.id, r.of_, 2, r.commit, ⟨r.hard.term + 1, r.id + 1, r.hard.log⟩, [], r.next, r.match_⟩)).hard.vote), .ref 2160, .ref 2161, .ref 2162, .ref 2163], .ref 2240, .ref 2165]
          · skip
            refine At.c (impl_stepper_lead_F_spec  (⟨⟨r.id, r.of_, 2, r.commit, ⟨r.hard.term + 1, r.id + 1, r.hard.log⟩, [], r.next, r.match_⟩, r, [], []⟩ : Stepper) (by unfold SmallR; simp only [List.length_nil]; omega) (by dsimp only; omega) (by dsimp only; omega) (by simp only [List.length_map, List.length_append, List.length_take, List.length_drop, List.length_replicate, List.length_set, List.length_cons, List.length_nil]; omega) (by simp only [List.length_map, List.length_append, List.length_take, List.length_drop, List.length_replicate, List.length_set, List.length_cons, List.length_nil]; omega) h4) Try.call65 true [(1140, 0), (1141, 1), (5005, 2), (1143, 3), (1144, 4), (1145, 5), (1146, 6)] [(2160, 7), (2161, 8), (2162, 9), (2163, 10)] [] trivial ?_
            refine At.done rfl ?_
            refine AW.r ?_
            refine At.a 1 ?_
            refine At.c (impl_stepper_end_spec  (⟨(leadR (⟨r.id, r.of_, 2, r.commit, ⟨r.hard.term + 1, r.id + 1, r.hard.log⟩, [], r.next, r.match_⟩)), r, ([]) ++ leadRecs (⟨r.id, r.of_, 2, r.commit, ⟨r.hard.term + 1, r.id + 1, r.hard.log⟩, [], r.next, r.match_⟩), ([]) ++ sendAll (leadR (⟨r.id, r.of_, 2, r.commit, ⟨r.hard.term + 1, r.id + 1, r.hard.log⟩, [], r.next, r.match_⟩))⟩ : Stepper) (by dsimp only; simp only [leadRecs]; (split <;> simp))) Try.call59 true [(1140, 0), (1141, 1), (2160, 2), (2161, 3), (2162, 4), (1145, 5), (2163, 6)] [(2240, 7)] [] trivial ?_
            refine At.a 6 ?_
            refine At.done rfl ?_
            refine AW.ret ?_
            refine ⟨_, Sub.refl _ _, ?_⟩
            refine KF.conv (fun w => .tup [.agg [.int .i64 w.id, .int .i64 w.of_, .int .i64 w.role, .int .i64 w.commit, .int .i64 w.hard.term, .int .i64 w.hard.vote, .ref 0, .ref 1, .ref 2, .ref 3], .ref 4, .ref 5]) (fun w => [.arr 88 6 (w.hard.log.map encEnt), .arr 3 1 (w.yes.map encI), .arr 3 1 (w.next.map encI), .arr 3 1 (w.match_.map encI), .arr 93 10 (((stands r).2.1).map encRec), .arr 76 17 (((stands r).2.2).map encOut)]) (show ((leadR (⟨r.id, r.of_, 2, r.commit, ⟨r.hard.term + 1, r.id + 1, r.hard.log⟩, [], r.next, r.match_⟩))) = ((stands r).1) from by have q : raftOk r = true ∧ r.role ≠ 3 ∧ r.hard.term ≠ 1000000000 := (⟨hok, by omega, by omega⟩); simp only [stands, if_pos q]; first | rfl | (rw [endRecs_ne (by dsimp only; first | omega | (rw [leadR_term]; dsimp only; omega))]; simp [h1, h2, h3, h4, voteRec, leadR_term, leadR_vote, standR, zEnt, zCmd, leadRecs]; done) | (simp [h1, h2, h3, h4, standR, voteRec, zEnt, zCmd, leadRecs]; done) | (simp [h1, h2, h3, h4, standR, voteRec, zEnt, zCmd, leadRecs]; rfl) | (simp [h1, h2, h3, h4, standR, leadR, had, lead0]; done) | (simp [h1, h2, h3, h4, standR, leadR, had, lead0]; rfl)) ?_
            refine KF.conv (fun w => .tup [.agg [.int .i64 ((leadR (⟨r.id, r.of_, 2, r.commit, ⟨r.hard.term + 1, r.id + 1, r.hard.log⟩, [], r.next, r.match_⟩)).id), .int .i64 ((leadR (⟨r.id, r.of_, 2, r.commit, ⟨r.hard.term + 1, r.id + 1, r.hard.log⟩, [], r.next, r.match_⟩)).of_), .int .i64 ((leadR (⟨r.id, r.of_, 2, r.commit, ⟨r.hard.term + 1, r.id + 1, r.hard.log⟩, [], r.next, r.match_⟩)).role), .int .i64 ((leadR (⟨r.id, r.of_, 2, r.commit, ⟨r.hard.term + 1, r.id + 1, r.hard.log⟩, [], r.next, r.match_⟩)).commit), .int .i64 ((leadR (⟨r.id, r.of_, 2, r.commit, ⟨r.hard.term + 1, r.id + 1, r.hard.log⟩, [], r.next, r.match_⟩)).hard.term), .int .i64 ((leadR (⟨r.id, r.of_, 2, r.commit, ⟨r.hard.term + 1, r.id + 1, r.hard.log⟩, [], r.next, r.match_⟩)).hard.vote), .ref 0, .ref 1, .ref 2, .ref 3], .ref 4, .ref 5]) (fun w => [.arr 88 6 (((leadR (⟨r.id, r.of_, 2, r.commit, ⟨r.hard.term + 1, r.id + 1, r.hard.log⟩, [], r.next, r.match_⟩)).hard.log).map encEnt), .arr 3 1 (((leadR (⟨r.id, r.of_, 2, r.commit, ⟨r.hard.term + 1, r.id + 1, r.hard.log⟩, [], r.next, r.match_⟩)).yes).map encI), .arr 3 1 (((leadR (⟨r.id, r.of_, 2, r.commit, ⟨r.hard.term + 1, r.id + 1, r.hard.log⟩, [], r.next, r.match_⟩)).next).map encI), .arr 3 1 (((leadR (⟨r.id, r.of_, 2, r.commit, ⟨r.hard.term + 1, r.id + 1, r.hard.log⟩, [], r.next, r.match_⟩)).match_).map encI), .arr 93 10 (w.map encRec), .arr 76 17 (((stands r).2.2).map encOut)]) (show (endRecs (⟨(leadR (⟨r.id, r.of_, 2, r.commit, ⟨r.hard.term + 1, r.id + 1, r.hard.log⟩, [], r.next, r.match_⟩)), r, ([]) ++ leadRecs (⟨r.id, r.of_, 2, r.commit, ⟨r.hard.term + 1, r.id + 1, r.hard.log⟩, [], r.next, r.match_⟩), ([]) ++ sendAll (leadR (⟨r.id, r.of_, 2, r.commit, ⟨r.hard.term + 1, r.id + 1, r.hard.log⟩, [], r.next, r.match_⟩))⟩ : Stepper)) = ((stands r).2.1) from by have q : raftOk r = true ∧ r.role ≠ 3 ∧ r.hard.term ≠ 1000000000 := (⟨hok, by omega, by omega⟩); simp only [stands, if_pos q]; first | rfl | (rw [endRecs_ne (by dsimp only; first | omega | (rw [leadR_term]; dsimp only; omega))]; simp [h1, h2, h3, h4, voteRec, leadR_term, leadR_vote, standR, zEnt, zCmd, leadRecs]; done) | (simp [h1, h2, h3, h4, standR, voteRec, zEnt, zCmd, leadRecs]; done) | (simp [h1, h2, h3, h4, standR, voteRec, zEnt, zCmd, leadRecs]; rfl) | (simp [h1, h2, h3, h4, standR, leadR, had, lead0]; done) | (simp [h1, h2, h3, h4, standR, leadR, had, lead0]; rfl)) ?_
            refine KF.conv (fun w => .tup [.agg [.int .i64 ((leadR (⟨r.id, r.of_, 2, r.commit, ⟨r.hard.term + 1, r.id + 1, r.hard.log⟩, [], r.next, r.match_⟩)).id), .int .i64 ((leadR (⟨r.id, r.of_, 2, r.commit, ⟨r.hard.term + 1, r.id + 1, r.hard.log⟩, [], r.next, r.match_⟩)).of_), .int .i64 ((leadR (⟨r.id, r.of_, 2, r.commit, ⟨r.hard.term + 1, r.id + 1, r.hard.log⟩, [], r.next, r.match_⟩)).role), .int .i64 ((leadR (⟨r.id, r.of_, 2, r.commit, ⟨r.hard.term + 1, r.id + 1, r.hard.log⟩, [], r.next, r.match_⟩)).commit), .int .i64 ((leadR (⟨r.id, r.of_, 2, r.commit, ⟨r.hard.term + 1, r.id + 1, r.hard.log⟩, [], r.next, r.match_⟩)).hard.term), .int .i64 ((leadR (⟨r.id, r.of_, 2, r.commit, ⟨r.hard.term + 1, r.id + 1, r.hard.log⟩, [], r.next, r.match_⟩)).hard.vote), .ref 0, .ref 1, .ref 2, .ref 3], .ref 4, .ref 5]) (fun w => [.arr 88 6 (((leadR (⟨r.id, r.of_, 2, r.commit, ⟨r.hard.term + 1, r.id + 1, r.hard.log⟩, [], r.next, r.match_⟩)).hard.log).map encEnt), .arr 3 1 (((leadR (⟨r.id, r.of_, 2, r.commit, ⟨r.hard.term + 1, r.id + 1, r.hard.log⟩, [], r.next, r.match_⟩)).yes).map encI), .arr 3 1 (((leadR (⟨r.id, r.of_, 2, r.commit, ⟨r.hard.term + 1, r.id + 1, r.hard.log⟩, [], r.next, r.match_⟩)).next).map encI), .arr 3 1 (((leadR (⟨r.id, r.of_, 2, r.commit, ⟨r.hard.term + 1, r.id + 1, r.hard.log⟩, [], r.next, r.match_⟩)).match_).map encI), .arr 93 10 ((endRecs (⟨(leadR (⟨r.id, r.of_, 2, r.commit, ⟨r.hard.term + 1, r.id + 1, r.hard.log⟩, [], r.next, r.match_⟩)), r, ([]) ++ leadRecs (⟨r.id, r.of_, 2, r.commit, ⟨r.hard.term + 1, r.id + 1, r.hard.log⟩, [], r.next, r.match_⟩), ([]) ++ sendAll (leadR (⟨r.id, r.of_, 2, r.commit, ⟨r.hard.term + 1, r.id + 1, r.hard.log⟩, [], r.next, r.match_⟩))⟩ : Stepper)).map encRec), .arr 76 17 (w.map encOut)]) (show (([]) ++ sendAll (leadR (⟨r.id, r.of_, 2, r.commit, ⟨r.hard.term + 1, r.id + 1, r.hard.log⟩, [], r.next, r.match_⟩))) = ((stands r).2.2) from by have q : raftOk r = true ∧ r.role ≠ 3 ∧ r.hard.term ≠ 1000000000 := (⟨hok, by omega, by omega⟩); simp only [stands, if_pos q]; first | rfl | (rw [endRecs_ne (by dsimp only; first | omega | (rw [leadR_term]; dsimp only; omega))]; simp [h1, h2, h3, h4, voteRec, leadR_term, leadR_vote, standR, zEnt, zCmd, leadRecs]; done) | (simp [h1, h2, h3, h4, standR, voteRec, zEnt, zCmd, leadRecs]; done) | (simp [h1, h2, h3, h4, standR, voteRec, zEnt, zCmd, leadRecs]; rfl) | (simp [h1, h2, h3, h4, standR, leadR, had, lead0]; done) | (simp [h1, h2, h3, h4, standR, leadR, had, lead0]; rfl)) ?_
            exact KF.m [(1141, 0), (2160, 1), (2161, 2), (2162, 3), (2240, 4), (2163, 5)] [.agg [.int .i64 ((leadR (⟨r.id, r.of_, 2, r.commit, ⟨r.hard.term + 1, r.id + 1, r.hard.log⟩, [], r.next, r.match_⟩)).id), .int .i64 ((leadR (⟨r.id, r.of_, 2, r.commit, ⟨r.hard.term + 1, r.id + 1, r.hard.log⟩, [], r.next, r.match_⟩)).of_), .int .i64 ((leadR (⟨r.id, r.of_, 2, r.commit, ⟨r.hard.term + 1, r.id + 1, r.hard.log⟩, [], r.next, r.match_⟩)).role), .int .i64 ((leadR (⟨r.id, r.of_, 2, r.commit, ⟨r.hard.term + 1, r.id + 1, r.hard.log⟩, [], r.next, r.match_⟩)).commit), .int .i64 ((leadR (⟨r.id, r.of_, 2, r.commit, ⟨r.hard.term + 1, r.id + 1, r.hard.log⟩, [], r.next, r.match_⟩)).hard.term), .int .i64 ((leadR (⟨r.id, r.of_, 2, r.commit, ⟨r.hard.term + 1, r.id + 1, r.hard.log⟩, [], r.next, r.match_⟩)).hard.vote), .ref 1141, .ref 2160, .ref 2161, .ref 2162], .ref 2240, .ref 2163]
        · skip
          refine AW.region (At.start ?_)
          refine At.a 1 ?_
          refine At.c (impl_stepper_ask_spec  (⟨⟨r.id, r.of_, 2, r.commit, ⟨r.hard.term + 1, r.id + 1, r.hard.log⟩, [], r.next, r.match_⟩, r, [], []⟩ : Stepper) (by unfold SmallR; simp only [List.length_nil]; omega) (by dsimp only; omega) (by simp only [List.length_map, List.length_append, List.length_take, List.length_drop, List.length_replicate, List.length_set, List.length_cons, List.length_nil]; omega)) Try.call42 true [(1140, 0), (1141, 1), (5005, 2), (1143, 3), (1144, 4), (1145, 5), (1146, 6)] [(2200, 7)] [] trivial ?_
          refine At.done rfl ?_
          refine AW.r ?_
          refine At.a 1 ?_
          refine At.c (impl_stepper_end_spec  (⟨⟨r.id, r.of_, 2, r.commit, ⟨r.hard.term + 1, r.id + 1, r.hard.log⟩, [], r.next, r.match_⟩, r, [], ([]) ++ asks (⟨r.id, r.of_, 2, r.commit, ⟨r.hard.term + 1, r.id + 1, r.hard.log⟩, [], r.next, r.match_⟩)⟩ : Stepper) (by dsimp only; simp)) Try.call59 true [(1140, 0), (1141, 1), (5005, 2), (1143, 3), (1144, 4), (1145, 5), (2200, 6)] [(2240, 7)] [] trivial ?_
          refine At.a 6 ?_
          refine At.done rfl ?_
          refine AW.ret ?_
          refine ⟨_, Sub.refl _ _, ?_⟩
          refine KF.conv (fun w => .tup [.agg [.int .i64 w.id, .int .i64 w.of_, .int .i64 w.role, .int .i64 w.commit, .int .i64 w.hard.term, .int .i64 w.hard.vote, .ref 0, .ref 1, .ref 2, .ref 3], .ref 4, .ref 5]) (fun w => [.arr 88 6 (w.hard.log.map encEnt), .arr 3 1 (w.yes.map encI), .arr 3 1 (w.next.map encI), .arr 3 1 (w.match_.map encI), .arr 93 10 (((stands r).2.1).map encRec), .arr 76 17 (((stands r).2.2).map encOut)]) (show ((⟨r.id, r.of_, 2, r.commit, ⟨r.hard.term + 1, r.id + 1, r.hard.log⟩, [], r.next, r.match_⟩ : Raft)) = ((stands r).1) from by have q : raftOk r = true ∧ r.role ≠ 3 ∧ r.hard.term ≠ 1000000000 := (⟨hok, by omega, by omega⟩); simp only [stands, if_pos q]; first | rfl | (rw [endRecs_ne (by dsimp only; first | omega | (rw [leadR_term]; dsimp only; omega))]; simp [h1, h2, h3, voteRec, leadR_term, leadR_vote, standR, zEnt, zCmd, leadRecs]; done) | (simp [h1, h2, h3, standR, voteRec, zEnt, zCmd, leadRecs]; done) | (simp [h1, h2, h3, standR, voteRec, zEnt, zCmd, leadRecs]; rfl) | (simp [h1, h2, h3, standR, leadR, had, lead0]; done) | (simp [h1, h2, h3, standR, leadR, had, lead0]; rfl)) ?_
          refine KF.conv (fun w => .tup [.agg [.int .i64 r.id, .int .i64 r.of_, .int .i64 2, .int .i64 r.commit, .int .i64 (r.hard.term + 1), .int .i64 (r.id + 1), .ref 0, .ref 1, .ref 2, .ref 3], .ref 4, .ref 5]) (fun w => [.arr 88 6 (r.hard.log.map encEnt), .arr 3 1 [], .arr 3 1 (r.next.map encI), .arr 3 1 (r.match_.map encI), .arr 93 10 (w.map encRec), .arr 76 17 (((stands r).2.2).map encOut)]) (show (endRecs (⟨⟨r.id, r.of_, 2, r.commit, ⟨r.hard.term + 1, r.id + 1, r.hard.log⟩, [], r.next, r.match_⟩, r, [], ([]) ++ asks (⟨r.id, r.of_, 2, r.commit, ⟨r.hard.term + 1, r.id + 1, r.hard.log⟩, [], r.next, r.match_⟩)⟩ : Stepper)) = ((stands r).2.1) from by have q : raftOk r = true ∧ r.role ≠ 3 ∧ r.hard.term ≠ 1000000000 := (⟨hok, by omega, by omega⟩); simp only [stands, if_pos q]; first | rfl | (rw [endRecs_ne (by dsimp only; first | omega | (rw [leadR_term]; dsimp only; omega))]; simp [h1, h2, h3, voteRec, leadR_term, leadR_vote, standR, zEnt, zCmd, leadRecs]; done) | (simp [h1, h2, h3, standR, voteRec, zEnt, zCmd, leadRecs]; done) | (simp [h1, h2, h3, standR, voteRec, zEnt, zCmd, leadRecs]; rfl) | (simp [h1, h2, h3, standR, leadR, had, lead0]; done) | (simp [h1, h2, h3, standR, leadR, had, lead0]; rfl)) ?_
          refine KF.conv (fun w => .tup [.agg [.int .i64 r.id, .int .i64 r.of_, .int .i64 2, .int .i64 r.commit, .int .i64 (r.hard.term + 1), .int .i64 (r.id + 1), .ref 0, .ref 1, .ref 2, .ref 3], .ref 4, .ref 5]) (fun w => [.arr 88 6 (r.hard.log.map encEnt), .arr 3 1 [], .arr 3 1 (r.next.map encI), .arr 3 1 (r.match_.map encI), .arr 93 10 ((endRecs (⟨⟨r.id, r.of_, 2, r.commit, ⟨r.hard.term + 1, r.id + 1, r.hard.log⟩, [], r.next, r.match_⟩, r, [], ([]) ++ asks (⟨r.id, r.of_, 2, r.commit, ⟨r.hard.term + 1, r.id + 1, r.hard.log⟩, [], r.next, r.match_⟩)⟩ : Stepper)).map encRec), .arr 76 17 (w.map encOut)]) (show (([]) ++ asks (⟨r.id, r.of_, 2, r.commit, ⟨r.hard.term + 1, r.id + 1, r.hard.log⟩, [], r.next, r.match_⟩)) = ((stands r).2.2) from by have q : raftOk r = true ∧ r.role ≠ 3 ∧ r.hard.term ≠ 1000000000 := (⟨hok, by omega, by omega⟩); simp only [stands, if_pos q]; first | rfl | (rw [endRecs_ne (by dsimp only; first | omega | (rw [leadR_term]; dsimp only; omega))]; simp [h1, h2, h3, voteRec, leadR_term, leadR_vote, standR, zEnt, zCmd, leadRecs]; done) | (simp [h1, h2, h3, standR, voteRec, zEnt, zCmd, leadRecs]; done) | (simp [h1, h2, h3, standR, voteRec, zEnt, zCmd, leadRecs]; rfl) | (simp [h1, h2, h3, standR, leadR, had, lead0]; done) | (simp [h1, h2, h3, standR, leadR, had, lead0]; rfl)) ?_
          exact KF.m [(1141, 0), (5005, 1), (1143, 2), (1144, 3), (2240, 4), (2200, 5)] [.agg [.int .i64 r.id, .int .i64 r.of_, .int .i64 2, .int .i64 r.commit, .int .i64 (r.hard.term + 1), .int .i64 (r.id + 1), .ref 1141, .ref 5005, .ref 1143, .ref 1144], .ref 2240, .ref 2200]
  · skip
    refine AW.r ?_
    refine At.a 4 ?_
    refine At.done rfl ?_
    refine AW.seq ?_
    refine AW.weak (Sub.nils [⟨true, 102, some 6, 5001, 88, 6⟩, ⟨true, 102, some 7, 5002, 3, 1⟩, ⟨true, 102, some 8, 5003, 3, 1⟩, ⟨true, 102, some 9, 5004, 3, 1⟩] (by kernel_rfl)) ?_
    refine AW.region (At.start ?_)
    refine At.a 1 ?_
    refine At.c (impl_stepOf_spec  r (by exact hz)) Try.call39 true [] [(1140, 0), (1141, 1), (1142, 2), (1143, 3), (1144, 4), (1145, 5), (1146, 6)] [] trivial ?_
    refine At.a 1 ?_
    refine At.done rfl ?_
    refine AW.seq ?_
    refine AW.r ?_
    refine At.a 1 ?_
    refine At.c (impl_RaftOk_spec  r (by exact hz)) Try.call40 true [] [] [] trivial ?_
    refine At.a 2 ?_
    refine At.sB 11 (!(raftOk r)) true (sayB (by rw [show (raftOk r) = false from (Bool.eq_false_iff.2 hok)]; rfl)) ?_
    refine At.a 10 ?_
    refine At.done rfl ?_
    refine AW.cond true (by kernel_rfl) (fun _ => ?_) (fun h => by cases h)
    refine AW.r ?_
    refine At.a 1 ?_
    refine At.c (impl_stepper_none_F_spec  (⟨r, r, [], []⟩ : Stepper) (by exact hz) hok) Try.call56 true [(1140, 0), (1141, 1), (1142, 2), (1143, 3), (1144, 4), (1145, 5), (1146, 6)] [(1460, 7), (1461, 8), (1462, 9), (1463, 10), (1464, 11), (1465, 12)] [] trivial ?_
    refine At.a 6 ?_
    refine At.done rfl ?_
    refine AW.ret ?_
    refine ⟨_, Sub.refl _ _, ?_⟩
    refine KF.conv (fun w => .tup [.agg [.int .i64 w.id, .int .i64 w.of_, .int .i64 w.role, .int .i64 w.commit, .int .i64 w.hard.term, .int .i64 w.hard.vote, .ref 0, .ref 1, .ref 2, .ref 3], .ref 4, .ref 5]) (fun w => [.arr 88 6 (w.hard.log.map encEnt), .arr 3 1 (w.yes.map encI), .arr 3 1 (w.next.map encI), .arr 3 1 (w.match_.map encI), .arr 93 10 (((stands r).2.1).map encRec), .arr 76 17 (((stands r).2.2).map encOut)]) (show ((⟨0, 0, 0, 0, ⟨0, 0, []⟩, [], [], []⟩ : Raft)) = ((stands r).1) from by simp [stands, same, hok]; try rfl) ?_
    refine KF.conv (fun w => .tup [.agg [.int .i64 0, .int .i64 0, .int .i64 0, .int .i64 0, .int .i64 0, .int .i64 0, .ref 0, .ref 1, .ref 2, .ref 3], .ref 4, .ref 5]) (fun w => [.arr 88 6 [], .arr 3 1 [], .arr 3 1 [], .arr 3 1 [], .arr 93 10 (w.map encRec), .arr 76 17 (((stands r).2.2).map encOut)]) (show ([]) = ((stands r).2.1) from by simp [stands, same, hok]; try rfl) ?_
    refine KF.conv (fun w => .tup [.agg [.int .i64 0, .int .i64 0, .int .i64 0, .int .i64 0, .int .i64 0, .int .i64 0, .ref 0, .ref 1, .ref 2, .ref 3], .ref 4, .ref 5]) (fun w => [.arr 88 6 [], .arr 3 1 [], .arr 3 1 [], .arr 3 1 [], .arr 93 10 [], .arr 76 17 (w.map encOut)]) (show ([]) = ((stands r).2.2) from by simp [stands, same, hok]; try rfl) ?_
    exact KF.m [(1460, 0), (1461, 1), (1462, 2), (1463, 3), (1464, 4), (1465, 5)] [.agg [.int .i64 0, .int .i64 0, .int .i64 0, .int .i64 0, .int .i64 0, .int .i64 0, .ref 1460, .ref 1461, .ref 1462, .ref 1463], .ref 1464, .ref 1465]
end Go.Proofs.Ytlmadhahghiedaa
